/-
  Texts laid together: LSub, LRef, LExt, LLaw.
-/
import Derived.Test.YtkghgdkkholieaaZL10
import Derived.Test.YtkghgdkkholieaaZL12
import Derived.Laws.ResultCell
/-
  The substitution of forms, as it is walked.
-/



namespace Go.Proofs.Ytkghgdkkholieaa
open Go Go.RowKit
variable {A : Nat → Nat → Prop}
def delF (cs : Pt) (p : Nat) : Pt := cs.take p ++ cs.drop (p + 1)
def substF (a : Pt) (n : Int) (s : ByteArray) (b : Pt) (m : Int) : (Pt × Int) × Bool :=
  if checkF a n = 0 ∧ checkF b m = 0 then
    (if hitF s a = true then
      (if (scaleF b m (coefOf s a)).2 = true then addL (delF a (posF s a)) n (scaleF b m (coefOf s a)).1.1 (scaleF b m (coefOf s a)).1.2 else (([], 0), false))
    else ((a, n), true))
  else (([], 0), false)
theorem lin_at {w : World} {cs : Pt} {n : Int} {v : Value} (h : VR (Cq A w) (linA cs n) v) : ∃ sl, v = .agg #[sl, .int .i64 n] ∧ VR (Cq A w) (coefsA cs) sl := by
  simp only [linA, VR] at h
  obtain ⟨⟨vs⟩, rfl, h⟩ := h
  match vs, h with
  | [x, y], h =>
  simp only [VRs, VR, and_true] at h
  obtain ⟨h1, rfl⟩ := h
  exact ⟨x, rfl, h1⟩
theorem lin_of {w : World} {cs : Pt} {n : Int} {sl : Value} (h : VR (Cq A w) (coefsA cs) sl) : VR (Cq A w) (linA cs n) (.agg #[sl, .int .i64 n]) := by
  simp only [linA, VR]
  exact ⟨_, rfl, by simp only [VRs, VR, and_true]; exact h⟩
theorem sl_one {w : World} {cs : Pt} {sl : Value} (h : VR (Cq A w) (coefsA cs) sl) : sl.oneCell' = true := by
  obtain ⟨a, cap, rfl, -⟩ := point_at h; rfl
theorem cell_below {w w' : World} (hb : Below w.heap.size w w') {p : Addr} {v : Value} (h : w.cell? p = some v) : w'.cell? p = some v := by
  rw [Below.cell hb (World.block_lt_of_cell? w _ h)]; exact h
/-- the function's variables -/
structure Loc (B : Nat) (x0 x1 y0 y1 z0 z1 : Value) (W : World) : Prop where
  c30 : W.cell? ⟨B, 0, none⟩ = some x0
  c31 : W.cell? ⟨B, 1, none⟩ = some x1
  c50 : W.cell? ⟨B + 1, 0, none⟩ = some y0
  c51 : W.cell? ⟨B + 1, 1, none⟩ = some y1
  c60 : W.cell? ⟨B + 1 + 1, 0, none⟩ = some z0
  c61 : W.cell? ⟨B + 1 + 1, 1, none⟩ = some z1
  f60 : W.frozen? ⟨B + 1 + 1, 0, none⟩ = false
  f61 : W.frozen? ⟨B + 1 + 1, 1, none⟩ = false
theorem frozen_below {w w' : World} (hb : Below w.heap.size w w') {p : Addr} {v : Value} (hc : w.cell? p = some v) (hf : w.frozen? p = false) : w'.frozen? p = false := by
  rw [Below.frozen hb (World.block_lt_of_cell? w _ hc)]; exact hf
theorem Loc.later {B : Nat} {x0 x1 y0 y1 z0 z1 : Value} {w w' : World} (h : Loc B x0 x1 y0 y1 z0 z1 w) (hb : Below w.heap.size w w') : Loc B x0 x1 y0 y1 z0 z1 w' :=
  ⟨cell_below hb h.c30, cell_below hb h.c31, cell_below hb h.c50, cell_below hb h.c51, cell_below hb h.c60, cell_below hb h.c61, frozen_below hb h.c60 h.f60, frozen_below hb h.c61 h.f61⟩
/-- the block B is left alone as well -/
def Ab (A : Nat → Nat → Prop) (B : Nat) : Nat → Nat → Prop := fun b o => A b o ∨ b = B
theorem coefs_to {A A' : Nat → Nat → Prop} {w W : World} {cs : Pt} {v : Value} (h : VR (Cq A w) (coefsA cs) v) (hs : ∀ b o u, w.cell? ⟨b, o, none⟩ = some u → ¬ A b o → W.cell? ⟨b, o, none⟩ = some u ∧ ¬ A' b o) : VR (Cq A' W) (coefsA cs) v := by
  simp only [coefsA, VR] at h ⊢
  obtain ⟨a, len, cap, e, h1, h2, -, h4⟩ := h
  refine ⟨a, len, cap, e, h1, h2, trivial, h4.imp id ?_⟩
  rintro ⟨b, o, sz, ea, hr⟩
  exact ⟨b, o, sz, ea, PRows.stays (A := (Cq A w).Avoid) (A' := (Cq A' W).Avoid) (fun b o u hc ha => ⟨(hs b o u hc (Cq_of ha)).1, Cq_avoid (hs b o u hc (Cq_of ha)).2⟩) _ _ _ _ hr⟩
theorem coefs_in {w W : World} {cs : Pt} {v : Value} {B : Nat} (h : VR (Cq A w) (coefsA cs) v) (hb : Below w.heap.size w W) (hB : w.heap.size ≤ B) : VR (Cq (Ab A B) W) (coefsA cs) v :=
  coefs_to h fun b o u hc ha => ⟨cell_below hb hc, fun hx => hx.elim ha fun e => by have := cell_lt hc; omega⟩
theorem coefs_out {w : World} {cs : Pt} {v x y : Value} {B : Nat} (h : VR (Cq (Ab A B) w) (coefsA cs) v) : VR (Cq A ((w.setCell ⟨B, 0, none⟩ x).setCell ⟨B, 1, none⟩ y)) (coefsA cs) v :=
  coefs_to h fun b o u hc ha => ⟨by
    have hne : b ≠ B := fun e => ha (.inr e)
    rw [World.cell?_setCell_other _ _ _ _ (fun e => hne (by cases e; rfl)), World.cell?_setCell_other _ _ _ _ (fun e => hne (by cases e; rfl))]; exact hc, fun hx => ha (.inl hx)⟩
theorem three_new (w : World) (o1 o2 o3 : Obj) : (((w.alloc o1).alloc o2).alloc o3).heap[w.heap.size]? = some o1 ∧ (((w.alloc o1).alloc o2).alloc o3).heap[w.heap.size + 1]? = some o2 ∧ (((w.alloc o1).alloc o2).alloc o3).heap[w.heap.size + 1 + 1]? = some o3 := by
  refine ⟨?_, ?_, ?_⟩ <;> (show (((w.heap.push _).push _).push _)[_]? = _)
  · rw [Array.getElem?_push, if_neg (by simp; omega), Array.getElem?_push, if_neg (by simp), Array.getElem?_push, if_pos rfl]
  · rw [Array.getElem?_push, if_neg (by simp), Array.getElem?_push, if_pos (by simp)]
  · rw [Array.getElem?_push, if_pos (by simp)]
theorem set_both {w w2 : World} {b n : Nat} {z0 z1 x y : Value} (hw : Below n w w2) (hb : n ≤ b) (c0 : w2.cell? ⟨b, 0, none⟩ = some z0) (c1 : w2.cell? ⟨b, 1, none⟩ = some z1) :
    Below n w ((w2.setCell ⟨b, 0, none⟩ x).setCell ⟨b, 1, none⟩ y) ∧ ((w2.setCell ⟨b, 0, none⟩ x).setCell ⟨b, 1, none⟩ y).cell? ⟨b, 0, none⟩ = some x ∧ ((w2.setCell ⟨b, 0, none⟩ x).setCell ⟨b, 1, none⟩ y).cell? ⟨b, 1, none⟩ = some y := by
  refine ⟨(hw.setCell (p := ⟨b, 0, none⟩) hb x).setCell (p := ⟨b, 1, none⟩) hb y, ?_, ?_⟩
  · rw [World.cell?_setCell_other _ _ _ _ (by intro e; cases e)]
    exact World.cell?_setCell_same _ _ _ c0
  · have c2 : (w2.setCell ⟨b, 0, none⟩ x).cell? ⟨b, 1, none⟩ = some z1 := by
      rw [World.cell?_setCell_other _ _ _ _ (by intro e; cases e)]; exact c1
    exact World.cell?_setCell_same _ _ _ c2
theorem res_sub {tmps : Array Value} {w : World} {b : Nat} {x y : Value} {t : Bool} (hp : tmps.getD 6 undef = .pointer (some ⟨b, 0, none⟩)) (ht : tmps.getD 7 undef = .bool t) (h0 : w.cell? ⟨b, 0, none⟩ = some x) (h1 : w.cell? ⟨b, 1, none⟩ = some y) :
    (results Try.f26 tmps).run Try.prog w = .ok (.tuple #[.agg #[x, y], .bool t]) w := by
  rw [Array.getD_eq_getD_getElem?] at hp ht
  rw [results_cell_tmp rfl]
  simp [go_sem, hp, ht, h0, h1]
/-- a fresh variable for a form -/
def Kz (B : Nat) : Iv.Know := ⟨fun w v => ∃ g, v = .pointer (some ⟨g, 0, none⟩) ∧ B ≤ g ∧ w.heap[g]? = some (.cells #[.slice none 0 0, .int .i64 0] 24 (0, 0)),
  fun w w' v he ⟨g, h1, h2, h3⟩ => ⟨g, h1, h2, by rw [he.block g (Array.getElem?_eq_some_iff.1 h3).1]; exact h3⟩⟩
/-- a variable that holds a form -/
def Kc (A : Nat → Nat → Prop) (B : Nat) (cs : Pt) (n : Int) : Iv.Know := ⟨fun w v => ∃ g sl, v = .pointer (some ⟨g, 0, none⟩) ∧ B ≤ g ∧ w.cell? ⟨g, 0, none⟩ = some sl ∧ w.cell? ⟨g, 1, none⟩ = some (.int .i64 n) ∧ VR (Cq A w) (coefsA cs) sl,
  fun w w' v he ⟨g, sl, h1, h2, h3, h4, h5⟩ => ⟨g, sl, h1, h2, cell_below he h3, cell_below he h4, h5.below0 he⟩⟩
def Kv (A : Nat → Nat → Prop) (a : AV) : Iv.Know := ⟨fun w v => VR (Cq A w) a v, fun _ _ _ h hv => hv.below0 h⟩
theorem coefs_set {w : World} {cs : Pt} {v x y : Value} {g : Nat} {t : TypeId} (h : VR (Cq A w) (coefsA cs) v) (hg : w.heap[g]? = some (.cells #[.slice none 0 0, .int .i64 0] t (0, 0))) : VR (Cq A ((w.setCell ⟨g, 0, none⟩ x).setCell ⟨g, 1, none⟩ y)) (coefsA cs) v := by
  obtain ⟨a, cap, rfl, hc, hp⟩ := point_at h
  rcases hp with rfl | ⟨b, o, rfl, hp⟩
  · simp only [coefsA, VR] at h ⊢
    obtain ⟨a', len, cap', e, h1, h2, -, -⟩ := h
    exact ⟨a', len, cap', e, h1, h2, trivial, .inl rfl⟩
  · cases cs with
    | nil =>
      simp only [coefsA, VR] at h ⊢
      obtain ⟨a', len, cap', e, h1, h2, -, -⟩ := h
      exact ⟨a', len, cap', e, h1, h2, trivial, .inl rfl⟩
    | cons c r =>
      have hne : b ≠ g := by
        rintro rfl
        have h0 : w.cell? ⟨b, o, none⟩ = some (.string c.1) := (hp 0 _ rfl).1
        simp only [World.cell?, hg] at h0
        match o, h0 with
        | 0, h0 => simp at h0
        | 1, h0 => simp at h0
        | o + 2, h0 => simp at h0
      refine point_of hc fun j u hj => ⟨?_, (hp j u hj).2⟩
      rw [World.cell?_setCell_other _ _ _ _ (fun e => hne (congrArg Addr.block e).symm), World.cell?_setCell_other _ _ _ _ (fun e => hne (congrArg Addr.block e).symm)]
      exact (hp j u hj).1
theorem tup_at {w : World} {cs : Pt} {n : Int} {t : Bool} {v : Value} (h : VR (Cq A w) (.tup [linA cs n, .bool t]) v) : ∃ sl, v = .tuple #[.agg #[sl, .int .i64 n], .bool t] ∧ VR (Cq A w) (coefsA cs) sl := by
  simp only [VR] at h
  obtain ⟨⟨vs⟩, rfl, h⟩ := h
  match vs, h with
  | [x, y], h =>
  simp only [VRs, and_true] at h
  obtain ⟨h1, h2⟩ := h
  obtain ⟨sl, rfl, h3⟩ := lin_at h1
  simp only [VR] at h2
  subst h2
  exact ⟨sl, rfl, h3⟩
theorem hit_at {s : ByteArray} {cs : Pt} (h : hitF s cs = true) : ∃ c, nth cs (posF s cs) = some c ∧ c.1 = s ∧ coefOf s cs = c.2 := by
  unfold hitF at h
  unfold coefOf
  cases hc : nth cs (posF s cs) with
  | none => rw [hc] at h; cases h
  | some c =>
    rw [hc] at h
    simp only at h ⊢
    rw [if_pos h]
    rw [sEq_nm] at h
    exact ⟨c, rfl, by simpa using h, rfl⟩
theorem flatP_at : ∀ {cs : Pt} {i : Nat} {c : ByteArray × Int}, nth cs i = some c → (flatP cs)[i * 2]? = some (.string c.1) ∧ (flatP cs)[i * 2 + 1]? = some (.int .i64 c.2)
  | x :: r, 0, c, h => by simp only [nth, Option.some.injEq] at h; subst h; exact ⟨rfl, rfl⟩
  | x :: r, i + 1, c, h => by
    have := flatP_at (cs := r) (i := i) h
    rw [show (i + 1) * 2 = i * 2 + 1 + 1 by omega]
    simpa only [flatP, List.getElem?_cons_succ] using this
  | [], _, _, h => by simp [nth] at h
theorem scale_len (cs : Pt) (n q : Int) : (scaleF cs n q).1.1.length ≤ cs.length := by
  unfold scaleF
  split
  · split
    · simp
    · split
      · split <;> simp
      · simp
  · simp
theorem coefs_far {w w' : World} {cs : Pt} {v : Value} {B : Nat} (h : VR (Cq (Ab A B) w) (coefsA cs) v) (he : Iv.ExtL [B] w w') : VR (Cq (Ab A B) w') (coefsA cs) v :=
  coefs_to h fun b o u hc ha => ⟨he.cell (by simpa using fun e => ha (.inr e)) hc, ha⟩
theorem Mine.weak {w : World} {B B' b n cap : Nat} {cs : Pt} (h : Mine w B b n cap cs) (hB : B' ≤ B) : Mine w B' b n cap cs := by
  obtain ⟨cur, h1, h2⟩ := h
  exact ⟨cur, by omega, h2⟩
/-- a list of one's own -/
def Km (B : Nat) (cs : Pt) : Iv.Know := ⟨fun w v => ∃ b cap, v = .slice (some ⟨b, 0, none⟩) cs.length cap ∧ Mine w B b cs.length cap cs, fun w w' v he ⟨b, cap, h1, h2⟩ => ⟨b, cap, h1, h2.later he⟩⟩
/-- what the result's variable holds -/
def Kf (A : Nat → Nat → Prop) (B : Nat) (cs : Pt) (n : Int) : Iv.Know := ⟨fun w _ => ∃ sl, w.cell? ⟨B, 0, none⟩ = some sl ∧ w.cell? ⟨B, 1, none⟩ = some (.int .i64 n) ∧ VR (Cq A w) (coefsA cs) sl,
  fun w w' v he ⟨sl, h1, h2, h3⟩ => ⟨sl, cell_below he h1, cell_below he h2, h3.below0 he⟩⟩
theorem km_far {B B' : Nat} {cs : Pt} (hB : B < B') : Iv.Far [B] (Km B' cs) := fun w w' v he ⟨b, cap, h1, cur, h2, h3, h4⟩ => ⟨b, cap, h1, cur, h2, by rw [he.block b (Array.getElem?_eq_some_iff.1 h3).1 (by simp; omega)]; exact h3, h4⟩
theorem kv_far1 {B : Nat} {cs : Pt} : Iv.Far [B] (Kv (Ab A B) (coefsA cs)) := fun w w' v he h => coefs_far h he
theorem kv_far2 {B : Nat} {cs : Pt} {k : Int} : Iv.Far [B] (Kv (Ab A B) (linA cs k)) := fun w w' v he h => by
  obtain ⟨sl, rfl, hsl⟩ := lin_at h
  exact lin_of (coefs_far hsl he)
theorem tup_of {w : World} {cs : Pt} {n : Int} {t : Bool} {sl : Value} (h : VR (Cq A w) (coefsA cs) sl) : VR (Cq A w) (.tup [linA cs n, .bool t]) (.tuple #[.agg #[sl, .int .i64 n], .bool t]) := by
  simp only [VR]
  exact ⟨_, rfl, by simp only [VRs, and_true]; exact ⟨lin_of h, by simp only [VR]⟩⟩
theorem kv_far3 {B : Nat} {cs : Pt} {k : Int} {b : Bool} : Iv.Far [B] (Kv (Ab A B) (.tup [linA cs k, .bool b])) := fun w w' v he h => by
  obtain ⟨sl, rfl, hsl⟩ := tup_at h
  exact tup_of (coefs_far hsl he)
theorem coefs_keep {w : World} {cs : Pt} {v x y : Value} {B : Nat} (h : VR (Cq (Ab A B) w) (coefsA cs) v) : VR (Cq (Ab A B) ((w.setCell ⟨B, 0, none⟩ x).setCell ⟨B, 1, none⟩ y)) (coefsA cs) v :=
  coefs_to h fun b o u hc ha => ⟨by
    have hne : b ≠ B := fun e => ha (.inr e)
    rw [World.cell?_setCell_other _ _ _ _ (fun e => hne (congrArg Addr.block e).symm), World.cell?_setCell_other _ _ _ _ (fun e => hne (congrArg Addr.block e).symm)]; exact hc, ha⟩
theorem coefs_less {w : World} {cs : Pt} {v : Value} {B : Nat} (h : VR (Cq (Ab A B) w) (coefsA cs) v) : VR (Cq A w) (coefsA cs) v :=
  coefs_to h fun b o u hc ha => ⟨hc, fun hx => ha (.inl hx)⟩
theorem own_below {w w5 w6 : World} {L : List Nat} (h : Below w.heap.size w w5) (he : Iv.ExtS L w5 w6) (hL : ∀ k ∈ L, w.heap.size ≤ k := by simp; omega) : Below w.heap.size w w6 :=
  ⟨he.ext.os.trans h.os, he.ext.tape.trans h.tape, he.ext.output.trans h.output, Nat.le_trans h.size he.ext.size, fun k hk => (he.ext.block k (Nat.lt_of_lt_of_le hk h.size) fun hm => by have := hL k hm; omega).trans (h.block k hk)⟩
/-- two cells of a fresh variable for a form are written -/
def OneSet (n : Nat) (w w' : World) : Prop := Below n w w' ∧ ∃ g x y t, w.heap[g]? = some (.cells #[.slice none 0 0, .int .i64 0] t (0, 0)) ∧ w' = (w.setCell ⟨g, 0, none⟩ x).setCell ⟨g, 1, none⟩ y
theorem kv_set2 {n : Nat} {cs : Pt} {k : Int} : Iv.Low (OneSet n) (Kv A (linA cs k)) := fun w w' v ⟨_, g, x, y, t, hg, e⟩ h => by
  obtain ⟨sl, rfl, hsl⟩ := lin_at h
  subst e
  exact lin_of (coefs_set hsl hg)
theorem kv_set {n : Nat} {cs : Pt} {k : Int} {b : Bool} : Iv.Low (OneSet n) (Kv A (.tup [linA cs k, .bool b])) := fun w w' v ⟨_, g, x, y, t, hg, e⟩ h => by
  obtain ⟨sl, rfl, hsl⟩ := tup_at h
  subst e
  show VR _ _ _
  simp only [VR]
  exact ⟨_, rfl, by simp only [VRs, and_true]; exact ⟨lin_of (coefs_set hsl hg), by simp only [VR]⟩⟩
/-- how the walk ends -/
def SubPost (A : Nat → Nat → Prop) (w : World) (r : (Pt × Int) × Bool) : Ending → World → Prop := fun e w' => ∃ v, e = .returned v ∧ Below w.heap.size w w' ∧ VR (Cq A w') (.tup [linA r.1.1 r.1.2, .bool r.2]) v
theorem sub_post {w w' : World} {r : (Pt × Int) × Bool} {sl : Value} {k : Int} {t : Bool} (hb : Below w.heap.size w w') (h1 : VR (Cq A w') (coefsA r.1.1) sl) (h2 : k = r.1.2) (h3 : t = r.2) : SubPost A w r (.returned (.tuple #[.agg #[sl, .int .i64 k], .bool t])) w' := by
  refine ⟨_, rfl, hb, ?_⟩
  simp only [VR]
  refine ⟨_, rfl, ?_⟩
  simp only [VRs, and_true]
  subst h2 h3
  exact ⟨lin_of h1, by simp only [VR]⟩
theorem nil_coefs {w : World} : VR (Cq A w) (coefsA []) (.slice none 0 0) := by
  simp only [coefsA, VR]; exact ⟨_, _, _, rfl, rfl, Nat.le_refl _, trivial, .inl rfl⟩
set_option maxRecDepth 100000 in
set_option maxHeartbeats 2000000 in
theorem subst_in {w : World} (hA : UnderA A w) {a b : Pt} {n m : Int} {s : ByteArray} {va vb : Value} (ha : VR (Cq A w) (linA a n) va) (hb : VR (Cq A w) (linA b m) vb) (hla : a.length ≤ 100000) (hlb : b.length ≤ 100000) :
    Calls Try.prog 26 #[va, .string s, vb] w (SubPost A w (substF a n s b m)) := by
  obtain ⟨sa, rfl, hsa⟩ := lin_at ha
  obtain ⟨sb, rfl, hsb⟩ := lin_at hb
  obtain ⟨aa, ca, rfl, -⟩ := point_at hsa
  obtain ⟨ab, cb, rfl, -⟩ := point_at hsb
  obtain ⟨R, hR⟩ : ∃ R, R = substF a n s b m := ⟨_, rfl⟩
  rw [← hR]
  obtain ⟨W1, hW1⟩ : ∃ W1, W1 = ((w.alloc (Obj.cells #[Value.slice aa a.length ca, .int .i64 n] 24)).alloc (Obj.cells #[Value.slice ab b.length cb, .int .i64 m] 24)).alloc (Obj.cells #[.slice none 0 0, .int .i64 0] 24) := ⟨_, rfl⟩
  have hb1 : Below w.heap.size w W1 := by rw [hW1]; exact (((Below.refl _ w).alloc (Nat.le_refl _) _).alloc (by simp) _).alloc (by simp; omega) _
  have hs1 : W1.heap.size = w.heap.size + 3 := by rw [hW1]; simp
  have hL1 : Loc w.heap.size (Value.slice aa a.length ca) (.int .i64 n) (Value.slice ab b.length cb) (.int .i64 m) (.slice none 0 0) (.int .i64 0) W1 := by
    obtain ⟨g1, g2, g3⟩ := three_new w (Obj.cells #[Value.slice aa a.length ca, .int .i64 n] 24) (Obj.cells #[Value.slice ab b.length cb, .int .i64 m] 24) (Obj.cells #[.slice none 0 0, .int .i64 0] 24)
    rw [← hW1] at g1 g2 g3
    constructor <;> simp [World.cell?, World.frozen?, g1, g2, g3]
  have hA1 : UnderA (Ab A (w.heap.size + 1 + 1)) W1 := fun b o h => by
    rcases h with h | h
    · exact hA.le hb1.size b o h
    · omega
  have hsa1 := coefs_in hsa hb1 (B := w.heap.size + 1 + 1) (by omega)
  have hsb1 := coefs_in hsb hb1 (B := w.heap.size + 1 + 1) (by omega)
  have HW1 := Lib.hid hW1
  have hC1 := call0 (vs := #[.agg #[Value.slice aa a.length ca, .int .i64 n]]) hA1 (fun S tk k => linear_Check S tk k a n (by omega)) (by simp only [VRs, and_true]; exact lin_of hsa1)
  clear hW1
  go_enter Try.func26, Try.ntmps26
  go_wp2_with fail
  rw [← HW1.out]
  clear HW1
  refine hC1.mono ?_
  clear hC1
  rintro e w2 ⟨v, rfl, hb2, hv⟩
  simp only [VR] at hv
  subst hv
  have hL2 := hL1.later hb2
  have hw2 : Below w.heap.size w w2 := hb1.trans (hb2.mono hb1.size)
  have hs2 : w.heap.size + 3 ≤ w2.heap.size := Nat.le_trans (Nat.le_of_eq hs1.symm) hb2.size
  obtain ⟨c30, c31, c50, c51, c60, c61, f60, f61⟩ := hL2
  by_cases h1 : checkF a n = 0
  rotate_left
  · have d1 : (checkF a n != 0) = true := by simpa using h1
    have hR0 : R = (([], 0), false) := by rw [hR]; unfold substF; rw [if_neg (fun h => h1 h.1)]
    go_wp2_with fail
    obtain ⟨q1, q2, q3⟩ := set_both (x := .slice none 0 0) (y := .int .i64 0) hw2 (by omega) c60 c61
    refine bodyPost_ret (res_sub rfl rfl q2 q3) rfl (sub_post q1 ?_ ?_ ?_)
    · rw [hR0]; exact nil_coefs
    · rw [hR0]
    · rw [hR0]
  have d1 : (checkF a n != 0) = false := by simpa using h1
  have hC2 := call0 (vs := #[.agg #[Value.slice ab b.length cb, .int .i64 m]]) (hA1.le hb2.size) (fun S tk k => linear_Check S tk k b m (by omega)) (by simp only [VRs, and_true]; exact lin_of (hsb1.below0 hb2))
  go_wp2_with fail
  refine hC2.mono ?_
  clear hC2
  rintro e w3 ⟨v, rfl, hb3, hv⟩
  simp only [VR] at hv
  subst hv
  have hL3 := (Loc.mk c30 c31 c50 c51 c60 c61 f60 f61).later hb3
  have hw3 : Below w.heap.size w w3 := hw2.trans (hb3.mono hw2.size)
  have hs3 : w.heap.size + 3 ≤ w3.heap.size := Nat.le_trans hs2 hb3.size
  have hsa3 := (hsa1.below0 hb2).below0 hb3
  have hsb3 := (hsb1.below0 hb2).below0 hb3
  have hA3 := (hA1.le hb2.size).le hb3.size
  clear hsa1 hsb1 hA1 hL1 hb1 hs1 hb2 hb3 hw2 hs2 c30 c31 c50 c51 c60 c61 f60 f61
  obtain ⟨c30, c31, c50, c51, c60, c61, f60, f61⟩ := hL3
  by_cases h2 : checkF b m = 0
  rotate_left
  · have d2 : (checkF b m != 0) = true := by simpa using h2
    have hR0 : R = (([], 0), false) := by rw [hR]; unfold substF; rw [if_neg (fun h => h2 h.2)]
    go_wp2_with fail
    obtain ⟨q1, q2, q3⟩ := set_both (x := .slice none 0 0) (y := .int .i64 0) hw3 (by omega) c60 c61
    refine bodyPost_ret (res_sub rfl rfl q2 q3) rfl (sub_post q1 ?_ ?_ ?_)
    · rw [hR0]; exact nil_coefs
    · rw [hR0]
    · rw [hR0]
  have d2 : (checkF b m != 0) = false := by simpa using h2
  have hC3 := call0 (vs := #[Value.slice aa a.length ca, .string s, .func (.func 55) #[] #[]]) hA3 (fun S tk k => search_fn S tk k a s (check_inc h1) hla) (by
    simp only [VRs, and_true]
    exact ⟨hsa3, by simp only [VR], by simp only [VR]; exact ⟨#[], rfl, by simp only [VRs]⟩⟩)
  go_wp2_with fail
  refine hC3.mono ?_
  clear hC3
  rintro e w4 ⟨v, rfl, hb4, hv⟩
  simp only [VR] at hv
  obtain ⟨⟨vs⟩, rfl, hv⟩ := hv
  match vs, hv with
  | [x, y], hv =>
  simp only [VRs, VR, and_true] at hv
  obtain ⟨rfl, rfl⟩ := hv
  have hL4 := (Loc.mk c30 c31 c50 c51 c60 c61 f60 f61).later hb4
  have hw4 : Below w.heap.size w w4 := hw3.trans (hb4.mono hw3.size)
  have hs4 : w.heap.size + 3 ≤ w4.heap.size := Nat.le_trans hs3 hb4.size
  have hsa4 := hsa3.below0 hb4
  have hsb4 := hsb3.below0 hb4
  have hA4 := hA3.le hb4.size
  clear hsa3 hsb3 hA3 hb4 hw3 hs3 c30 c31 c50 c51 c60 c61 f60 f61
  obtain ⟨c30, c31, c50, c51, c60, c61, f60, f61⟩ := hL4
  cases h3 : hitF s a with
  | false =>
    have hR0 : R = ((a, n), true) := by rw [hR]; unfold substF; rw [if_pos ⟨h1, h2⟩, h3, if_neg (by simp)]
    have hC4 := call0 (vs := #[.agg #[Value.slice aa a.length ca, .int .i64 n]]) hA4 (fun S tk k => linear_copied S tk k a n (by omega)) (by simp only [VRs, and_true]; exact lin_of hsa4)
    go_wp2_with fail
    refine hC4.mono ?_
    clear hC4
    rintro e w5 ⟨v, rfl, hb5, hv⟩
    obtain ⟨sl, rfl, hsl⟩ := lin_at hv
    have hL5 := (Loc.mk c30 c31 c50 c51 c60 c61 f60 f61).later hb5
    have hw5 : Below w.heap.size w w5 := hw4.trans (hb5.mono hw4.size)
    clear c30 c31 c50 c51 c60 c61 f60 f61
    obtain ⟨c30, c31, c50, c51, c60, c61, f60, f61⟩ := hL5
    obtain ⟨asl, csl, rfl, -⟩ := point_at hsl
    go_wp2_with fail
    obtain ⟨q1, q2, q3⟩ := set_both (x := .slice asl a.length csl) (y := .int .i64 n) hw5 (by omega) c60 c61
    refine bodyPost_ret (res_sub rfl rfl q2 q3) rfl (sub_post q1 ?_ ?_ ?_)
    · rw [hR0]; exact coefs_out hsl
    · rw [hR0]
    · rw [hR0]
  | true =>
    obtain ⟨c, hc1, hc2, hc3⟩ := hit_at h3
    have hpos := nth_lt hc1
    generalize hq0 : posF s a = q at hc1 hpos ⊢
    generalize hk0 : coefOf s a = k at hc3
    have hne : a ≠ [] := by rintro rfl; simp at hpos
    obtain ⟨ba, oa, hab, hcell⟩ : ∃ ba oa, aa = some ⟨ba, oa, none⟩ ∧ ∀ j u, (flatP a)[j]? = some u → w4.cell? ⟨ba, oa + j, none⟩ = some u ∧ ¬ Ab A (w.heap.size + 1 + 1) ba (oa + j) := by
      obtain ⟨a', cap', e, -, hp⟩ := point_at hsa4
      cases e
      exact hp.resolve_left hne
    subst hab
    have hkc : w4.cell? ⟨ba, oa + q * 2 + 1, none⟩ = some (.int .i64 k) := by
      have := (hcell _ _ (flatP_at hc1).2).1
      rw [hc3, show oa + q * 2 + 1 = oa + (q * 2 + 1) by omega]; exact this
    clear hcell hc1 hc2 hc3
    obtain ⟨⟨⟨c1, c2⟩, ok⟩, hsc⟩ : ∃ r, r = scaleF b m k := ⟨_, rfl⟩
    have hS := fun S tk k' => linear_Scale S tk k' b m k (by omega)
    rw [← hsc] at hS
    have hqi : (q : Int) < (a.length : Int) := by omega
    go_wp2_with fail
    refine Iv.wp_region_own (OneSet w4.heap.size) (fun _ _ h => h.1) 12 (fun j => j == 11) [some 32, some 33, some 34, some 35, some 36, some 37, some 38, some 39, some 31, some 40, some 41, some 10, none, some 9] 14 13 [Iv.Is (.agg #[.slice ab b.length cb, .int .i64 m]), Iv.Is (.pointer (some ⟨w.heap.size, 0, none⟩)), Iv.Is (.slice (some ⟨ba, oa, none⟩) a.length ca), Iv.Is (.int .i64 (q : Nat)), Iv.Is (.pointer (some ⟨ba, oa + q * 2, none⟩)), Iv.Is (.pointer (some ⟨ba, oa + q * 2 + 1, none⟩)), Iv.Is (.int .i64 k), Kv (Ab A (w.heap.size + 1 + 1)) (.tup [linA c1 c2, .bool ok]), Kv (Ab A (w.heap.size + 1 + 1)) (.tup [linA c1 c2, .bool ok]), Kv (Ab A (w.heap.size + 1 + 1)) (linA c1 c2), Iv.Is (.bool ok), Kz w4.heap.size, Iv.Any] [Iv.Any, Iv.Any, Iv.Any, Iv.Any, Iv.Any, Iv.Any, Iv.Any, Iv.Any, Iv.Any, Iv.Any, Iv.Any, (Kc (Ab A (w.heap.size + 1 + 1)) w4.heap.size c1 c2), Iv.Any] mixed rfl rfl (by decide) (by decide) (by kernel_rfl) (fun j hj => by simp; omega) (by kernel_rfl) ?hlow ?hop ?hsp ?hend
    case hlow => exact ⟨fun _ => Iv.low_is, ⟨fun _ => Iv.low_is, ⟨fun _ => Iv.low_is, ⟨fun _ => Iv.low_is, ⟨fun _ => Iv.low_is, ⟨fun _ => Iv.low_is, ⟨fun _ => Iv.low_is, ⟨fun _ => kv_set, ⟨fun _ => kv_set, ⟨fun _ => kv_set2, ⟨fun _ => Iv.low_is, ⟨Iv.low_not (by kernel_rfl), ⟨Iv.low_not (by kernel_rfl), trivial⟩⟩⟩⟩⟩⟩⟩⟩⟩⟩⟩⟩⟩
    case hop =>
      refine Iv.allOps_cons ?o0 (Iv.allOps_cons ?o1 (Iv.allOps_cons ?o2 (Iv.allOps_cons ?o3 (Iv.allOps_cons ?o4 (Iv.allOps_cons ?o5 (Iv.allOps_cons ?o6 (Iv.allOps_cons ?o7 (Iv.allOps_cons ?o8 (Iv.allOps_cons ?o9 (Iv.allOps_cons ?o10 (Iv.allOps_cons ?o11 (Iv.allOps_cons ?o12 Iv.allOps_nil))))))))))))
      case o0 =>
        refine Iv.opGoalD_plain rfl rfl (by simp) fun f w' hr hk => ?_
        have x30 := cell_below hr c30
        have x50 := cell_below hr c50
        have x51 := cell_below hr c51
        have xk := cell_below hr hkc
        have HR := Lib.hid hr
        clear hr
        simp [List.filter, Iv.putD, Iv.depsO, Iv.depsL, Iv.phi, Iv.Is, Iv.KnowAll, Region.binds, Iv.put_some, Iv.put_none, Kv, Kz, Kc] at hk ⊢
        try simp only [hk]
        go_wp2
        exact Iv.onePost_is _ rfl rfl ⟨Iv.Ext.refl _, rfl⟩
      case o1 =>
        refine Iv.opGoalD_plain rfl rfl (by simp) fun f w' hr hk => ?_
        have x30 := cell_below hr c30
        have x50 := cell_below hr c50
        have x51 := cell_below hr c51
        have xk := cell_below hr hkc
        have HR := Lib.hid hr
        clear hr
        simp [List.filter, Iv.putD, Iv.depsO, Iv.depsL, Iv.phi, Iv.Is, Iv.KnowAll, Region.binds, Iv.put_some, Iv.put_none, Kv, Kz, Kc] at hk ⊢
        try simp only [hk]
        go_wp2
        exact Iv.onePost_is _ rfl rfl ⟨Iv.Ext.refl _, rfl⟩
      case o2 =>
        refine Iv.opGoalD_plain rfl rfl (by simp) fun f w' hr hk => ?_
        have x30 := cell_below hr c30
        have x50 := cell_below hr c50
        have x51 := cell_below hr c51
        have xk := cell_below hr hkc
        have HR := Lib.hid hr
        clear hr
        simp [List.filter, Iv.putD, Iv.depsO, Iv.depsL, Iv.phi, Iv.Is, Iv.KnowAll, Region.binds, Iv.put_some, Iv.put_none, Kv, Kz, Kc] at hk ⊢
        try simp only [hk]
        go_wp2
        exact Iv.onePost_is _ rfl rfl ⟨Iv.Ext.refl _, rfl⟩
      case o3 =>
        refine Iv.opGoalD_plain rfl rfl (by simp) fun f w' hr hk => ?_
        have x30 := cell_below hr c30
        have x50 := cell_below hr c50
        have x51 := cell_below hr c51
        have xk := cell_below hr hkc
        have HR := Lib.hid hr
        clear hr
        simp [List.filter, Iv.putD, Iv.depsO, Iv.depsL, Iv.phi, Iv.Is, Iv.KnowAll, Region.binds, Iv.put_some, Iv.put_none, Kv, Kz, Kc] at hk ⊢
        try simp only [hk]
        go_wp2
        exact Iv.onePost_is _ rfl rfl ⟨Iv.Ext.refl _, rfl⟩
      case o4 =>
        refine Iv.opGoalD_plain rfl rfl (by simp) fun f w' hr hk => ?_
        have x30 := cell_below hr c30
        have x50 := cell_below hr c50
        have x51 := cell_below hr c51
        have xk := cell_below hr hkc
        have HR := Lib.hid hr
        clear hr
        simp [List.filter, Iv.putD, Iv.depsO, Iv.depsL, Iv.phi, Iv.Is, Iv.KnowAll, Region.binds, Iv.put_some, Iv.put_none, Kv, Kz, Kc] at hk ⊢
        simp only [hk]
        have hq0 : (0 : Int) ≤ (q : Int) := by omega
        go_wp2
        exact Iv.onePost_is _ rfl rfl ⟨Iv.Ext.refl _, rfl⟩
      case o5 =>
        refine Iv.opGoalD_plain rfl rfl (by simp) fun f w' hr hk => ?_
        have x30 := cell_below hr c30
        have x50 := cell_below hr c50
        have x51 := cell_below hr c51
        have xk := cell_below hr hkc
        have HR := Lib.hid hr
        clear hr
        simp [List.filter, Iv.putD, Iv.depsO, Iv.depsL, Iv.phi, Iv.Is, Iv.KnowAll, Region.binds, Iv.put_some, Iv.put_none, Kv, Kz, Kc] at hk ⊢
        try simp only [hk]
        go_wp2
        exact Iv.onePost_is _ rfl rfl ⟨Iv.Ext.refl _, rfl⟩
      case o6 =>
        refine Iv.opGoalD_plain rfl rfl (by simp) fun f w' hr hk => ?_
        have x30 := cell_below hr c30
        have x50 := cell_below hr c50
        have x51 := cell_below hr c51
        have xk := cell_below hr hkc
        have HR := Lib.hid hr
        clear hr
        simp [List.filter, Iv.putD, Iv.depsO, Iv.depsL, Iv.phi, Iv.Is, Iv.KnowAll, Region.binds, Iv.put_some, Iv.put_none, Kv, Kz, Kc] at hk ⊢
        try simp only [hk]
        go_wp2
        exact Iv.onePost_is _ rfl rfl ⟨Iv.Ext.refl _, rfl⟩
      case o7 =>
        refine Iv.opGoalD_plain rfl rfl (by simp) fun f w' hr hk => ?_
        have x30 := cell_below hr c30
        have x50 := cell_below hr c50
        have x51 := cell_below hr c51
        have xk := cell_below hr hkc
        have HR := Lib.hid hr
        clear hr
        simp [List.filter, Iv.putD, Iv.depsO, Iv.depsL, Iv.phi, Iv.Is, Iv.KnowAll, Region.binds, Iv.put_some, Iv.put_none, Kv, Kz, Kc] at hk ⊢
        have hcall := call0 (A := Ab A (w.heap.size + 1 + 1)) (vs := #[.agg #[.slice ab b.length cb, .int .i64 m], .int .i64 k]) (hA4.le HR.out.size) hS (by simp only [VRs, and_true]; exact ⟨lin_of (hsb4.below0 HR.out), by simp only [VR]⟩)
        simp only [hk]
        go_wp2_with fail
        refine hcall.mono ?_
        rintro e w6 ⟨v, rfl, hb6, hv6⟩
        go_wp2
        exact Iv.onePost_is _ rfl rfl ⟨hb6, hv6⟩
      case o8 =>
        refine Iv.opGoalD_plain rfl rfl (by simp) fun f w' hr hk => ?_
        have x30 := cell_below hr c30
        have x50 := cell_below hr c50
        have x51 := cell_below hr c51
        have xk := cell_below hr hkc
        have HR := Lib.hid hr
        clear hr
        simp [List.filter, Iv.putD, Iv.depsO, Iv.depsL, Iv.phi, Iv.Is, Iv.KnowAll, Region.binds, Iv.put_some, Iv.put_none, Kv, Kz, Kc] at hk ⊢
        go_wp2
        exact Iv.onePost_is _ rfl rfl ⟨Iv.Ext.refl _, hk⟩
      case o9 =>
        refine Iv.opGoalD_plain rfl rfl (by simp) fun f w' hr hk => ?_
        have x30 := cell_below hr c30
        have x50 := cell_below hr c50
        have x51 := cell_below hr c51
        have xk := cell_below hr hkc
        have HR := Lib.hid hr
        clear hr
        simp [List.filter, Iv.putD, Iv.depsO, Iv.depsL, Iv.phi, Iv.Is, Iv.KnowAll, Region.binds, Iv.put_some, Iv.put_none, Kv, Kz, Kc] at hk ⊢
        obtain ⟨sl, he, hsl⟩ := tup_at hk
        rw [he]
        go_wp2
        exact Iv.onePost_is _ rfl rfl ⟨Iv.Ext.refl _, lin_of hsl⟩
      case o10 =>
        refine Iv.opGoalD_plain rfl rfl (by simp) fun f w' hr hk => ?_
        have x30 := cell_below hr c30
        have x50 := cell_below hr c50
        have x51 := cell_below hr c51
        have xk := cell_below hr hkc
        have HR := Lib.hid hr
        clear hr
        simp [List.filter, Iv.putD, Iv.depsO, Iv.depsL, Iv.phi, Iv.Is, Iv.KnowAll, Region.binds, Iv.put_some, Iv.put_none, Kv, Kz, Kc] at hk ⊢
        obtain ⟨sl, he, hsl⟩ := tup_at hk
        rw [he]
        go_wp2
        exact Iv.onePost_is _ rfl rfl ⟨Iv.Ext.refl _, rfl⟩
      case o11 =>
        refine Iv.opGoalD_plain rfl rfl (by simp) fun f w' hr hk => ?_
        have x30 := cell_below hr c30
        have x50 := cell_below hr c50
        have x51 := cell_below hr c51
        have xk := cell_below hr hkc
        have HR := Lib.hid hr
        clear hr
        simp [List.filter, Iv.putD, Iv.depsO, Iv.depsL, Iv.phi, Iv.Is, Iv.KnowAll, Region.binds, Iv.put_some, Iv.put_none, Kv, Kz, Kc] at hk ⊢
        go_wp2
        exact Iv.onePost_is _ rfl rfl ⟨Iv.Ext.alloc _ _, _, rfl, HR.out.size, heap_alloc_same _ _⟩
      case o12 =>
        exact fun h => absurd rfl h
    case hsp =>
      intro f w5 hr
      refine Iv.own_store rfl rfl (fun _ _ _ h => h) fun hk => ?_
      simp [Iv.putD, Iv.depsO, Iv.depsL, Iv.phi, Iv.KnowAll, Region.binds, Iv.put_some, Iv.put_none, Kv, Kz, Iv.Any, Iv.Is] at hk ⊢
      obtain ⟨⟨g, hg1, hg2, hg3⟩, hk9, -⟩ := hk
      obtain ⟨sl, he9, hsl⟩ := lin_at hk9
      obtain ⟨al, cl, rfl, -⟩ := point_at hsl
      have z0 : w5.cell? ⟨g, 0, none⟩ = some (.slice none 0 0) := by simp [World.cell?, hg3]
      have z1 : w5.cell? ⟨g, 1, none⟩ = some (.int .i64 0) := by simp [World.cell?, hg3]
      have y0 : w5.frozen? ⟨g, 0, none⟩ = false := by simp [World.frozen?, hg3]
      have y1 : w5.frozen? ⟨g, 1, none⟩ = false := by simp [World.frozen?, hg3]
      have HG := Lib.hid hg3
      have HB := Lib.hid hg2
      clear hg3 hg2 hk9 hr
      rw [he9, hg1]
      go_wp2
      obtain ⟨p1, p2, p3⟩ := set_both (n := w4.heap.size) (x := .slice al c1.length cl) (y := .int .i64 c2) (Below.refl _ w5) HB.out z0 z1
      exact ⟨rfl, rfl, ⟨p1, g, _, _, _, HG.out, rfl⟩, g, _, rfl, HB.out, p2, p3, coefs_set hsl HG.out⟩
    case hend =>
      intro f w5 hr hk hq
      have k9 := hk 9 (by decide) rfl
      have k10 := hk 10 (by decide) rfl
      have k11 := hq 11 (by decide) rfl
      simp [Iv.phi, Iv.Is, Kv, Kc] at k9 k10 k11
      clear hk hq
      simp [Iv.putD, List.range, List.range.loop, Iv.put_some, Iv.put_none]
      obtain ⟨g, k11, hg, sl, g0, g1, hsl⟩ := k11
      have hL5 := (Loc.mk c30 c31 c50 c51 c60 c61 f60 f61).later hr
      have hw5 : Below w.heap.size w w5 := hw4.trans (hr.mono hw4.size)
      have hs5 : w.heap.size + 3 ≤ w5.heap.size := Nat.le_trans hs4 hr.size
      have hsa5 := hsa4.below0 hr
      have hA5 := hA4.le hr.size
      have hne6 : g ≠ w.heap.size + 1 + 1 := by omega
      clear hsa4 hsb4 hA4 hw4 hs4 hr c30 c31 c50 c51 c60 c61 f60 f61 hkc
      obtain ⟨c30, c31, c50, c51, c60, c61, f60, f61⟩ := hL5
      rw [k11, k10]
      cases ok with
      | false =>
        have hR0 : R = (([], 0), false) := by
          rw [hR]; unfold substF
          rw [if_pos ⟨h1, h2⟩, h3, if_pos rfl, hk0, ← hsc]; rfl
        go_wp2_with fail
        obtain ⟨q1, q2, q3⟩ := set_both (x := .slice none 0 0) (y := .int .i64 0) hw5 (by omega) c60 c61
        refine bodyPost_ret (res_sub rfl rfl q2 q3) rfl (sub_post q1 ?_ ?_ ?_)
        · rw [hR0]; exact nil_coefs
        · rw [hR0]
        · rw [hR0]
      | true =>
        obtain ⟨al, cl, rfl, -⟩ := point_at hsl
        have hR0 : R = addL (delF a q) n c1 c2 := by
          rw [hR]; unfold substF
          rw [if_pos ⟨h1, h2⟩, h3, if_pos rfl, hk0, hq0, ← hsc]; rfl
        obtain ⟨⟨⟨r1, r2⟩, r3⟩, hr0⟩ : ∃ r, r = addL (delF a q) n c1 c2 := ⟨_, rfl⟩
        have hlc1 : c1.length ≤ 100000 := by
          have := scale_len b m k
          rw [← hsc] at this
          exact Nat.le_trans this hlb
        have hlda : (delF a q).length ≤ 100000 := by simp [delF]; omega
        have hAdd := fun S tk k' => linear_Add S tk k' (delF a q) c1 n c2 hlda hlc1
        rw [← hr0] at hAdd hR0
        have hqw : IntKind.i64.wrap ((q : Int) + 1) = ((q + 1 : Nat) : Int) := by rw [wrap_of (by unfold i64; omega)]; omega
        have hg5 := cell_lt g0
        have hgN : g ∉ [w.heap.size + 1 + 1] := by simpa using hne6
        have HNE := Lib.hid hne
        go_wp2_with fail
        refine Iv.wp_region_own2 14 ([w.heap.size + 1 + 1]) (Below w5.heap.size) (fun _ _ h k => k.below h) 6 (fun j => j == 2) [some 45, some 46, some 47, some 48, some 49, some 50, some 51, some 52, some 53, some 54, some 55, some 56, some 57, some 58, none, some 7] 16 15 [Iv.Is (.pointer (some ⟨w.heap.size, 0, none⟩)), Iv.Is (.slice (some ⟨ba, oa, none⟩) a.length ca), Km w5.heap.size a, Iv.Is (.int .i64 (q : Nat)), Iv.Is (.int .i64 (q : Nat)), Iv.Is (.int .i64 ((q + 1 : Nat) : Int)), Kv (Ab A (w.heap.size + 1 + 1)) (coefsA (delF a q)), Iv.Is (.pointer (some ⟨w.heap.size, 1, none⟩)), Iv.Is (.int .i64 n), Kv (Ab A (w.heap.size + 1 + 1)) (linA (delF a q) n), Iv.Is (.agg #[.slice al c1.length cl, .int .i64 c2]), Kv (Ab A (w.heap.size + 1 + 1)) (.tup [linA r1 r2, .bool r3]), Kv (Ab A (w.heap.size + 1 + 1)) (linA r1 r2), Iv.Is (.bool r3), Kf (Ab A (w.heap.size + 1 + 1)) (w.heap.size + 1 + 1) r1 r2] [Iv.Any, Iv.Any, Iv.Any, Iv.Any, Iv.Any, Iv.Any, Iv.Any, Iv.Any, Iv.Any, Iv.Any, Iv.Any, Iv.Any, Iv.Any, Iv.Any, Iv.Any] mixed rfl rfl (by decide) (by decide) (by kernel_rfl) (fun j hj => by simp; omega) (by kernel_rfl) (by decide) ?hfar ?hfarp (by decide) ?hlow ?hop ?hzp ?hsp ?hend
        case hlow => exact ⟨fun _ => Iv.low_is, ⟨fun _ => Iv.low_is, ⟨Iv.low_not (by kernel_rfl), ⟨fun _ => Iv.low_is, ⟨fun _ => Iv.low_is, ⟨fun _ => Iv.low_is, ⟨Iv.low_not (by kernel_rfl), ⟨fun _ => Iv.low_is, ⟨fun _ => Iv.low_is, ⟨Iv.low_not (by kernel_rfl), ⟨fun _ => Iv.low_is, ⟨Iv.low_not (by kernel_rfl), ⟨Iv.low_not (by kernel_rfl), ⟨fun _ => Iv.low_is, ⟨Iv.low_not (by kernel_rfl), trivial⟩⟩⟩⟩⟩⟩⟩⟩⟩⟩⟩⟩⟩⟩⟩
        case hfar => exact Iv.far_cons Iv.far_is (Iv.far_cons Iv.far_is (Iv.far_cons (km_far (by omega)) (Iv.far_cons Iv.far_is (Iv.far_cons Iv.far_is (Iv.far_cons Iv.far_is (Iv.far_cons (kv_far1) (Iv.far_cons Iv.far_is (Iv.far_cons Iv.far_is (Iv.far_cons (kv_far2) (Iv.far_cons Iv.far_is (Iv.far_cons (kv_far3) (Iv.far_cons (kv_far2) (Iv.far_cons Iv.far_is (Iv.far_self Iv.far_nil))))))))))))))
        case hfarp => exact Iv.far_cons Iv.far_any (Iv.far_cons Iv.far_any (Iv.far_cons Iv.far_any (Iv.far_cons Iv.far_any (Iv.far_cons Iv.far_any (Iv.far_cons Iv.far_any (Iv.far_cons Iv.far_any (Iv.far_cons Iv.far_any (Iv.far_cons Iv.far_any (Iv.far_cons Iv.far_any (Iv.far_cons Iv.far_any (Iv.far_cons Iv.far_any (Iv.far_cons Iv.far_any (Iv.far_cons Iv.far_any (Iv.far_cons Iv.far_any Iv.far_nil))))))))))))))
        case hop =>
          refine Iv.allOps_cons ?o0 (Iv.allOps_cons ?o1 (Iv.allOps_cons ?o2 (Iv.allOps_cons ?o3 (Iv.allOps_cons ?o4 (Iv.allOps_cons ?o5 (Iv.allOps_cons ?o6 (Iv.allOps_cons ?o7 (Iv.allOps_cons ?o8 (Iv.allOps_cons ?o9 (Iv.allOps_cons ?o10 (Iv.allOps_cons ?o11 (Iv.allOps_cons ?o12 (Iv.allOps_cons ?o13 (Iv.allOps_cons ?o14 Iv.allOps_nil))))))))))))))
          case o0 =>
            refine fun _ => Iv.opGoalD_plain rfl rfl (by simp) fun f w' hr hk => ?_
            have x30 := hr.ext.cell (by simp; omega) c30
            have x31 := hr.ext.cell (by simp; omega) c31
            have xg0 := hr.ext.cell hgN g0
            have xg1 := hr.ext.cell hgN g1
            have HR := Lib.hid hr
            clear hr
            simp [List.filter, Iv.putD, Iv.depsO, Iv.depsL, Iv.phi, Iv.Is, Iv.KnowAll, Region.binds, Iv.put_some, Iv.put_none, Kv, Km, Kf] at hk ⊢
            try simp only [hk]
            go_wp2
            exact Iv.onePost_is _ rfl rfl ⟨Iv.Ext.refl _, rfl⟩
          case o1 =>
            refine fun _ => Iv.opGoalD_plain rfl rfl (by simp) fun f w' hr hk => ?_
            have x30 := hr.ext.cell (by simp; omega) c30
            have x31 := hr.ext.cell (by simp; omega) c31
            have xg0 := hr.ext.cell hgN g0
            have xg1 := hr.ext.cell hgN g1
            have HR := Lib.hid hr
            clear hr
            simp [List.filter, Iv.putD, Iv.depsO, Iv.depsL, Iv.phi, Iv.Is, Iv.KnowAll, Region.binds, Iv.put_some, Iv.put_none, Kv, Km, Kf] at hk ⊢
            try simp only [hk]
            go_wp2
            exact Iv.onePost_is _ rfl rfl ⟨Iv.Ext.refl _, rfl⟩
          case o2 =>
            refine fun _ => Iv.opGoalD_plain rfl rfl (by simp) fun f w' hr hk => ?_
            have x30 := hr.ext.cell (by simp; omega) c30
            have x31 := hr.ext.cell (by simp; omega) c31
            have xg0 := hr.ext.cell hgN g0
            have xg1 := hr.ext.cell hgN g1
            have HR := Lib.hid hr
            clear hr
            simp [List.filter, Iv.putD, Iv.depsO, Iv.depsL, Iv.phi, Iv.Is, Iv.KnowAll, Region.binds, Iv.put_some, Iv.put_none, Kv, Km, Kf] at hk ⊢
            have hcall := Clone_own (coefs_far hsa5 HR.out.ext) HNE.out (by omega)
            simp only [hk]
            go_wp2_with fail
            refine hcall.mono ?_
            rintro e w6 ⟨b', cap', rfl, hm6, hb6⟩
            go_wp2
            exact Iv.onePost_is _ rfl rfl ⟨hb6, b', cap', rfl, hm6.weak HR.out.ext.size⟩
          case o3 =>
            refine fun _ => Iv.opGoalD_plain rfl rfl (by simp) fun f w' hr hk => ?_
            have x30 := hr.ext.cell (by simp; omega) c30
            have x31 := hr.ext.cell (by simp; omega) c31
            have xg0 := hr.ext.cell hgN g0
            have xg1 := hr.ext.cell hgN g1
            have HR := Lib.hid hr
            clear hr
            simp [List.filter, Iv.putD, Iv.depsO, Iv.depsL, Iv.phi, Iv.Is, Iv.KnowAll, Region.binds, Iv.put_some, Iv.put_none, Kv, Km, Kf] at hk ⊢
            try simp only [hk]
            go_wp2
            exact Iv.onePost_is _ rfl rfl ⟨Iv.Ext.refl _, rfl⟩
          case o4 =>
            refine fun _ => Iv.opGoalD_plain rfl rfl (by simp) fun f w' hr hk => ?_
            have x30 := hr.ext.cell (by simp; omega) c30
            have x31 := hr.ext.cell (by simp; omega) c31
            have xg0 := hr.ext.cell hgN g0
            have xg1 := hr.ext.cell hgN g1
            have HR := Lib.hid hr
            clear hr
            simp [List.filter, Iv.putD, Iv.depsO, Iv.depsL, Iv.phi, Iv.Is, Iv.KnowAll, Region.binds, Iv.put_some, Iv.put_none, Kv, Km, Kf] at hk ⊢
            try simp only [hk]
            go_wp2
            exact Iv.onePost_is _ rfl rfl ⟨Iv.Ext.refl _, rfl⟩
          case o5 =>
            refine fun _ => Iv.opGoalD_plain rfl rfl (by simp) fun f w' hr hk => ?_
            have x30 := hr.ext.cell (by simp; omega) c30
            have x31 := hr.ext.cell (by simp; omega) c31
            have xg0 := hr.ext.cell hgN g0
            have xg1 := hr.ext.cell hgN g1
            have HR := Lib.hid hr
            clear hr
            simp [List.filter, Iv.putD, Iv.depsO, Iv.depsL, Iv.phi, Iv.Is, Iv.KnowAll, Region.binds, Iv.put_some, Iv.put_none, Kv, Km, Kf] at hk ⊢
            try simp only [hk]
            go_wp2
            exact Iv.onePost_is _ rfl rfl ⟨Iv.Ext.refl _, rfl⟩
          case o6 =>
            exact fun _ h => absurd rfl h
          case o7 =>
            refine fun _ => Iv.opGoalD_plain rfl rfl (by simp) fun f w' hr hk => ?_
            have x30 := hr.ext.cell (by simp; omega) c30
            have x31 := hr.ext.cell (by simp; omega) c31
            have xg0 := hr.ext.cell hgN g0
            have xg1 := hr.ext.cell hgN g1
            have HR := Lib.hid hr
            clear hr
            simp [List.filter, Iv.putD, Iv.depsO, Iv.depsL, Iv.phi, Iv.Is, Iv.KnowAll, Region.binds, Iv.put_some, Iv.put_none, Kv, Km, Kf] at hk ⊢
            try simp only [hk]
            go_wp2
            exact Iv.onePost_is _ rfl rfl ⟨Iv.Ext.refl _, rfl⟩
          case o8 =>
            refine fun _ => Iv.opGoalD_plain rfl rfl (by simp) fun f w' hr hk => ?_
            have x30 := hr.ext.cell (by simp; omega) c30
            have x31 := hr.ext.cell (by simp; omega) c31
            have xg0 := hr.ext.cell hgN g0
            have xg1 := hr.ext.cell hgN g1
            have HR := Lib.hid hr
            clear hr
            simp [List.filter, Iv.putD, Iv.depsO, Iv.depsL, Iv.phi, Iv.Is, Iv.KnowAll, Region.binds, Iv.put_some, Iv.put_none, Kv, Km, Kf] at hk ⊢
            try simp only [hk]
            go_wp2
            exact Iv.onePost_is _ rfl rfl ⟨Iv.Ext.refl _, rfl⟩
          case o9 =>
            refine fun _ => Iv.opGoalD_plain rfl rfl (by simp) fun f w' hr hk => ?_
            have x30 := hr.ext.cell (by simp; omega) c30
            have x31 := hr.ext.cell (by simp; omega) c31
            have xg0 := hr.ext.cell hgN g0
            have xg1 := hr.ext.cell hgN g1
            have HR := Lib.hid hr
            clear hr
            simp [List.filter, Iv.putD, Iv.depsO, Iv.depsL, Iv.phi, Iv.Is, Iv.KnowAll, Region.binds, Iv.put_some, Iv.put_none, Kv, Km, Kf] at hk ⊢
            obtain ⟨hk1, hk2⟩ := hk
            obtain ⟨a6, cp6, he6, -⟩ := point_at hk1
            rw [he6] at hk1 ⊢
            rw [hk2]
            go_wp2
            exact Iv.onePost_is _ rfl rfl ⟨Iv.Ext.refl _, lin_of hk1⟩
          case o10 =>
            refine fun _ => Iv.opGoalD_plain rfl rfl (by simp) fun f w' hr hk => ?_
            have x30 := hr.ext.cell (by simp; omega) c30
            have x31 := hr.ext.cell (by simp; omega) c31
            have xg0 := hr.ext.cell hgN g0
            have xg1 := hr.ext.cell hgN g1
            have HR := Lib.hid hr
            clear hr
            simp [List.filter, Iv.putD, Iv.depsO, Iv.depsL, Iv.phi, Iv.Is, Iv.KnowAll, Region.binds, Iv.put_some, Iv.put_none, Kv, Km, Kf] at hk ⊢
            try simp only [hk]
            go_wp2
            exact Iv.onePost_is _ rfl rfl ⟨Iv.Ext.refl _, rfl⟩
          case o11 =>
            refine fun _ => Iv.opGoalD_plain rfl rfl (by simp) fun f w' hr hk => ?_
            have x30 := hr.ext.cell (by simp; omega) c30
            have x31 := hr.ext.cell (by simp; omega) c31
            have xg0 := hr.ext.cell hgN g0
            have xg1 := hr.ext.cell hgN g1
            have HR := Lib.hid hr
            clear hr
            simp [List.filter, Iv.putD, Iv.depsO, Iv.depsL, Iv.phi, Iv.Is, Iv.KnowAll, Region.binds, Iv.put_some, Iv.put_none, Kv, Km, Kf] at hk ⊢
            obtain ⟨sl9, e9, h9⟩ := lin_at hk.1
            obtain ⟨a9, p9, rfl, -⟩ := point_at h9
            have e10 := hk.2.1
            have hcall := call0 (A := Ab A (w.heap.size + 1 + 1)) (vs := #[.agg #[.slice a9 (delF a q).length p9, .int .i64 n], .agg #[.slice al c1.length cl, .int .i64 c2]]) (hA5.le HR.out.ext.size) hAdd (by simp only [VRs, and_true]; exact ⟨lin_of h9, lin_of (coefs_far hsl HR.out.ext)⟩)
            rw [e9, e10]
            clear hk e9 e10
            go_wp2_with fail
            refine hcall.mono ?_
            rintro e w7 ⟨v, rfl, hb7, hv7⟩
            go_wp2
            exact Iv.onePost_is _ rfl rfl ⟨hb7, hv7⟩
          case o12 =>
            refine fun _ => Iv.opGoalD_plain rfl rfl (by simp) fun f w' hr hk => ?_
            have x30 := hr.ext.cell (by simp; omega) c30
            have x31 := hr.ext.cell (by simp; omega) c31
            have xg0 := hr.ext.cell hgN g0
            have xg1 := hr.ext.cell hgN g1
            have HR := Lib.hid hr
            clear hr
            simp [List.filter, Iv.putD, Iv.depsO, Iv.depsL, Iv.phi, Iv.Is, Iv.KnowAll, Region.binds, Iv.put_some, Iv.put_none, Kv, Km, Kf] at hk ⊢
            obtain ⟨sl, he, hsl⟩ := tup_at hk
            rw [he]
            go_wp2
            exact Iv.onePost_is _ rfl rfl ⟨Iv.Ext.refl _, lin_of hsl⟩
          case o13 =>
            refine fun _ => Iv.opGoalD_plain rfl rfl (by simp) fun f w' hr hk => ?_
            have x30 := hr.ext.cell (by simp; omega) c30
            have x31 := hr.ext.cell (by simp; omega) c31
            have xg0 := hr.ext.cell hgN g0
            have xg1 := hr.ext.cell hgN g1
            have HR := Lib.hid hr
            clear hr
            simp [List.filter, Iv.putD, Iv.depsO, Iv.depsL, Iv.phi, Iv.Is, Iv.KnowAll, Region.binds, Iv.put_some, Iv.put_none, Kv, Km, Kf] at hk ⊢
            obtain ⟨sl, he, hsl⟩ := tup_at hk
            rw [he]
            go_wp2
            exact Iv.onePost_is _ rfl rfl ⟨Iv.Ext.refl _, rfl⟩
          case o14 =>
            exact fun hz => absurd rfl hz
        case hsp =>
          intro f w6 hr
          refine Iv.own_plain rfl rfl (by simp) fun hk => ?_
          simp [Iv.putD, Iv.depsO, Iv.depsL, Iv.phi, Iv.KnowAll, Region.binds, Iv.put_some, Iv.put_none, Kv, Km, Iv.Any, Iv.Is] at hk ⊢
          obtain ⟨⟨b', cp, h2', hmine⟩, h3', h5', -⟩ := hk
          have hcall := Delete_own hmine hpos (by omega)
          rw [show ((q + 1 : Nat) : Int) = (q : Int) + 1 by omega] at hcall
          rw [h2', h3', h5']
          have HM := Lib.hid hmine
          have HR := Lib.hid hr
          clear hmine hr h2' h3' h5'
          go_wp2_with fail
          refine hcall.mono ?_
          rintro e w7 ⟨rfl, hb7, hc7⟩
          go_wp2
          obtain ⟨cur, hB, -, -, hcp, -⟩ := HM.out
          have hdl : (delF a q).length = q + (a.length - (q + 1)) := by simp [delF]; omega
          refine Iv.onePost_is _ rfl rfl ⟨hb7.mono hB, ?_⟩
          rw [← hdl]
          refine point_of (by omega) fun j u hj => ⟨by rw [Nat.zero_add]; exact hc7 j u hj, fun hx => ?_⟩
          have := hA5 _ _ hx
          omega
        case hzp =>
          intro f w6 hr
          refine Iv.z_store rfl rfl (fun _ _ _ h => h) fun hk => ?_
          simp [List.filter, Iv.putD, Iv.depsO, Iv.depsL, Iv.phi, Iv.KnowAll, Region.binds, Iv.put_some, Iv.put_none, Kv, Km, Kf, Iv.Any, Iv.Is] at hk ⊢
          obtain ⟨sl12, e12, h12⟩ := lin_at hk.1
          obtain ⟨a12, p12, rfl, -⟩ := point_at h12
          clear hk
          obtain ⟨⟨u0, t0⟩, y0⟩ := hr.there (by simp) c60
          obtain ⟨⟨u1, t1⟩, y1⟩ := hr.there (by simp) c61
          rw [f60] at y0
          rw [f61] at y1
          rw [e12]
          clear e12 hr
          go_wp2
          obtain ⟨-, p2, p3⟩ := set_both (x := .slice a12 r1.length p12) (y := .int .i64 r2) (Below.refl 0 w6) (Nat.zero_le _) t0 t1
          exact ⟨rfl, rfl, (Iv.ExtS.set w6 (p := ⟨w.heap.size + 1 + 1, 0, none⟩) (by simp) _).trans (Iv.ExtS.set _ (p := ⟨w.heap.size + 1 + 1, 1, none⟩) (by simp) _), _, p2, p3, coefs_keep h12⟩
        case hend =>
          intro f w6 hr hk hq
          have k13 := hk 13 (by decide) rfl
          have k14 := hk 14 (by decide) rfl
          simp [Iv.phi, Iv.Is, Kf] at k13 k14
          clear hk hq
          simp [Iv.putD, List.range, List.range.loop, Iv.put_some, Iv.put_none]
          obtain ⟨sl, q2, q3, hsl14⟩ := k14
          rw [k13]
          go_wp2_with fail
          refine bodyPost_ret (res_sub rfl rfl q2 q3) rfl (sub_post (own_below hw5 hr) ?_ ?_ ?_)
          · rw [hR0]; exact coefs_less hsl14
          · rw [hR0]
          · rw [hR0]
end Go.Proofs.Ytkghgdkkholieaa
/-
  The substitution of forms by the reference: the same.
-/

namespace Go.Proofs.Ytkghgdkkholieaa
open Go
/-- the coefficients without a name -/
def lessF (s : ByteArray) : Pt → Pt
  | [] => []
  | c :: r => if sEq c.1 s = true then lessF s r else c :: lessF s r
/-- the last number of a name -/
def lastF (s : ByteArray) : Int → Pt → Int
  | k, [] => k
  | k, c :: r => lastF s (if sEq c.1 s = true then c.2 else k) r
theorem less_none {s : ByteArray} : ∀ {r : Pt} {k : Int}, (∀ x ∈ r, sEq x.1 s = false) → lessF s r = r ∧ lastF s k r = k
  | [], _, _ => ⟨rfl, rfl⟩
  | c :: r, k, h => by
    have h1 := h c (by simp)
    obtain ⟨h2, h3⟩ := less_none (r := r) (k := k) fun x hx => h x (by simp [hx])
    unfold lessF lastF
    rw [h1, if_neg (by simp), if_neg (by simp), h2, h3]
    exact ⟨rfl, rfl⟩
theorem seq_of_lt {a b : ByteArray} (h : nm a < nm b) : sEq b a = false := by
  rw [sEq_nm]
  simp only [decide_eq_false_iff_not]
  intro e; rw [e] at h; exact nlt_irrefl _ h
theorem less_hit {s : ByteArray} : ∀ {cs : Pt} {k : Int}, Inc (cs.map (·.1)) → (hitF s cs = true → lessF s cs = delF cs (posF s cs) ∧ lastF s k cs = coefOf s cs) ∧ (hitF s cs = false → lessF s cs = cs ∧ lastF s k cs = k)
  | [], k, _ => ⟨fun h => by simp [hitF, nth] at h, fun _ => ⟨rfl, rfl⟩⟩
  | c :: r, k, hi => by
    have hi2 := List.pairwise_cons.1 hi
    have hgt : ∀ x ∈ r, nm c.1 < nm x.1 := fun x hx => hi2.1 x.1 (List.mem_map_of_mem hx)
    cases hl : sLt c.1 s with
    | true =>
      have hp : posF s (c :: r) = posF s r + 1 := by rw [posF, hl, if_pos rfl]
      have he : sEq c.1 s = false := by
        rw [sLt_nm] at hl
        rw [sEq_nm]
        simp only [decide_eq_true_eq, decide_eq_false_iff_not] at hl ⊢
        intro e; rw [e] at hl; exact nlt_irrefl _ hl
      obtain ⟨h1, h2⟩ := less_hit (s := s) (cs := r) (k := k) hi2.2
      have e1 : hitF s (c :: r) = hitF s r := by unfold hitF; rw [hp]; rfl
      have e2 : coefOf s (c :: r) = coefOf s r := by unfold coefOf; rw [hp]; rfl
      have e3 : lessF s (c :: r) = c :: lessF s r := by rw [lessF, he, if_neg (by simp)]
      have e4 : lastF s k (c :: r) = lastF s k r := by rw [lastF, he, if_neg (by simp)]
      rw [e1, e2, e3, e4, hp]
      refine ⟨fun h => ?_, fun h => ?_⟩
      · obtain ⟨g1, g2⟩ := h1 h
        rw [g1, g2]; exact ⟨rfl, rfl⟩
      · obtain ⟨g1, g2⟩ := h2 h
        rw [g1, g2]; exact ⟨rfl, rfl⟩
    | false =>
      have hp : posF s (c :: r) = 0 := by rw [posF, hl, if_neg (by simp)]
      have e1 : hitF s (c :: r) = sEq c.1 s := by unfold hitF; rw [hp]; rfl
      cases he : sEq c.1 s with
      | true =>
        have hcs : c.1 = s := by rw [sEq_nm] at he; simpa using he
        obtain ⟨g1, g2⟩ := less_none (s := s) (r := r) (k := c.2) fun x hx => by rw [← hcs]; exact seq_of_lt (hgt x hx)
        rw [e1, he]
        refine ⟨fun _ => ⟨?_, ?_⟩, fun h => by cases h⟩
        · rw [lessF, he, if_pos rfl, g1, hp]; rfl
        · rw [lastF, he, if_pos rfl, g2]
          unfold coefOf
          rw [hp]
          show c.2 = if sEq c.1 s = true then c.2 else 0
          rw [he, if_pos rfl]
      | false =>
        rw [e1, he]
        refine ⟨(fun h => by cases h), fun _ => less_none fun x hx => ?_⟩
        rcases List.mem_cons.1 hx with rfl | hx
        · exact he
        · have hsc : nm s < nm c.1 := by
            rcases nlt_tri s c.1 with h | h | h
            · exact h
            · rw [h, sEq_self] at he; cases he
            · rw [sLt_nm] at hl; simp [h] at hl
          exact seq_of_lt (nlt_trans hsc (hgt x hx))
theorem subst_ref {a b : Pt} {n m : Int} {s : ByteArray} (h1 : checkF a n = 0) (h2 : checkF b m = 0) : substF a n s b m = if (scaleF b m (lastF s 0 a)).2 = true then addL (lessF s a) n (scaleF b m (lastF s 0 a)).1.1 (scaleF b m (lastF s 0 a)).1.2 else (([], 0), false) := by
  obtain ⟨g1, g2⟩ := less_hit (s := s) (cs := a) (k := 0) (check_inc h1)
  unfold substF
  rw [if_pos ⟨h1, h2⟩]
  cases hh : hitF s a with
  | true =>
    obtain ⟨e1, e2⟩ := g1 hh
    rw [e1, e2, if_pos rfl]
  | false =>
    obtain ⟨e1, e2⟩ := g2 hh
    rw [e1, e2, if_neg (by simp)]
    have hz : scaleF b m 0 = (([], 0), true) := by unfold scaleF; rw [if_pos h2, if_pos rfl]
    have h0 : checkF [] 0 = 0 := by decide
    rw [hz]
    simp [addL, h0, h1, mergeF_right, rightF]
theorem less_len (s : ByteArray) : ∀ cs : Pt, (lessF s cs).length ≤ cs.length
  | [] => Nat.le_refl _
  | c :: r => by
    have := less_len s r
    unfold lessF
    split <;> simp only [List.length_cons] <;> omega
section
variable (S : List Ent) (tk : List Nat) (k : Nat)
set_option maxRecDepth 100000 in
theorem R11_Subst (a : Pt) (n : Int) (s : ByteArray) (b : Pt) (m : Int) (ha : a.length ≤ 100000) (hb : b.length ≤ 100000) : cL Try.prog 27 [linA a n, .prim (.string s), linA b m] S tk k = some (.tup [linA (substF a n s b m).1.1 (substF a n s b m).1.2, .bool (substF a n s b m).2], S, tk, k) := by
  have hCa := fun S tk k => R11_Check S tk k a n (by omega)
  have hCb := fun S tk k => R11_Check S tk k b m (by omega)
  simp only [linA, coefsA] at hCa hCb
  refine call_pure Try.func27 rfl rfl (by decide +kernel) (by decide +kernel) Try.ntmps27 rfl rfl _ _ _ rfl ?_; rw [RK_KX]
  by_cases ea : checkF a n = 0
  case neg =>
    have da : (checkF a n != 0) = true := by simpa using ea
    simp (maxSteps := 1000000) +contextual (disch := first | with_reducible assumption | exact ⟨rfl⟩ | exact ⟨rfl, rfl⟩ | (refine _root_.id ?_; kernel_rfl) | omega) only [evs, ext_mv, nth, put, putT, getT, binInt, binStr, binBool, aUn, outA, resA, mapO, resA1, oneOf, w1, w2, w3, bots, cond_true, cond_false, if_true, if_false, ite_true, ite_false, reduceIte, reduceCtorEq, implies_true, Nat.reduceAdd, Nat.reduceSub, AV.int, AV.bool, AV.str, Nat.reduceBEq, Nat.reduceEqDiff, Nat.reduceMul, Nat.reduceLT, Nat.reduceLeDiff, Int.reduceNeg, BEq.rfl, beq_self_eq_true, tabl, cellsOf, fldA, ldA, stA, entAt, partA, takeN, over, leafOk, Value.oneCell', idxA, nilA, cellsEq, fillA, elemsA, pure1, pure2, reps, chkA, tys, Try.results27, KX_draw, KX_drawQ, KX_tail, lastO_one, lastO_more, dropL_one, dropL_more, callP_eq, callM_true, linA, coefsA, hCa, da]
    simp [substF, ea]
  have da : (checkF a n != 0) = false := by simp [ea]
  by_cases eb : checkF b m = 0
  case neg =>
    have db : (checkF b m != 0) = true := by simpa using eb
    simp (maxSteps := 1000000) +contextual (disch := first | with_reducible assumption | exact ⟨rfl⟩ | exact ⟨rfl, rfl⟩ | (refine _root_.id ?_; kernel_rfl) | omega) only [evs, ext_mv, nth, put, putT, getT, binInt, binStr, binBool, aUn, outA, resA, mapO, resA1, oneOf, w1, w2, w3, bots, cond_true, cond_false, if_true, if_false, ite_true, ite_false, reduceIte, reduceCtorEq, implies_true, Nat.reduceAdd, Nat.reduceSub, AV.int, AV.bool, AV.str, Nat.reduceBEq, Nat.reduceEqDiff, Nat.reduceMul, Nat.reduceLT, Nat.reduceLeDiff, Int.reduceNeg, BEq.rfl, beq_self_eq_true, tabl, cellsOf, fldA, ldA, stA, entAt, partA, takeN, over, leafOk, Value.oneCell', idxA, nilA, cellsEq, fillA, elemsA, pure1, pure2, reps, chkA, tys, Try.results27, KX_draw, KX_drawQ, KX_tail, lastO_one, lastO_more, dropL_one, dropL_more, callP_eq, callM_true, linA, coefsA, hCa, da, hCb, db]
    simp [substF, eb]
  have db : (checkF b m != 0) = false := by simp [eb]
  simp (maxSteps := 1000000) +contextual (disch := first | with_reducible assumption | exact ⟨rfl⟩ | exact ⟨rfl, rfl⟩ | (refine _root_.id ?_; kernel_rfl) | omega) only [evs, ext_mv, nth, put, putT, getT, binInt, binStr, binBool, aUn, outA, resA, mapO, resA1, oneOf, w1, w2, w3, bots, cond_true, cond_false, if_true, if_false, ite_true, ite_false, reduceIte, reduceCtorEq, implies_true, Nat.reduceAdd, Nat.reduceSub, AV.int, AV.bool, AV.str, Nat.reduceBEq, Nat.reduceEqDiff, Nat.reduceMul, Nat.reduceLT, Nat.reduceLeDiff, Int.reduceNeg, BEq.rfl, beq_self_eq_true, tabl, cellsOf, fldA, ldA, stA, entAt, partA, takeN, over, leafOk, Value.oneCell', idxA, nilA, cellsEq, fillA, elemsA, pure1, pure2, reps, chkA, tys, Try.results27, KX_draw, KX_drawQ, KX_tail, lastO_one, lastO_more, dropL_one, dropL_more, callP_eq, callM_true, linA, coefsA, hCa, da, hCb, db]
  rw [subst_ref ea eb]
  clear hCa hCb da db
  refine loop1 (P := Try.prog) (fun x st => st.T.length = 70 ∧ (x.1 ≤ a.length) ∧ (x.2.2.1.length ≤ x.1) ∧ (okCap st.tk x.2.2.2 2 = true) ∧ (lessF s a = x.2.2.1 ++ lessF s (a.drop x.1)) ∧ (lastF s 0 a = lastF s x.2.1 (a.drop x.1)) ∧ getT st.T 1 = .prim (.string s) ∧ getT st.T 3 = .ref 0 0 0 ∧ getT st.T 5 = .ref 1 1 0 ∧ getT st.T 6 = .ref 2 2 0 ∧ getT st.T 8 = .ref 3 3 0 ∧ getT st.T 9 = .int x.2.1 ∧ getT st.T 10 = .int (x.1 : Nat) ∧ st.S = [⟨0, [coefsA a, .int n]⟩, ⟨1, [coefsA b, .int m]⟩, ⟨2, [.frz [] .nilc, .int 0]⟩, ⟨3, [.frz (x.2.2.1.map coefC) x.2.2.2, .int n]⟩]) (fun x => a.length - x.1) (fun x => .tup [linA (if (scaleF b m (lastF s 0 a)).2 = true then addL (lessF s a) n (scaleF b m (lastF s 0 a)).1.1 (scaleF b m (lastF s 0 a)).1.2 else (([], 0), false)).1.1 (if (scaleF b m (lastF s 0 a)).2 = true then addL (lessF s a) n (scaleF b m (lastF s 0 a)).1.1 (scaleF b m (lastF s 0 a)).1.2 else (([], 0), false)).1.2, .bool (if (scaleF b m (lastF s 0 a)).2 = true then addL (lessF s a) n (scaleF b m (lastF s 0 a)).1.1 (scaleF b m (lastF s 0 a)).1.2 else (([], 0), false)).2]) (0, 0, [], .nilc) ?_ ?_
  case refine_2 => exact ⟨rfl, Nat.zero_le _, Nat.le_refl _, rfl, rfl, rfl, rfl, rfl, rfl, rfl, rfl, rfl, rfl, rfl⟩
  rintro ⟨i, kk, o, c⟩ ⟨T, S', tk', n'⟩ ⟨hl, hi, ho, hok, hF, hK, e1, e3, e5, e6, e8, e9, e10, eS⟩ IH
  simp only at hi ho hok hF hK e1 e3 e5 e6 e8 e9 e10 eS
  subst eS
  obtain ⟨g, hg, hT⟩ := tab_of hl
  rw [hg] at e1 e3 e5 e6 e8 e9 e10
  subst hT
  clear hg hl
  have hr := rowsOk_map (f := coefC) (sz := 2) (fun _ => rfl) o
  have hn : (o.map coefC).length + 1 ≤ 1048576 := by simp; omega
  have hok' := okCap_new hok
  have hiw := wrap_add (i := i) (m := 0) (by omega)
  by_cases la : i < a.length
  · have d1 : decide ((i : Int) < (a.length : Int)) = true := by simpa using la
    obtain ⟨x, hx⟩ := nth_some la
    have hx' : nth (a.map coefC) i = some (coefC x) := by rw [nth_map, hx]; rfl
    rw [nth_drop hx, lessF] at hF
    rw [nth_drop hx, lastF] at hK
    cases he : sEq x.1 s with
    | true =>
      rw [he, if_pos rfl] at hF hK
      simp (maxSteps := 1000000) +contextual (disch := first | with_reducible assumption | exact ⟨rfl⟩ | exact ⟨rfl, rfl⟩ | (refine _root_.id ?_; kernel_rfl) | omega) only [evs, ext_mv, nth, put, putT, getT, binInt, binStr, binBool, aUn, outA, resA, mapO, resA1, oneOf, w1, w2, w3, bots, cond_true, cond_false, if_true, if_false, ite_true, ite_false, reduceIte, reduceCtorEq, implies_true, Nat.reduceAdd, Nat.reduceSub, AV.int, AV.bool, AV.str, Nat.reduceBEq, Nat.reduceEqDiff, Nat.reduceMul, Nat.reduceLT, Nat.reduceLeDiff, Int.reduceNeg, BEq.rfl, beq_self_eq_true, tabl, cellsOf, fldA, ldA, stA, entAt, partA, takeN, over, leafOk, Value.oneCell', idxA, nilA, cellsEq, fillA, elemsA, pure1, pure2, reps, chkA, tys, Try.results27, KX_draw, KX_drawQ, KX_tail, lastO_one, lastO_more, dropL_one, dropL_more, callP_eq, callM_true, e1, e3, e5, e6, e8, e9, e10, d1, coefsA, hx', hiw, coefC, hr, he]
      exact IH (i + 1, x.2, o, c) _ (by first | omega | (simp only; omega)) ⟨rfl, by first | omega | (dsimp only; omega), by first | omega | (dsimp only; omega), hok, hF, hK, (by first | rfl | simp only [getT, List.map_append, List.map_cons, List.map_nil, coefC, coefsA]), (by first | rfl | simp only [getT, List.map_append, List.map_cons, List.map_nil, coefC, coefsA]), (by first | rfl | simp only [getT, List.map_append, List.map_cons, List.map_nil, coefC, coefsA]), (by first | rfl | simp only [getT, List.map_append, List.map_cons, List.map_nil, coefC, coefsA]), (by first | rfl | simp only [getT, List.map_append, List.map_cons, List.map_nil, coefC, coefsA]), (by first | rfl | simp only [getT, List.map_append, List.map_cons, List.map_nil, coefC, coefsA]), (by first | rfl | simp only [getT, List.map_append, List.map_cons, List.map_nil, coefC, coefsA]), (by first | rfl | simp only [getT, List.map_append, List.map_cons, List.map_nil, coefC, coefsA])⟩
    | false =>
      rw [he, if_neg (by simp)] at hF hK
      simp (maxSteps := 1000000) +contextual (disch := first | with_reducible assumption | exact ⟨rfl⟩ | exact ⟨rfl, rfl⟩ | (refine _root_.id ?_; kernel_rfl) | omega) only [evs, ext_mv, nth, put, putT, getT, binInt, binStr, binBool, aUn, outA, resA, mapO, resA1, oneOf, w1, w2, w3, bots, cond_true, cond_false, if_true, if_false, ite_true, ite_false, reduceIte, reduceCtorEq, implies_true, Nat.reduceAdd, Nat.reduceSub, AV.int, AV.bool, AV.str, Nat.reduceBEq, Nat.reduceEqDiff, Nat.reduceMul, Nat.reduceLT, Nat.reduceLeDiff, Int.reduceNeg, BEq.rfl, beq_self_eq_true, tabl, cellsOf, fldA, ldA, stA, entAt, partA, takeN, over, leafOk, Value.oneCell', idxA, nilA, cellsEq, fillA, elemsA, pure1, pure2, reps, chkA, tys, Try.results27, KX_draw, KX_drawQ, KX_tail, lastO_one, lastO_more, dropL_one, dropL_more, callP_eq, callM_true, e1, e3, e5, e6, e8, e9, e10, d1, coefsA, hx', hiw, coefC, hr, he]
      exact IH (i + 1, kk, o ++ [x], capNew tk' c 2) _ (by first | omega | (simp only; omega)) ⟨rfl, by first | omega | (dsimp only; omega), by simp; omega, hok', by simp only [hF, List.append_assoc, List.cons_append, List.nil_append], hK, (by first | rfl | simp only [getT, List.map_append, List.map_cons, List.map_nil, coefC, coefsA]), (by first | rfl | simp only [getT, List.map_append, List.map_cons, List.map_nil, coefC, coefsA]), (by first | rfl | simp only [getT, List.map_append, List.map_cons, List.map_nil, coefC, coefsA]), (by first | rfl | simp only [getT, List.map_append, List.map_cons, List.map_nil, coefC, coefsA]), (by first | rfl | simp only [getT, List.map_append, List.map_cons, List.map_nil, coefC, coefsA]), (by first | rfl | simp only [getT, List.map_append, List.map_cons, List.map_nil, coefC, coefsA]), (by first | rfl | simp only [getT, List.map_append, List.map_cons, List.map_nil, coefC, coefsA]), (by first | rfl | simp only [getT, List.map_append, List.map_cons, List.map_nil, coefC, coefsA])⟩
  · have d1 : decide ((i : Int) < (a.length : Int)) = false := by simpa using la
    have hi2 : i = a.length := by omega
    rw [hi2, List.drop_length] at hF hK
    have hFo : lessF s a = o := by rw [hF]; simp [lessF]
    have hKo : lastF s 0 a = kk := by rw [hK]; rfl
    rw [hFo, hKo]
    have hM := fun S tk k => R11_Scale S tk k b m kk (by omega)
    have hsl := scaleF_len b m kk
    have hA := fun S tk k => R11_Add S tk k o (scaleF b m kk).1.1 n (scaleF b m kk).1.2 (by omega) (by omega)
    simp only [linA, coefsA] at hM hA
    have w2o : ∀ S tk k, cL Try.prog 20 [.agg [.frz (o.map coefC) c, .int n], .agg [.frz ((scaleF b m kk).1.1.map coefC) .unk, .int (scaleF b m kk).1.2]] S tk k = cL Try.prog 20 [.agg [.frz (o.map coefC) .unk, .int n], .agg [.frz ((scaleF b m kk).1.1.map coefC) .unk, .int (scaleF b m kk).1.2]] S tk k := fun S tk k => cL_w2 rfl rfl rfl
    generalize scaleF b m kk = q at *
    obtain ⟨⟨q1, q2⟩, q3⟩ := q
    cases q3 with
    | false =>
      simp (maxSteps := 1000000) +contextual (disch := first | with_reducible assumption | exact ⟨rfl⟩ | exact ⟨rfl, rfl⟩ | (refine _root_.id ?_; kernel_rfl) | omega) only [evs, ext_mv, nth, put, putT, getT, binInt, binStr, binBool, aUn, outA, resA, mapO, resA1, oneOf, w1, w2, w3, bots, cond_true, cond_false, if_true, if_false, ite_true, ite_false, reduceIte, reduceCtorEq, implies_true, Nat.reduceAdd, Nat.reduceSub, AV.int, AV.bool, AV.str, Nat.reduceBEq, Nat.reduceEqDiff, Nat.reduceMul, Nat.reduceLT, Nat.reduceLeDiff, Int.reduceNeg, BEq.rfl, beq_self_eq_true, tabl, cellsOf, fldA, ldA, stA, entAt, partA, takeN, over, leafOk, Value.oneCell', idxA, nilA, cellsEq, fillA, elemsA, pure1, pure2, reps, chkA, tys, Try.results27, KX_draw, KX_drawQ, KX_tail, lastO_one, lastO_more, dropL_one, dropL_more, callP_eq, callM_true, e1, e3, e5, e6, e8, e9, e10, d1, coefsA, hM]
      rfl
    | true =>
      simp (maxSteps := 1000000) +contextual (disch := first | with_reducible assumption | exact ⟨rfl⟩ | exact ⟨rfl, rfl⟩ | (refine _root_.id ?_; kernel_rfl) | omega) only [evs, ext_mv, nth, put, putT, getT, binInt, binStr, binBool, aUn, outA, resA, mapO, resA1, oneOf, w1, w2, w3, bots, cond_true, cond_false, if_true, if_false, ite_true, ite_false, reduceIte, reduceCtorEq, implies_true, Nat.reduceAdd, Nat.reduceSub, AV.int, AV.bool, AV.str, Nat.reduceBEq, Nat.reduceEqDiff, Nat.reduceMul, Nat.reduceLT, Nat.reduceLeDiff, Int.reduceNeg, BEq.rfl, beq_self_eq_true, tabl, cellsOf, fldA, ldA, stA, entAt, partA, takeN, over, leafOk, Value.oneCell', idxA, nilA, cellsEq, fillA, elemsA, pure1, pure2, reps, chkA, tys, Try.results27, KX_draw, KX_drawQ, KX_tail, lastO_one, lastO_more, dropL_one, dropL_more, callP_eq, callM_true, e1, e3, e5, e6, e8, e9, e10, d1, coefsA, hM, w2o, hA]
      rfl
end
end Go.Proofs.Ytkghgdkkholieaa
/-
  From here on the substitution of forms is told.
-/

namespace Go.Proofs.Ytkghgdkkholieaa
open Go Go.RowKit
theorem coefs_inj : ∀ {a b : List (ByteArray × Int)}, a.map coefC = b.map coefC → a = b
  | [], [], _ => rfl
  | [], _ :: _, h => by simp at h
  | _ :: _, [], h => by simp at h
  | x :: a, y :: b, h => by
    simp only [List.map_cons, List.cons.injEq, coefC, AV.prim.injEq, Value.string.injEq, Value.int.injEq, and_true, true_and] at h
    rw [coefs_inj h.2, Prod.ext h.1.1 h.1.2]
structure SubQ where
  a : Pt
  n : Int
  s : ByteArray
  b : Pt
  m : Int
def SubQ.args (q : SubQ) : List AV := [linA q.a q.n, .prim (.string q.s), linA q.b q.m]
def SubQ.res (q : SubQ) : AV := .tup [linA (substF q.a q.n q.s q.b q.m).1.1 (substF q.a q.n q.s q.b q.m).1.2, .bool (substF q.a q.n q.s q.b q.m).2]
def SubQ.fit (q : SubQ) : Prop := q.a.length ≤ 100000 ∧ q.b.length ≤ 100000
theorem SubQ.inj {q q' : SubQ} (h : q.args = q'.args) : q = q' := by
  obtain ⟨a, n, s, b, m⟩ := q
  obtain ⟨a', n', s', b', m'⟩ := q'
  simp only [SubQ.args, linA, coefsA, List.cons.injEq, AV.agg.injEq, AV.frz.injEq, AV.prim.injEq, Value.string.injEq, Value.int.injEq, and_true, true_and] at h
  obtain ⟨⟨h1, h2⟩, h3, h4, h5⟩ := h
  rw [coefs_inj h1, h2, h3, coefs_inj h4, h5]
open Classical in
noncomputable def subC (args : List AV) : Option AV := if h : ∃ q : SubQ, args = q.args ∧ q.fit then some h.choose.res else none
theorem subC_some {args : List AV} {r : AV} (h : subC args = some r) : ∃ q : SubQ, args = q.args ∧ q.fit ∧ r = q.res := by
  unfold subC at h
  split at h
  · rename_i hp
    simp only [Option.some.injEq] at h
    exact ⟨_, hp.choose_spec.1, hp.choose_spec.2, h.symm⟩
  · simp at h
theorem subC_of (q : SubQ) (hq : q.fit) : subC q.args = some q.res := by
  have hx : ∃ q' : SubQ, q.args = q'.args ∧ q'.fit := ⟨q, rfl, hq⟩
  unfold subC
  rw [dif_pos hx]
  rw [SubQ.inj hx.choose_spec.1.symm]
noncomputable def subX (f : FuncId) (args : List AV) (S : List Ent) (tk : List Nat) (n : Nat) : Option (AV × List Ent × List Nat × Nat) :=
  if f == 26 then (subC (args.map w2)).map fun r => (r, S, tk, n) else none
@[reducible] noncomputable def E1 : Ext Try.prog where
  on := fun f => f == 26
  mv := fun _ => false
  call := subX
theorem E0_le : CLe (@Ext.call Try.prog E0) (@Ext.call Try.prog E1) := by
  intro f args S tk n r h
  cases h
theorem told1 {f : FuncId} {args : List AV} {S : List Ent} {tk : List Nat} {n : Nat} {r : AV × List Ent × List Nat × Nat} (h : @cL _ Try.prog E0 f args S tk n = some r) : @cL _ Try.prog E1 f args S tk n = some r := told_sub (E := E1) E0_le h
theorem coefs_cx {C : Cx} {cs : Pt} {v : Value} (h : VR C (coefsA cs) v) : VR (Cq C.Avoid C.w) (coefsA cs) v := by
  simp only [coefsA, VR] at h ⊢
  obtain ⟨a, len, cap, e, h1, h2, -, h4⟩ := h
  refine ⟨a, len, cap, e, h1, h2, trivial, h4.imp id ?_⟩
  rintro ⟨b, o, sz, rfl, hr⟩
  exact ⟨b, o, sz, rfl, PRows.stays (A' := (Cq C.Avoid C.w).Avoid) (fun _ _ _ hv ha => ⟨hv, Cq_avoid ha⟩) _ _ _ _ hr⟩
theorem lin_cx {C : Cx} {cs : Pt} {n : Int} {v : Value} (h : VR C (linA cs n) v) : VR (Cq C.Avoid C.w) (linA cs n) v := by
  simp only [linA, VR] at h
  obtain ⟨⟨vs⟩, rfl, h⟩ := h
  match vs, h with
  | [x, y], h =>
  simp only [VRs, VR, and_true] at h
  obtain ⟨h1, rfl⟩ := h
  exact lin_of (coefs_cx h1)
theorem Sub_ok {C : Cx} {vs : Array Value} (hs : SR C) (q : SubQ) (hq : q.fit) (hv : VRs C q.args vs.toList) :
    Calls Try.prog 26 vs C.w fun e w' => ∃ v C', e = .returned v ∧ C'.w = w' ∧ Le C C' ∧ SR C' ∧ C'.S = C.S ∧ C'.tk = C.tk ∧ C'.n = C.n ∧ VR C' q.res v := by
  obtain ⟨vl⟩ := vs
  match vl, hv with
  | [x, y, z], hv =>
  have hv' : VR C (linA q.a q.n) x ∧ VR C (.prim (.string q.s)) y ∧ VR C (linA q.b q.m) z := by
    simpa only [SubQ.args, VRs, and_true] using hv
  obtain ⟨h1, h2, h3⟩ := hv'
  simp only [VR] at h2
  subst h2
  have hA : UnderA C.Avoid C.w := fun b o h => by
    rcases h with h | h
    · exact hs.avlt b o h
    · exact mut_lt hs h
  refine (subst_in hA (lin_cx h1) (lin_cx h3) hq.1 hq.2).mono ?_
  rintro e w' ⟨v, rfl, hb, hp⟩
  refine ⟨_, C.at w', rfl, rfl, Le.of_below hb, SR.of_below hs hb, rfl, rfl, rfl, ?_⟩
  obtain ⟨sl, rfl, hsl⟩ := tup_at hp
  simp only [SubQ.res, VR]
  refine ⟨_, rfl, ?_⟩
  simp only [VRs, and_true]
  refine ⟨?_, by simp only [VR]⟩
  simp only [linA, VR]
  refine ⟨_, rfl, ?_⟩
  simp only [VRs, VR, and_true]
  simp only [coefsA, VR] at hsl ⊢
  obtain ⟨a', len, cap', rfl, g1, g2, -, g4⟩ := hsl
  refine ⟨a', len, cap', rfl, g1, g2, trivial, g4.imp id ?_⟩
  rintro ⟨b, o, sz, rfl, hr⟩
  refine ⟨b, o, sz, rfl, PRows.stays (A' := (C.at w').Avoid) (fun b' o' _ hv ha => ⟨hv, fun h => Cq_of ha ?_⟩) _ _ _ _ hr⟩
  exact h
theorem ext1_some {f : FuncId} {args : List AV} {S : List Ent} {tk : List Nat} {n : Nat} {r : AV} {S' : List Ent} {tk' : List Nat} {n' : Nat} (h : @extC Try.prog E1 f args S tk n = some (r, S', tk', n')) :
    S' = S ∧ tk' = tk ∧ n' = n ∧ f = 26 ∧ ∃ q : SubQ, args.map w2 = q.args ∧ q.fit ∧ r = q.res := by
  unfold extC at h
  split at h
  · change subX f args S tk n = _ at h
    unfold subX at h
    split at h
    · rename_i hf
      simp only [Option.map_eq_some_iff, Prod.mk.injEq] at h
      obtain ⟨x, hx, rfl, rfl, rfl, rfl⟩ := h
      exact ⟨rfl, rfl, rfl, by simpa using hf, subC_some hx⟩
    · cases h
  · simp at h
theorem ext1_same {f : FuncId} {args : List AV} {S S2 : List Ent} {tk tk2 : List Nat} {n n2 : Nat} {r : AV} {S' : List Ent} {tk' : List Nat} {n' : Nat} (h : @extC Try.prog E1 f args S tk n = some (r, S', tk', n')) : @extC Try.prog E1 f args S2 tk2 n2 = some (r, S2, tk2, n2) := by
  obtain ⟨-, -, -, rfl, q, ha, hq, rfl⟩ := ext1_some h
  show (if _ then subX _ _ _ _ _ else none) = _
  simp [Ext.on, subX, ha, subC_of q hq]
@[reducible] noncomputable instance E1i : Ext Try.prog := E1
instance ok1 : ExtOk Try.prog := {
  ok := fun f args S tk n r S' tk' n' h => by
    obtain ⟨rfl, rfl, rfl, rfl, q, ha, hq, rfl⟩ := ext1_some h
    refine ⟨⟨_, Try.func26, by decide +kernel, by decide +kernel⟩, fun C vs h1 h2 h3 hs hv => ?_⟩
    subst h1 h2 h3
    exact Sub_ok hs q hq (by rw [← ha]; exact VRs_w2 hv)
  indep := fun M f args S tk n r S' tk' n' h => by
    unfold callP at h
    split at h
    · rename_i hp
      obtain ⟨e1, e2, e3, -⟩ := ext1_some h
      refine ⟨e1, e2, .inr ⟨e3, fun S2 tk2 n2 => ?_⟩⟩
      unfold callP
      rw [if_pos hp]
      exact ext1_same h
    · simp at h }
theorem ext_mv1 (f : FuncId) : @Ext.mv Try.prog E1i f = false := rfl
theorem linear_Subst (S : List Ent) (tk : List Nat) (k : Nat) (a : Pt) (n : Int) (s : ByteArray) (b : Pt) (m : Int) (ha : a.length ≤ 100000) (hb : b.length ≤ 100000) : cL Try.prog 26 [linA a n, .prim (.string s), linA b m] S tk k = some (.tup [linA (substF a n s b m).1.1 (substF a n s b m).1.2, .bool (substF a n s b m).2], S, tk, k) := by
  refine call_ext rfl ?_
  show subX _ _ _ _ _ = _
  have h : [linA a n, .prim (.string s), linA b m].map w2 = (SubQ.mk a n s b m).args := rfl
  simp only [subX, h, subC_of (SubQ.mk a n s b m) ⟨ha, hb⟩]
  rfl
end Go.Proofs.Ytkghgdkkholieaa
/-
  The law of substitutions, walked.
-/


namespace Go.Proofs.Ytkghgdkkholieaa
open Go
theorem substF_len (a : Pt) (n : Int) (s : ByteArray) (b : Pt) (m : Int) : (substF a n s b m).1.1.length ≤ a.length + b.length := by
  unfold substF
  split
  · split
    · split
      · have h1 := addL_len (delF a (posF s a)) (scaleF b m (coefOf s a)).1.1 n (scaleF b m (coefOf s a)).1.2
        have h2 := scaleF_len b m (coefOf s a)
        have h3 : (delF a (posF s a)).length ≤ a.length := by simp [delF]; omega
        omega
      · simp
    · simp
  · simp
section
variable (S : List Ent) (tk : List Nat) (k : Nat)
set_option maxRecDepth 100000 in
theorem L11_LinearSubsts (cs : Pt) (n : Int) (ds : Pt) (m : Int) (s : ByteArray) : cL Try.prog 7 [linA cs n, linA ds m, .prim (.string s)] S tk k = some (.bool true, S, tk, k) := by
  have hS1 := fun S tk k => told1 (L11_small S tk k cs n)
  have hS2 := fun S tk k => told1 (L11_small S tk k ds m)
  have hA := fun S tk k => told1 (L11_awake S tk k)
  simp only [linA, coefsA] at hS1 hS2
  refine call_pure Try.func7 rfl rfl (by decide +kernel) (by decide +kernel) Try.ntmps7 rfl rfl _ _ _ (rfl) ?_; rw [RK_KX]
  cases h1 : smallFrom 0 cs with
  | false => simp (maxSteps := 1000000) +contextual (disch := first | with_reducible assumption | exact ⟨rfl⟩ | exact ⟨rfl, rfl⟩ | (refine _root_.id ?_; kernel_rfl) | omega) only [evs, ext_mv, nth, put, putT, getT, binInt, binStr, binBool, aUn, outA, resA, mapO, resA1, oneOf, w1, w2, w3, bots, cond_true, cond_false, if_true, if_false, ite_true, ite_false, reduceIte, reduceCtorEq, implies_true, Nat.reduceAdd, Nat.reduceSub, AV.int, AV.bool, AV.str, Nat.reduceBEq, Nat.reduceEqDiff, Nat.reduceMul, Nat.reduceLT, Nat.reduceLeDiff, Int.reduceNeg, BEq.rfl, beq_self_eq_true, tabl, cellsOf, fldA, ldA, stA, entAt, partA, takeN, over, leafOk, Value.oneCell', idxA, nilA, cellsEq, fillA, elemsA, pure1, pure2, reps, chkA, tys, Try.results7, KX_draw, KX_drawQ, KX_tail, lastO_one, lastO_more, dropL_one, dropL_more, callP_eq, callM_true, ext_mv1, linA, coefsA, hS1, h1, hA]
  | true =>
    cases h2 : smallFrom 0 ds with
    | false => simp (maxSteps := 1000000) +contextual (disch := first | with_reducible assumption | exact ⟨rfl⟩ | exact ⟨rfl, rfl⟩ | (refine _root_.id ?_; kernel_rfl) | omega) only [evs, ext_mv, nth, put, putT, getT, binInt, binStr, binBool, aUn, outA, resA, mapO, resA1, oneOf, w1, w2, w3, bots, cond_true, cond_false, if_true, if_false, ite_true, ite_false, reduceIte, reduceCtorEq, implies_true, Nat.reduceAdd, Nat.reduceSub, AV.int, AV.bool, AV.str, Nat.reduceBEq, Nat.reduceEqDiff, Nat.reduceMul, Nat.reduceLT, Nat.reduceLeDiff, Int.reduceNeg, BEq.rfl, beq_self_eq_true, tabl, cellsOf, fldA, ldA, stA, entAt, partA, takeN, over, leafOk, Value.oneCell', idxA, nilA, cellsEq, fillA, elemsA, pure1, pure2, reps, chkA, tys, Try.results7, KX_draw, KX_drawQ, KX_tail, lastO_one, lastO_more, dropL_one, dropL_more, callP_eq, callM_true, ext_mv1, linA, coefsA, hS1, h1, hS2, h2, hA]
    | true =>
      by_cases h5 : (s.size : Int) > 500
      · have d5 : decide ((s.size : Int) > 500) = true := by simpa using h5
        simp (maxSteps := 1000000) +contextual (disch := first | with_reducible assumption | exact ⟨rfl⟩ | exact ⟨rfl, rfl⟩ | (refine _root_.id ?_; kernel_rfl) | omega) only [evs, ext_mv, nth, put, putT, getT, binInt, binStr, binBool, aUn, outA, resA, mapO, resA1, oneOf, w1, w2, w3, bots, cond_true, cond_false, if_true, if_false, ite_true, ite_false, reduceIte, reduceCtorEq, implies_true, Nat.reduceAdd, Nat.reduceSub, AV.int, AV.bool, AV.str, Nat.reduceBEq, Nat.reduceEqDiff, Nat.reduceMul, Nat.reduceLT, Nat.reduceLeDiff, Int.reduceNeg, BEq.rfl, beq_self_eq_true, tabl, cellsOf, fldA, ldA, stA, entAt, partA, takeN, over, leafOk, Value.oneCell', idxA, nilA, cellsEq, fillA, elemsA, pure1, pure2, reps, chkA, tys, Try.results7, KX_draw, KX_drawQ, KX_tail, lastO_one, lastO_more, dropL_one, dropL_more, callP_eq, callM_true, ext_mv1, linA, coefsA, hS1, h1, hS2, h2, hA, d5]
      · have d5 : decide ((s.size : Int) > 500) = false := by simpa using h5
        have hl1 : cs.length ≤ 40 := by
          rcases small_len h1 with h | h
          · omega
          · subst h; simp
        have hl2 : ds.length ≤ 40 := by
          rcases small_len h2 with h | h
          · omega
          · subst h; simp
        have hM := fun S tk k => linear_Subst S tk k cs n s ds m (by omega) (by omega)
        have hM' := fun S tk k => told1 (R11_Subst S tk k cs n s ds m (by omega) (by omega))
        have hU := fun S tk k => told1 (R11_Same S tk k (substF cs n s ds m).1.1 (substF cs n s ds m).1.1 (substF cs n s ds m).1.2 (substF cs n s ds m).1.2 (by have := substF_len cs n s ds m; omega))
        rw [sameF_self] at hU
        simp only [linA, coefsA] at hM hM' hU
        generalize substF cs n s ds m = q at *
        obtain ⟨⟨q1, q2⟩, q3⟩ := q
        simp (maxSteps := 1000000) +contextual (disch := first | with_reducible assumption | exact ⟨rfl⟩ | exact ⟨rfl, rfl⟩ | (refine _root_.id ?_; kernel_rfl) | omega) only [evs, ext_mv, nth, put, putT, getT, binInt, binStr, binBool, aUn, outA, resA, mapO, resA1, oneOf, w1, w2, w3, bots, cond_true, cond_false, if_true, if_false, ite_true, ite_false, reduceIte, reduceCtorEq, implies_true, Nat.reduceAdd, Nat.reduceSub, AV.int, AV.bool, AV.str, Nat.reduceBEq, Nat.reduceEqDiff, Nat.reduceMul, Nat.reduceLT, Nat.reduceLeDiff, Int.reduceNeg, BEq.rfl, beq_self_eq_true, tabl, cellsOf, fldA, ldA, stA, entAt, partA, takeN, over, leafOk, Value.oneCell', idxA, nilA, cellsEq, fillA, elemsA, pure1, pure2, reps, chkA, tys, Try.results7, KX_draw, KX_drawQ, KX_tail, lastO_one, lastO_more, dropL_one, dropL_more, callP_eq, callM_true, ext_mv1, linA, coefsA, hS1, h1, hS2, h2, hA, d5, hM, hM', hU, beq_self_eq_true]
end
end Go.Proofs.Ytkghgdkkholieaa
