/-
  Texts laid together: RQ1.
-/
import Derived.Test.YtgadegdhfjnoaaaDoorZR11
import Derived.Test.YtgadegdhfjnoaaaDoorZR13
import Derived.Laws.AppendOwn
import Derived.Lib.OwnBridge
/-
  Quotients of digits, in the model: rows of one's own, cutting zeros off.
-/




namespace Go.Proofs.YtgadegdhfjnoaaaDoor
open Go Go.RowKit
abbrev num (x : Int) : Value := .int .i64 x
def Tab0 (w : World) : Prop := ∃ t fz, w.heap[0]? = some (.cells (Lib.pow10Tab.map fun z => Value.int .u64 z).toArray t fz)
theorem Tab0.below {w w' : World} (h : Tab0 w) {n : Nat} (hn : 0 < n) (hb : Below n w w') : Tab0 w' := by
  obtain ⟨t, fz, h⟩ := h
  exact ⟨t, fz, by rw [hb.block 0 hn]; exact h⟩
theorem Tab0.pos {w : World} (h : Tab0 w) : 0 < w.heap.size := by
  obtain ⟨t, fz, h⟩ := h
  exact (Array.getElem?_eq_some_iff.1 h).1
/-- a world in which nothing is anybody's own; the table is left alone -/
def C0 (W : World) : Cx := { w := W, av := fun b _ => b = 0, φ := fun _ => 0, ψ := fun _ => (0, 0, 0), S := [], tk := [], n := 0 }
theorem C0_mut {W : World} {b o : Nat} : ¬ (C0 W).Mut b o := by
  rintro (⟨i, hi, _⟩ | ⟨i, hi, _⟩)
  · simp [C0] at hi
  · simp [C0] at hi
theorem C0_avoid {W : World} {b o : Nat} (hb : b ≠ 0) : ¬ (C0 W).Avoid b o := by
  rintro (h | h)
  · exact hb h
  · exact C0_mut h
theorem C0_SR {W : World} (ht : Tab0 W) : SR (C0 W) := by
  obtain ⟨t, fz, hh⟩ := ht
  refine ⟨fun i e h => by simp [C0, nth] at h, fun i j hi => by simp [C0] at hi, fun i j o hi => by simp [C0] at hi, fun i j o hi => by simp [C0] at hi, fun b o h => absurd h C0_mut, fun b o h => ?_, fun i o hi => by simp [C0] at hi, fun g a hg => ?_⟩
  · have h' : b = 0 := h
    subst h'
    exact (Array.getElem?_eq_some_iff.1 hh).1
  · simp only [Globs.gl, List.mem_singleton, Prod.mk.injEq] at hg
    obtain ⟨rfl, rfl⟩ := hg
    exact ⟨⟨t, fz, hh⟩, fun _ => rfl⟩
/-- digits that can be read -/
abbrev RD (w : World) (v : Value) (zs : List Int) : Prop := VR (C0 w) (digA zs) v
theorem RD.below {w w' : World} {v : Value} {zs : List Int} (h : RD w v zs) (hb : Below w.heap.size w w') : RD w' v zs := VR.mono (Le.of_below (C := C0 w) hb) _ _ h
theorem call0 {f : FuncId} {args : List AV} {r : AV} {vs : Array Value} {w : World} (hcl : ∀ S tk k, cL Tryd.prog f args S tk k = some (r, S, tk, k)) (ht : Tab0 w) (hv : VRs (C0 w) args vs.toList) :
    Calls Tryd.prog f vs w fun e w' => ∃ v, e = .returned v ∧ Below w.heap.size w w' ∧ VR (C0 w') r v := by
  refine (calls_of mixed (hcl [] [] 0) (C := C0 w) rfl rfl rfl (C0_SR ht) hv).mono ?_
  rintro e w' ⟨v, C', rfl, rfl, hle, -, h1, h2, h3, hr⟩
  refine ⟨v, rfl, ⟨hle.os, hle.tape, hle.output, hle.size, fun b hb => hle.keep b hb fun o hm => C0_mut hm⟩, ?_⟩
  refine VR.mono0 (C := C') (C' := C0 C'.w) ⟨by rw [h3]; exact Nat.le_refl _, fun b o v' hv' ha => ⟨hv', fun ha' => ?_⟩, fun _ cs _ _ h => ⟨cs, h, rfl⟩, fun id e' he => (by have he : nth ([] : List Ent) id = some e' := he; cases id <;> cases he), fun id k hk => (by rw [h2] at hk; cases id <;> cases hk)⟩ _ _ hr
  rcases ha' with h | h
  · exact ha (.inl (by rw [hle.av]; exact h))
  · exact absurd h C0_mut
theorem RD_slice {w : World} {v : Value} {zs : List Int} (h : RD w v zs) : ∃ a cap, v = .slice a zs.length cap ∧ zs.length ≤ cap ∧ ∀ j x, nth zs j = some x → ∃ b o, a = some ⟨b, o, none⟩ ∧ w.cell? ⟨b, o + j, none⟩ = some (num x) ∧ b ≠ 0 := by
  simp only [RD, digA, VR] at h
  obtain ⟨a, len, cap, rfl, h1, h2, -, h4⟩ := h
  have h1 : zs.length = len := by simpa using h1
  subst h1
  refine ⟨a, cap, rfl, h2, fun j x hx => ?_⟩
  rcases h4 with h | ⟨b, o, sz, rfl, hr⟩
  · have : zs = [] := by simpa using h
    subst this; simp [nth] at hx
  · have hsz : sz = 1 := by
      cases zs with
      | nil => simp [nth] at hx
      | cons y l => simp only [List.map_cons, PRows, digC] at hr; exact hr.1.symm
    subst hsz
    refine ⟨b, o, rfl, rows_at hr hx, fun hb => ?_⟩
    cases zs with
    | nil => simp [nth] at hx
    | cons y l =>
      simp only [List.map_cons, PRows, digC] at hr
      obtain ⟨-, ⟨vs, hl, hp⟩, -⟩ := hr
      match vs, hp with
      | [u], _ => exact hl.2.1 (.inl hb)
theorem RD_mk {w : World} {b o cap : Nat} {zs : List Int} (hb : b ≠ 0) (hcap : zs.length ≤ cap) (h : ∀ j x, nth zs j = some x → w.cell? ⟨b, o + j, none⟩ = some (num x)) : RD w (.slice (some ⟨b, o, none⟩) zs.length cap) zs := by
  have key : ∀ (l : List Int) (o : Nat), (∀ j x, nth l j = some x → w.cell? ⟨b, o + j, none⟩ = some (num x)) → PRows w (C0 w).Avoid b 1 o (l.map digC) := by
    intro l
    induction l with
    | nil => intro _ _; simp only [List.map_nil, PRows]
    | cons x l ih =>
      intro o h
      simp only [List.map_cons, PRows]
      refine ⟨rfl, ⟨[num x], ⟨h 0 x rfl, C0_avoid hb, trivial⟩, by simp [PRs, PR, digC, Value.oneCell']⟩, ih (o + 1) fun j y hy => ?_⟩
      have := h (j + 1) y hy
      rwa [show o + (j + 1) = o + 1 + j from by omega] at this
  simp only [RD, digA, VR]
  exact ⟨_, _, _, rfl, by simp, hcap, trivial, .inr ⟨b, o, 1, rfl, key zs o h⟩⟩
theorem RD_nil (w : World) (a : Option Addr) (cap : Nat) : RD w (.slice a 0 cap) [] := by
  simp only [RD, digA, List.map_nil, VR]
  exact ⟨a, 0, cap, rfl, rfl, Nat.zero_le _, trivial, .inl trivial⟩
/-- a row of one's own -/
abbrev OR (w : World) (base : Nat) (v : Value) (zs : List Int) : Prop := w.ownsRow base 3 1 v zs.length (zs.map num)
theorem OR.rd {w : World} {base : Nat} {v : Value} {zs : List Int} (h : OR w base v zs) (hb : 0 < base) : RD w v zs := by
  rcases h.2 with ⟨rfl, h0⟩ | ⟨g, cap, cur, rfl, h1, h2, h3, h4, h5, h6⟩
  · have : zs = [] := List.eq_nil_of_length_eq_zero h0
    subst this
    exact RD_nil w none 0
  · refine RD_mk (by omega) h3 fun j x hx => ?_
    rw [nth_get] at hx
    have : (cur.toList.take (zs.length * 1))[j]? = some (num x) := by rw [h6, List.getElem?_map, hx]; rfl
    rw [List.getElem?_take] at this
    split at this
    · simp only [World.cell?, h2, Nat.zero_add]; simpa using this
    · simp at this
theorem OR.below {w w' : World} {base : Nat} {v : Value} {zs : List Int} (h : OR w base v zs) (hb : Below w.heap.size w w') : OR w' base v zs := by
  refine ⟨h.1, ?_⟩
  rcases h.2 with h0 | ⟨g, cap, cur, rfl, h1, h2, h3⟩
  · exact .inl h0
  · exact .inr ⟨g, cap, cur, rfl, h1, below_shape hb h2, h3⟩
theorem OR.trim {w : World} {base : Nat} {a : Option Addr} {cap : Nat} {zs : List Int} (h : OR w base (.slice a zs.length cap) zs) : OR w base (.slice a (trimL zs).length cap) (trimL zs) := by
  have hl := trim_len zs
  refine ⟨by simp, ?_⟩
  rcases h.2 with ⟨h0, h0'⟩ | ⟨g, cap', cur, hv, h1, h2, h3, h4, h5, h6⟩
  · have : zs = [] := List.eq_nil_of_length_eq_zero h0'
    subst this
    cases h0
    exact .inl ⟨rfl, rfl⟩
  · cases hv
    refine .inr ⟨g, cap, cur, rfl, h1, h2, by omega, h4, h5, ?_⟩
    have e : (cur.toList.take (zs.length * 1)).take ((trimL zs).length * 1) = cur.toList.take ((trimL zs).length * 1) := by
      rw [List.take_take]; congr 1; omega
    rw [← e, h6, ← List.map_take, Nat.mul_one, ← trim_is_take]
def lenI : Value → Nat | .slice _ n _ => n | _ => 0
set_option maxHeartbeats 2000000 in
set_option maxRecDepth 100000 in
theorem trim_run (w : World) (a : Option Addr) (cap : Nat) (zs : List Int) (hlen : zs.length ≤ 1000000) (hcap : zs.length ≤ cap) (hc : ∀ j x, nth zs j = some x → ∃ b o, a = some ⟨b, o, none⟩ ∧ w.cell? ⟨b, o + j, none⟩ = some (num x)) :
    Calls Tryd.prog 82 #[.slice a zs.length cap] w fun e w' => e = .returned (.slice a (trimL zs).length cap) ∧ w' = w := by
  have HC := Lib.hid hc
  have HZ := Lib.hid (hz_start zs)
  clear hc
  generalize hN : zs.length = N at *
  go_enter Tryd.func82, Tryd.ntmps82
  go_wp2
  go_loop [0] (fun v => ∃ n : Nat, v = .slice a n cap ∧ n ≤ N ∧ Hid (∀ j, n ≤ j → ∀ x, nth zs j = some x → x = 0)) (fun v => lenI v)
  case atStart => exact ⟨N, rfl, Nat.le_refl _, HZ⟩
  case round =>
    obtain ⟨n, rfl, hn, hz⟩ := hrel
    cases n with
    | zero =>
      go_wp2
      go_ret
      have ht := trim_stop (l := zs) (n := 0) (Nat.zero_le _) hz.out (.inl rfl)
      rw [ht]
      exact ⟨rfl, rfl⟩
    | succ n =>
      obtain ⟨x, hx⟩ := nth_some (show n < zs.length by omega)
      obtain ⟨b, o, rfl, hcx⟩ := HC.out n x hx
      have HX := Lib.hid hx
      clear hx
      have hw : IntKind.i64.wrap (((n + 1 : Nat) : Int) - 1) = (n : Int) := by rw [wrap_of (by unfold i64; omega)]; omega
      have hg : ((n + 1 : Nat) : Int) > 0 := by omega
      have hlt : (n : Int) < ((n + 1 : Nat) : Int) := by omega
      by_cases h0 : x = 0
      · subst h0
        go_wp2
        exact ⟨⟨n, rfl, by omega, Lib.hid (hz_pred (n := n + 1) hz.out HX.out rfl)⟩, by simp [lenI]⟩
      · go_wp2
        go_ret
        have ht := trim_stop (l := zs) (n := n + 1) (by omega) hz.out (.inr ⟨x, HX.out, h0⟩)
        have hl : (zs.take (n + 1)).length = n + 1 := by simp; omega
        rw [ht, hl]
        exact ⟨rfl, rfl⟩
end Go.Proofs.YtgadegdhfjnoaaaDoor
