/-
  Texts laid together: EvTail, EvOwn.
-/
import Derived.Test.YtmkoiandfojgmaaGreatZM5
import Derived.Orders
import Derived.Scope
namespace Go.Proofs.YtmkoiandfojgmaaGreat
open Go.RowKit
section
variable {P : Program} {ops : Array Oper}
theorem ready_of {listed : Array Bool} {i : Nat} (h : i ∈ Region.ready .any ops listed) : listed.getD i true = false ∧ ∃ o, ops[i]? = some o ∧ ∀ e ∈ depsOf ops i, listed.getD e false = true := by
  obtain ⟨h0, o, ho, hd⟩ := mem_ready.1 h
  refine ⟨h0, o, ho, fun e he => ?_⟩
  unfold depsOf at he
  rw [ho] at he
  simp only [List.mem_map, List.mem_filter] at he
  obtain ⟨x, ⟨hx, hb⟩, rfl⟩ := he
  exact hd x (by simpa using hx) hb
theorem ready_mk {listed : Array Bool} {i : Nat} {o : Oper} (h0 : listed.getD i true = false) (ho : ops[i]? = some o) (hd : ∀ e ∈ depsOf ops i, listed.getD e false = true) : i ∈ Region.ready .any ops listed := by
  refine mem_ready.2 ⟨h0, o, ho, fun e he hb => hd _ ?_⟩
  unfold depsOf; rw [ho]
  exact List.mem_map.2 ⟨e, List.mem_filter.2 ⟨by simpa using he, hb⟩, rfl⟩
theorem reach_listed {listed : Array Bool} (hc : ∀ j, listed.getD j false = true → ∀ e ∈ depsOf ops j, listed.getD e false = true) {i : Nat} (hd : ∀ e ∈ depsOf ops i, listed.getD e false = true) :
    ∀ e ∈ reachAt ops i, listed.getD e false = true := by
  unfold reachAt
  generalize (List.range i).reverse = l
  have key : ∀ (l : List Nat) (s : List Nat), (∀ e ∈ s, listed.getD e false = true) → ∀ e ∈ l.foldl (fun s j => if s.contains j then depsOf ops j ++ s else s) s, listed.getD e false = true := by
    intro l
    induction l with
    | nil => intro s hs; exact hs
    | cons j l ih =>
      intro s hs
      simp only [List.foldl_cons]
      apply ih
      split
      · rename_i hj
        intro e he
        rcases List.mem_append.1 he with h | h
        · exact hc j (hs j (by simpa using hj)) e h
        · exact hs e h
      · exact hs
  exact key l _ hd
theorem wp_swap {o : Oper} {a : Act} {w : World} {K : Act → World → Prop} {Q Q' : Exit → Act → World → Prop} (hp : ∀ c a w, Q (.panic c) a w → Q' (.panic c) a w) (hl : LetsOut Q → LetsOut Q') (hh : o.wp P a w K Q) : o.wp P a w K Q' := by
  unfold Oper.wp at *
  generalize (execOp a.eval o).run P w = r at *
  cases r with
  | ok n w' =>
    cases n <;> simp only [Oper.upon] at hh ⊢ <;>
      first
        | exact hh
        | exact Calls.mono hh (fun e w'' he => by cases e <;> first | exact he | exact hp _ _ _ he | exact hl he)
        | exact Rows.mono hh (fun _ _ he => he)
  | halt x w' => cases x <;> simp only [Oper.upon] at hh ⊢ <;> first | exact hh | exact hp _ _ _ hh | exact hl hh
def tailQ (P : Program) (o : Oper) (Q : Exit → Act → World → Prop) : Exit → Act → World → Prop
  | .normal => fun a w => o.wp P a w (fun a' w' => Q .normal a' w') Q
  | ex => Q ex
theorem push_get {listed : Array Bool} {j : Nat} {d : Bool} (h : j < listed.size) : (listed.push false).getD j d = listed.getD j d := by
  simp [Array.getD_eq_getD_getElem?, Array.getElem?_push, Nat.ne_of_lt h]
theorem push_end {listed : Array Bool} {d : Bool} : (listed.push false).getD listed.size d = false := by
  simp [Array.getD_eq_getD_getElem?, Array.getElem?_push]
theorem any_tail {init : Array Oper} {o : Oper} {Q : Exit → Act → World → Prop} (hg : o.guard = none) (hreach : ∀ j, j < init.size → j ∈ reachAt (init.push o) init.size) (hlast : ∀ e ∈ depsOf (init.push o) init.size, e < init.size)
    (hdep : ∀ i o', init[i]? = some o' → (∀ e ∈ depsOf init i, e < i) ∧ ∀ g w, o'.guard = some (g, w) → g < init.size) :
    ∀ (fuel : Nat) (listed : Array Bool) (a : Act) (w : World), listed.size = init.size → (∀ j, listed.getD j false = true → ∀ e ∈ depsOf init j, listed.getD e false = true) →
      wpAny P .any init (tailQ P o Q) fuel listed a w → wpAny P .any (init.push o) Q (fuel + 1) (listed.push false) a w := by
  have hold : ∀ i, i < init.size → (init.push o)[i]? = init[i]? := fun i hi => by rw [Array.getElem?_push, if_neg (by omega)]
  have hnew : (init.push o)[init.size]? = some o := by simp
  have hdo : ∀ i, i < init.size → depsOf (init.push o) i = depsOf init i := fun i hi => by unfold depsOf; rw [hold i hi]
  have hready : ∀ (listed : Array Bool), listed.size = init.size → ∀ i, i < init.size → (i ∈ Region.ready .any (init.push o) (listed.push false) ↔ i ∈ Region.ready .any init listed) := by
    intro listed hls i hi
    constructor
    · intro h
      obtain ⟨h0, o', ho', hd⟩ := ready_of h
      rw [push_get (by omega)] at h0
      rw [hold i hi] at ho'
      rw [hdo i hi] at hd
      refine ready_mk h0 ho' fun e he => ?_
      have := hd e he
      have hlt := (hdep i o' ho').1 e he
      rwa [push_get (by omega)] at this
    · intro h
      obtain ⟨h0, o', ho', hd⟩ := ready_of h
      refine ready_mk (by rw [push_get (by omega)]; exact h0) (by rw [hold i hi]; exact ho') fun e he => ?_
      rw [hdo i hi] at he
      have hlt := (hdep i o' ho').1 e he
      rw [push_get (by omega)]; exact hd e he
  have hnone : ∀ (listed : Array Bool), listed.size = init.size → Region.ready .any init listed = [] → ∀ j, j < init.size → listed.getD j false = true := by
    intro listed hls hnil j
    induction j using Nat.strongRecOn with
    | _ j ihj =>
      intro hj
      cases hl : listed.getD j false with
      | true => rfl
      | false =>
        exfalso
        have : j ∈ Region.ready .any init listed := by
          refine ready_mk ?_ (Array.getElem?_eq_getElem hj) fun e he => ?_
          · have hjl : j < listed.size := by omega
            simpa [Array.getD, hjl] using hl
          · have := (hdep j _ (Array.getElem?_eq_getElem hj)).1 e he
            exact ihj e this (by omega)
        rw [hnil] at this; simp at this
  have hclosed : ∀ (listed : Array Bool), listed.size = init.size → (∀ j, listed.getD j false = true → ∀ e ∈ depsOf init j, listed.getD e false = true) → init.size ∈ Region.ready .any (init.push o) (listed.push false) → Region.ready .any init listed = [] := by
    intro listed hls hcl h
    obtain ⟨-, o', -, hd⟩ := ready_of h
    have hc2 : ∀ j, (listed.push false).getD j false = true → ∀ e ∈ depsOf (init.push o) j, (listed.push false).getD e false = true := by
      intro j hj e he
      by_cases hjn : j < init.size
      · rw [push_get (by omega)] at hj
        rw [hdo j hjn] at he
        have hlt := (hdep j _ (Array.getElem?_eq_getElem hjn)).1 e he
        rw [push_get (by omega)]; exact hcl j hj e he
      · exfalso
        by_cases hje : j = init.size
        · rw [hje, ← hls, push_end] at hj; cases hj
        · rw [Array.getD_eq_getD_getElem?, Array.getElem?_eq_none (by simp; omega)] at hj; cases hj
    have hall : ∀ j, j < init.size → listed.getD j false = true := fun j hj => by
      have := reach_listed hc2 hd j (hreach j hj)
      rwa [push_get (by omega)] at this
    cases hr : Region.ready .any init listed with
    | nil => rfl
    | cons x l =>
      have hx : x ∈ Region.ready .any init listed := by rw [hr]; simp
      obtain ⟨h0, o', ho', -⟩ := ready_of hx
      have hxl := (Array.getElem?_eq_some_iff.1 ho').1
      have h1 := hall x hxl
      have hxs : x < listed.size := by omega
      simp [Array.getD, hxs] at h0 h1
      rw [h0] at h1; cases h1
  have hfinal : ∀ (fuel : Nat) (listed : Array Bool) (a : Act) (w : World), listed.size = init.size → (∀ j, j < init.size → listed.getD j false = true) → tailQ P o Q .normal a w →
      wpOp P (init.push o) Q init.size (wpAny P .any (init.push o) Q fuel ((listed.push false).setIfInBounds init.size true)) a w := by
    intro fuel listed a w hls hall h
    have hnil : Region.ready .any (init.push o) ((listed.push false).setIfInBounds init.size true) = [] := by
      cases hr : Region.ready .any (init.push o) ((listed.push false).setIfInBounds init.size true) with
      | nil => rfl
      | cons x l =>
        exfalso
        have hx : x ∈ Region.ready .any (init.push o) ((listed.push false).setIfInBounds init.size true) := by rw [hr]; simp
        obtain ⟨h0, o', ho', -⟩ := ready_of hx
        have hxl := (Array.getElem?_eq_some_iff.1 ho').1
        rw [Array.size_push] at hxl
        rw [Array.getD_eq_getD_getElem?, Array.getElem?_setIfInBounds] at h0
        split at h0
        · split at h0
          · cases h0
          · rename_i h1 h2; exact h2 (by simp; omega)
        · have h1 := hall x (by omega)
          rw [← Array.getD_eq_getD_getElem?, push_get (by omega)] at h0
          have hxs : x < listed.size := by omega
          simp [Array.getD, hxs] at h0 h1
          rw [h0] at h1; cases h1
    unfold wpOp
    rw [hnew]
    simp only
    have hw : Region.wanted o (yielded (init.push o) a.tmps) = true := by unfold Region.wanted; rw [hg]
    rw [if_pos hw]
    left
    refine Oper.wp_mono (fun a' w' hq => ?_) h
    cases fuel with
    | zero => exact ⟨hnil, hq⟩
    | succ fuel => exact ⟨fun _ => hq, fun i hi => by rw [hnil] at hi; simp at hi⟩
  intro fuel
  induction fuel with
  | zero =>
    intro listed a w hls hcl h
    obtain ⟨hnil, hq⟩ := h
    have hall := hnone listed hls hnil
    have hin : init.size ∈ Region.ready .any (init.push o) (listed.push false) := by
      refine ready_mk (by rw [← hls, push_end]) hnew fun e he => ?_
      have := hlast e he
      rw [push_get (by omega)]; exact hall e this
    refine ⟨fun hn => by rw [hn] at hin; simp at hin, fun i hi => ?_⟩
    by_cases hilt : i < init.size
    · rw [hready listed hls i hilt, hnil] at hi; simp at hi
    · have hie : i = init.size := by
        obtain ⟨-, o', ho', -⟩ := ready_of hi
        have := (Array.getElem?_eq_some_iff.1 ho').1
        rw [Array.size_push] at this; omega
      subst hie
      exact hfinal 0 listed a w hls hall hq
  | succ fuel ih =>
    intro listed a w hls hcl h
    obtain ⟨h1, h2⟩ := h
    refine ⟨fun hn => ?_, fun i hi => ?_⟩
    · exfalso
      have hnil : Region.ready .any init listed = [] := by
        cases hr : Region.ready .any init listed with
        | nil => rfl
        | cons x l =>
          have hx : x ∈ Region.ready .any init listed := by rw [hr]; simp
          obtain ⟨-, o', ho', -⟩ := ready_of hx
          have := (hready listed hls x (Array.getElem?_eq_some_iff.1 ho').1).2 hx
          rw [hn] at this; simp at this
      have hall := hnone listed hls hnil
      have hin : init.size ∈ Region.ready .any (init.push o) (listed.push false) := by
        refine ready_mk (by rw [← hls, push_end]) hnew fun e he => ?_
        have := hlast e he
        rw [push_get (by omega)]; exact hall e this
      rw [hn] at hin; simp at hin
    · by_cases hilt : i < init.size
      · have hi' := (hready listed hls i hilt).1 hi
        have h3 := h2 i hi'
        obtain ⟨h0, o', ho', hd⟩ := ready_of hi'
        have hset : (listed.push false).setIfInBounds i true = (listed.setIfInBounds i true).push false := by
          apply Array.ext'
          simp [List.set_append, hls, hilt]
        have hcl2 : ∀ j, (listed.setIfInBounds i true).getD j false = true → ∀ e ∈ depsOf init j, (listed.setIfInBounds i true).getD e false = true := by
          intro j hj e he
          have hup : ∀ e, listed.getD e false = true → (listed.setIfInBounds i true).getD e false = true := fun e he => by
            rw [Array.getD_eq_getD_getElem?, Array.getElem?_setIfInBounds]
            split
            · rw [if_pos (by rename_i h; omega)]; rfl
            · rw [← Array.getD_eq_getD_getElem?]; exact he
          by_cases hji : j = i
          · subst hji; exact hup e (hd e he)
          · refine hup e (hcl j ?_ e he)
            rw [Array.getD_eq_getD_getElem?, Array.getElem?_setIfInBounds, if_neg (fun h => hji h.symm), ← Array.getD_eq_getD_getElem?] at hj
            exact hj
        have hk : ∀ a' w', wpAny P .any init (tailQ P o Q) fuel (listed.setIfInBounds i true) a' w' → wpAny P .any (init.push o) Q (fuel + 1) ((listed.push false).setIfInBounds i true) a' w' := fun a' w' h => by
          rw [hset]; exact ih _ a' w' (by simpa using hls) hcl2 h
        unfold wpOp at h3 ⊢
        rw [hold i hilt]
        rw [ho'] at h3 ⊢
        simp only at h3 ⊢
        have hy : Region.wanted o' (yielded (init.push o) a.tmps) = Region.wanted o' (yielded init a.tmps) := by
          unfold Region.wanted
          cases hgd : o'.guard with
          | none => rfl
          | some x =>
            obtain ⟨g, b⟩ := x
            have hgl := (hdep i o' ho').2 g b hgd
            simp only [yielded, hold g hgl]
        rw [hy]
        split
        · rename_i hw
          rw [if_pos hw] at h3
          rcases h3 with h3 | ⟨h3, h4⟩
          · exact .inl (Oper.wp_mono hk (wp_swap (fun c a w h => h) (fun ⟨a, w, h⟩ => ⟨a, w, h⟩) h3))
          · exact .inr ⟨h3, let ⟨a, w, h⟩ := h4; ⟨a, w, h⟩⟩
        · rename_i hw
          rw [if_neg hw] at h3
          exact hk _ _ h3
      · have hie : i = init.size := by
          obtain ⟨-, o', ho', -⟩ := ready_of hi
          have := (Array.getElem?_eq_some_iff.1 ho').1
          rw [Array.size_push] at this; omega
        subst hie
        have hnil := hclosed listed hls hcl hi
        exact hfinal (fuel + 1) listed a w hls (hnone listed hls hnil) (h1 hnil)
end
end Go.Proofs.YtmkoiandfojgmaaGreat
namespace Go.Proofs.YtmkoiandfojgmaaGreat
open Go.RowKit
section
variable {P : Program}
theorem allLeaf_flat {ys : List (List AV)} (h : (ys.all fun e => e.all leafOk) = true) : ys.flatten.all leafOk = true := by
  rw [List.all_eq_true] at h ⊢
  intro c hc
  rw [List.mem_flatten] at hc
  obtain ⟨l, hl, hc⟩ := hc
  exact List.all_eq_true.1 (h l hl) c hc
theorem litC_sound {C : Cx} {sz m : Nat} {y : AV} {ys : List AV} {vy : Value} (hy : VR C y vy) (h : litC sz y = some (m, ys)) (h0 : 0 < m) (hs : 0 < sz) :
    ∃ b o cap vs, vy = .slice (some ⟨b, o, none⟩) m cap ∧ VRs C ys vs ∧ vs.length = m * sz ∧ Lie C.w C.Avoid b o vs ∧ (∀ v ∈ vs, v.oneCell' = true) := by
  unfold litC at h
  split at h
  · rename_i es c
    split at h
    · rename_i hh
      simp only [Option.some.injEq, Prod.mk.injEq] at h
      obtain ⟨rfl, rfl⟩ := h
      simp only [VR] at hy
      obtain ⟨a, len, cap, rfl, e1, e2, e3, e4⟩ := hy
      rcases e4 with rfl | ⟨b, o, sz', rfl, hr⟩
      · simp at h0
      · have hne : es ≠ [] := by intro e; subst e; simp at h0
        have := PRows_sz hr hh.1 hne
        subst this
        obtain ⟨l, g1, g2, g3⟩ := PRows_unlay hr
        exact ⟨b, o, cap, l, by rw [e1], VRs_of_PRs g2, g1, g3, PRs_one g2⟩
    · simp at h
  · rename_i len cs
    split at h
    · rename_i hh
      simp only [Option.some.injEq, Prod.mk.injEq] at h
      obtain ⟨rfl, rfl⟩ := h
      simp only [VR] at hy
      obtain ⟨b, vs, rfl, hl, hv⟩ := hy
      have := VRs_length hv
      exact ⟨b, 0, len, vs, rfl, hv, by omega, hl, leafs_one hv hh.2⟩
    · simp at h
  · simp at h
def Cx.turn (C : Cx) (w : World) (id b : Nat) (cs : List AV) : Cx := { C with w := w, φ := fun i => if i = id then b else C.φ i, S := put C.S id ⟨C.n, cs⟩, n := C.n + 1 }
theorem turn_mut {C : Cx} {w : World} {id b : Nat} {cs : List AV} {x o : Nat} (hm : (C.turn w id b cs).Mut x o) : C.Mut x o ∨ x = b := by
  rcases hm with ⟨i, hi, e⟩ | h
  · simp only [Cx.turn, put_len] at hi e
    split at e
    · exact .inr e.symm
    · exact .inl (.inl ⟨i, hi, e⟩)
  · exact .inl (.inr h)
theorem Le.turn {C : Cx} {w : World} {id b : Nat} {cs : List AV} (hid : id < C.S.length) (hb : b = C.φ id ∨ C.w.heap.size ≤ b) (hos : w.os = C.w.os) (htape : w.tape = C.w.tape) (hout : w.output = C.w.output) (hsize : C.w.heap.size ≤ w.heap.size)
    (hcell : ∀ x o v, C.w.cell? ⟨x, o, none⟩ = some v → ¬ C.Mut x o → w.cell? ⟨x, o, none⟩ = some v) (hkeep : ∀ x, x < C.w.heap.size → (∀ o, ¬ C.Mut x o) → w.heap[x]? = C.w.heap[x]?)
    (hshape : ∀ (b : Nat) (cs : Array Value) (t : TypeId) (fz : Nat × Nat), C.w.heap[b]? = some (Obj.cells cs t fz) → ∃ cs' : Array Value, w.heap[b]? = some (Obj.cells cs' t fz) ∧ cs'.size = cs.size) : Le C (C.turn w id b cs) := by
  refine ⟨hos, htape, hout, hsize, rfl, Nat.le_succ _, fun x o hx hm => ?_, hcell, hkeep, hshape, fun i e he hn => ?_, fun _ k hk => ⟨k, hk, Nat.le_refl _, fun _ => rfl⟩⟩
  · rcases turn_mut hm with h | rfl
    · exact h
    · rcases hb with rfl | hb
      · exact .inl ⟨id, hid, rfl⟩
      · omega
  · by_cases h : id = i
    · subst h
      have := nth_put_same he
      subst this
      simp at hn
    · simp only [Cx.turn] at he ⊢
      rw [nth_put_other h] at he
      exact ⟨e, he, rfl, by rw [if_neg (fun x => h x.symm)]⟩
theorem VRs_takeL {C : Cx} : ∀ (n : Nat) {cs : List AV} {vs : List Value}, VRs C cs vs → VRs C (cs.take n) (vs.take n)
  | 0, _, _, _ => by simp [VRs]
  | n + 1, c :: cs, v :: vs, h => by simp only [VRs, List.take_succ_cons] at h ⊢; exact ⟨h.1, VRs_takeL n h.2⟩
  | _ + 1, [], [], _ => by simp [VRs]
  | _ + 1, [], _ :: _, h => by simp only [VRs] at h
  | _ + 1, _ :: _, [], h => by simp only [VRs] at h
theorem SR.turn [Globs] {C : Cx} (hsr : SR C) {w : World} {id b : Nat} {cs : List AV} {arr : Array Value} {t : TypeId} (hid : id < C.S.length) (hb : b = C.φ id ∨ C.w.heap.size ≤ b) (hle : Le C (C.turn w id b cs)) (harr : w.heap[b]? = some (.cells arr t (0, 0)))
    (hblk : ∀ i, i < C.S.length → i ≠ id → w.heap[C.φ i]? = C.w.heap[C.φ i]?) (hv : ∃ vs r, arr.toList = vs ++ r ∧ VRs C cs vs) : SR (C.turn w id b cs) := by
  have hne : ∀ i, i < C.S.length → i ≠ id → C.φ i ≠ b := fun i hi h e => by
    rcases hb with hb | hb
    · exact h (hsr.ne i id hi hid (by rw [e, hb]))
    · have := phi_lt hsr hi; omega
  refine ⟨fun i x hx => ?_, fun i j hi hj h => ?_, hsr.tok, fun i j o hi hj h h1 h2 => ?_, fun x o hm => ?_, fun x o ha => Nat.lt_of_lt_of_le (hsr.avlt x o ha) hle.size, fun i o hi h1 h2 => Nat.lt_of_lt_of_le (hsr.tlt i o hi h1 h2) hle.size, glob_le hsr hle⟩
  · by_cases h : id = i
    · subst h
      have := nth_put_same hx
      subst this
      obtain ⟨vs, r, hv1, hv2⟩ := hv
      exact ⟨Nat.lt_succ_self _, EntR.mk (VRs_notM hv2) (t := t) (by simp only [Cx.turn, if_true]; exact harr) hv1 (VRs.mono hle _ _ hv2)⟩
    · have hx' : nth C.S i = some x := by simp only [Cx.turn] at hx; rw [← nth_put_other h]; exact hx
      refine ⟨Nat.lt_succ_of_lt (hsr.ent i x hx').1, (hsr.ent i x hx').2.move ?_ (VRs.mono hle _)⟩
      simp only [Cx.turn]
      rw [if_neg (fun e => h e.symm), hblk i (nth_lt hx') (fun e => h e.symm)]
  · simp only [Cx.turn, put_len] at hi hj h
    by_cases hi' : i = id <;> by_cases hj' : j = id
    · omega
    · rw [if_pos hi', if_neg hj'] at h
      exact absurd h.symm (hne j hj hj')
    · rw [if_neg hi', if_pos hj'] at h
      exact absurd h (hne i hi hi')
    · rw [if_neg hi', if_neg hj'] at h
      exact hsr.ne i j hi hj h
  · simp only [Cx.turn, put_len] at hi h hj h1 h2
    by_cases hi' : i = id
    · rw [if_pos hi'] at h
      rcases hb with rfl | hb
      · exact hsr.apart id j o hid hj h h1 h2
      · have := hsr.tlt j o hj h1 h2; omega
    · rw [if_neg hi'] at h
      exact hsr.apart i j o hi hj h h1 h2
  · rcases turn_mut hm with h | rfl
    · exact hsr.own x o h
    · rcases hb with rfl | hb
      · exact hsr.own _ o (.inl ⟨id, hid, rfl⟩)
      · intro ha
        have := hsr.avlt _ o ha; omega
theorem apO_sound [Globs] {C : Cx} (hsr : SR C) {t ty : TypeId} {x y av : AV} {vx vy : Value} {S' : List Ent} {n' : Nat} (hx : VR C x vx) (hy : VR C y vy) (h : apO P t x y C.S C.n = some (av, S', n')) :
    ∃ v C', (Builtin.append_ #[t, t] ty #[vx, vy]).run P C.w = .ok v C'.w ∧ Le C C' ∧ SR C' ∧ C'.S = S' ∧ C'.tk = C.tk ∧ C'.n = n' ∧ VR C' av v := by
  unfold apO at h
  split at h
  case h_2 => simp at h
  rename_i sz hT
  split at h
  case h_2 => simp at h
  rename_i m ys hL
  split at h
  case isFalse => simp at h
  rename_i hm
  obtain ⟨hm0, hmr⟩ := hm
  simp only [roomy, decide_eq_true_eq] at hmr
  obtain ⟨e, i, z, hu, hi, hz, hsz, hpos, hzs, hby, -⟩ := apT_info hT
  obtain ⟨b2, o2, cap2, news, rfl, hn2, hn1, hlie, hone⟩ := litC_sound hy hL hm0 hpos
  have hncell : ∀ (j : Nat) u, news[j]? = some u → C.w.cell? (Addr.add ⟨b2, o2, none⟩ j) = some u := fun j u hj => by rw [add_none]; exact (lie_at hlie j u hj).1
  unfold apO2 at h
  split at h
  · -- the first
    simp only [Option.some.injEq, Prod.mk.injEq] at h
    obtain ⟨rfl, rfl, rfl⟩ := h
    simp only [VR] at hx
    obtain ⟨a, len, cap, rfl, hlen, hcap, hC, hE⟩ := hx
    obtain ⟨rfl, hcl⟩ : a = none ∧ cap = len := hC
    simp only [List.length_nil] at hlen
    subst hlen
    subst hcl
    have hbytes : m * i.bytes ≤ 140737488355328 := by
      have : m * i.bytes ≤ 1048576 * 1048576 := Nat.mul_le_mul hmr hby
      omega
    have hrun := run_append_nil (P := P) C.w t ty e i z hu hi hz ⟨b2, o2, none⟩ m cap2 news (by rw [hsz]; exact hn1) hncell (by omega) (by omega) (by omega)
    generalize hA : (news.toArray ++ Builtin.zeroCells z.cells (grownCap C.w m 0 e - m)) = arr at hrun
    have hge := grownCap_ge C.w m 0 e
    have hasz : arr.size = grownCap C.w m 0 e * sz := by
      rw [← hA]
      simp only [Array.size_append, List.size_toArray, size_zeroCells, hzs, hn1]
      rw [Nat.sub_mul]
      have := Nat.mul_le_mul_right sz hge
      omega
    have hd : Below C.w.heap.size C.w C.w.drew := (Below.refl _ _).drew
    have hsr1 : SR (C.at C.w.drew) := SR.of_below hsr hd
    have hv : ∃ vs r, arr.toList = vs ++ r ∧ VRs (C.at C.w.drew) ys vs := ⟨news, (Builtin.zeroCells z.cells (grownCap C.w m 0 e - m)).toList, by rw [← hA]; simp, VRs.mono (Le.of_below hd) _ _ hn2⟩
    refine ⟨_, (C.at C.w.drew).more arr e ys, hrun, (Le.of_below hd).trans (Le.more hsr1 _ _ _), SR.moreP hsr1 hv, rfl, rfl, rfl, ?_⟩
    simp only [VR]
    refine ⟨C.w.heap.size, _, _, rfl, hge, .inr rfl, Nat.lt_succ_self _, fun e' he' hep => ⟨?_, arr, e, ?_, by omega⟩⟩
    · simp [Cx.more, Cx.at]
    · exact heap_alloc_same C.w.drew _
  · -- the next ones
    rename_i id ep len sz'
    split at h
    case isFalse => simp at h
    rename_i hh
    obtain rfl := hh
    split at h
    case h_2 => simp at h
    rename_i cs hcs
    split at h
    case isFalse => simp at h
    rename_i hh
    obtain ⟨hcl, hroom⟩ := hh
    simp only [roomy, decide_eq_true_eq] at hroom
    simp only [Option.some.injEq, Prod.mk.injEq] at h
    obtain ⟨rfl, rfl, rfl⟩ := h
    obtain ⟨en, h1, h2, rfl⟩ := entAt_some hcs
    simp only [VR] at hx
    obtain ⟨b, a, cap, rfl, hcap, ha, hn, hb⟩ := hx
    obtain rfl := ha.resolve_left (by omega)
    obtain ⟨rfl, arr, tt, h3, hfit⟩ := hb en h1 h2
    obtain ⟨-, arr', tt', h3', olds, r, hor, ho2⟩ := hsr.entC h1 (entAt_notM hcs)
    have hcut : ∃ olds2 r2, arr'.toList = olds2 ++ r2 ∧ VRs C (en.cells.take (len * sz')) olds2 := ⟨olds.take (len * sz'), olds.drop (len * sz') ++ r, by rw [hor, ← List.append_assoc, List.take_append_drop], VRs_takeL _ ho2⟩
    clear hor ho2
    obtain ⟨olds, r, hor, ho2⟩ := hcut
    have hcl : (en.cells.take (len * sz')).length = len * sz' := by rw [List.length_take]; omega
    generalize en.cells.take (len * sz') = cc at hcl ho2 ⊢
    rw [h3] at h3'
    simp only [Option.some.injEq, Obj.cells.injEq] at h3'
    obtain ⟨rfl, rfl, -⟩ := h3'
    have hidl := nth_lt h1
    have hol := VRs_length ho2
    have hasz : arr.size = olds.length + r.length := by rw [← Array.length_toList, hor, List.length_append]
    have hmul : len * sz' + m * sz' = (len + m) * sz' := (Nat.add_mul _ _ _).symm
    have hboth : VRs C (cc ++ ys) (olds ++ news) := VRs_append ho2 hn2
    by_cases hplace : len + m ≤ cap
    · have hmc : (len + m) * sz' ≤ cap * sz' := Nat.mul_le_mul_right _ hplace
      have hrun := run_append_room' (P := P) C.w t ty e i hu hi (C.φ id) len cap tt arr h3 ⟨b2, o2, none⟩ m cap2 news (by rw [hsz]; exact hn1) hncell hone hplace (by rw [hsz, hn1]; omega)
      rw [hsz] at hrun
      generalize hA : (arr.toList.take (len * sz') ++ news ++ arr.toList.drop (len * sz' + news.length)).toArray = arr1 at hrun
      have hsize' : arr1.size = arr.size := by rw [← hA]; simp; omega
      have htk : arr.toList.take (len * sz') = olds := by rw [hor, List.take_append_of_le_length (by omega), List.take_of_length_le (by omega)]
      have hv : ∃ vs r, arr1.toList = vs ++ r ∧ VRs C (cc ++ ys) vs := ⟨olds ++ news, arr.toList.drop (len * sz' + news.length), by rw [← hA, htk], hboth⟩
      have hhb : (C.w.setRow (C.φ id) arr1).heap[C.φ id]? = some (.cells arr1 tt (0, 0)) := setRow_heap _ _ _ _ _ _ h3
      have hle : Le C (C.turn (C.w.setRow (C.φ id) arr1) id (C.φ id) (cc ++ ys)) := by
        have hm : ∀ o, C.Mut (C.φ id) o := fun o => .inl ⟨id, hidl, rfl⟩
        refine Le.turn hidl (.inl rfl) rfl rfl rfl (by simp) (fun x o v hv hn => ?_) (fun x _ hn => ?_) (fun x d t' fz hd => ?_)
        · have hne : x ≠ C.φ id := fun h => hn (h ▸ hm o)
          have := setRow_other C.w (C.φ id) x arr1 hne
          simpa [World.cell?, this] using hv
        · exact setRow_other C.w (C.φ id) x arr1 fun h => hn 0 (h ▸ hm 0)
        · by_cases h : x = C.φ id
          · subst h
            rw [h3] at hd
            simp only [Option.some.injEq, Obj.cells.injEq] at hd
            obtain ⟨rfl, rfl, rfl⟩ := hd
            exact ⟨arr1, hhb, hsize'⟩
          · exact ⟨d, by rw [setRow_other _ _ _ _ h]; exact hd, rfl⟩
      refine ⟨_, _, hrun, hle, SR.turn hsr hidl (.inl rfl) hle hhb (fun i hi hne => setRow_other _ _ _ _ fun h => hne (hsr.ne i id hi hidl h)) hv, rfl, rfl, rfl, ?_⟩
      simp only [VR]
      refine ⟨C.φ id, _, _, rfl, hplace, .inr rfl, Nat.lt_succ_self _, fun e' he' hep => ⟨by simp [Cx.turn], arr1, tt, hhb, by omega⟩⟩
    · have hgrow : cap < len + m := by omega
      have hbytes : (len + m) * i.bytes ≤ 140737488355328 := by
        have : (len + m) * i.bytes ≤ 1048576 * 1048576 := Nat.mul_le_mul hroom hby
        omega
      have hcells : ∀ (j : Nat) v, olds[j]? = some v → C.w.cell? (Addr.add ⟨C.φ id, 0, none⟩ j) = some v := fun j v hj => by
        rw [add_none, Nat.zero_add]
        have : arr.toList[j]? = some v := by rw [hor, List.getElem?_append_left (List.getElem?_eq_some_iff.1 hj).1]; exact hj
        simp [World.cell?, h3]; simpa using this
      have hrun := run_append_grow (P := P) C.w t ty e i z hu hi hz ⟨C.φ id, 0, none⟩ len cap olds (by rw [hsz]; omega) hcells ⟨b2, o2, none⟩ m cap2 news (by rw [hsz]; exact hn1) hncell hgrow (by omega) (growslice_fits hgrow hbytes)
      generalize hA : (olds.toArray ++ news.toArray ++ Builtin.zeroCells z.cells (grownCap C.w (len + m) cap e - (len + m))) = arr1 at hrun
      have hge := grownCap_ge C.w (len + m) cap e
      have hasz1 : arr1.size = grownCap C.w (len + m) cap e * sz' := by
        rw [← hA]
        simp only [Array.size_append, List.size_toArray, size_zeroCells, hzs, hn1]
        rw [Nat.sub_mul]
        have := Nat.mul_le_mul_right sz' hge
        omega
      have hbel : Below C.w.heap.size C.w (C.w.drew.alloc (.cells arr1 e)) := ((Below.refl _ _).drew).alloc (by simp) _
      have hhb : (C.w.drew.alloc (.cells arr1 e)).heap[C.w.heap.size]? = some (.cells arr1 e (0, 0)) := heap_alloc_same C.w.drew _
      have hle : Le C (C.turn (C.w.drew.alloc (.cells arr1 e)) id C.w.heap.size (cc ++ ys)) :=
        Le.turn hidl (.inr (Nat.le_refl _)) hbel.os hbel.tape hbel.output hbel.size (fun x o v hv _ => by rw [Below.cell hbel (cell_lt hv)]; exact hv) (fun x hx _ => hbel.block x hx) (fun x d t' fz hd => ⟨d, below_shape hbel hd, rfl⟩)
      have hv : ∃ vs r, arr1.toList = vs ++ r ∧ VRs C (cc ++ ys) vs := ⟨olds ++ news, (Builtin.zeroCells z.cells (grownCap C.w (len + m) cap e - (len + m))).toList, by rw [← hA]; simp, hboth⟩
      refine ⟨_, _, hrun, hle, SR.turn hsr hidl (.inr (Nat.le_refl _)) hle hhb (fun i hi _ => hbel.block _ (phi_lt hsr hi)) hv, rfl, rfl, rfl, ?_⟩
      simp only [VR]
      refine ⟨C.w.heap.size, _, _, rfl, hge, .inr rfl, Nat.lt_succ_self _, fun e' he' hep => ⟨by simp [Cx.turn], arr1, e, hhb, by omega⟩⟩
  · simp at h
end
end Go.Proofs.YtmkoiandfojgmaaGreat
