/-
  Texts laid together: UOk3, FName.
-/
import Derived.Test.YtmkoiandfojgmaaZP19
import Derived.Shelf.SlMaps.Clone
import Derived.Test.YtmkoiandfojgmaaZP11
/-
  maps.Clone: a new block with the old entries.
-/


namespace Go.Proofs.Ytmkoiandfojgmaa
open Go Go.RowKit
set_option maxRecDepth 100000 in
set_option maxHeartbeats 2000000 in
theorem mclone_raw (mixed : Try.prog.follows .mixedOrders = true) {w : World} {b : Nat} {es : Array MapEntry} {clock : Nat} (hb : w.heap[b]? = some (.map es clock)) :
    Calls Try.prog 44 #[.map (some b)] w fun e w' => e = .returned (.map (some w.heap.size)) ∧ w' = w.alloc (.map es clock) := by
  have hq := fun w => run_eql_map_nil_sl (P := Try.prog) w 93 _ _ (some b) Try.underlying93
  go_enter Try.func44, Try.ntmps44
  go_wp2
  rw [run_callFunc_extern Try.func62 (by kernel_rfl) (by kernel_rfl) (by kernel_rfl) (e := Extern.MapsClone.clone) (by kernel_rfl), run_maps_clone_sl w 93 hb]
  simp only [Result.andThen]
  rw [Oper.upon_value]
  go_wp2
  rw [run_typeAssert_map_sl _ 93 _ _ _ _ Try.underlying93]
  simp only [Result.andThen]
  rw [Oper.upon_value]
  go_wp2
  go_ret
  exact ⟨rfl, rfl⟩
theorem mclone_calls (hmx : Try.prog.follows .mixedOrders = true) {C : Cx} {vs : Array Value} (hsr : SR C) {i e : Nat} {s : Sn} (hs : mapAt C.S i e = some s) (hv : VRs C [.mref i e] vs.toList) :
    Calls Try.prog 44 vs C.w (ToldR C (C.S ++ [⟨C.n, [.mset s]⟩]) C.tk (C.n + 1) (.mref C.S.length C.n)) := by
  obtain ⟨vl⟩ := vs
  match vl, hv with
  | [x], hv =>
  simp only [VRs, and_true] at hv
  obtain rfl := VR_mref hv hs
  obtain ⟨es, clock, hb, hok⟩ := mapAt_ent hsr hs
  refine Calls.mono (mclone_raw hmx hb) ?_
  rintro e' w' ⟨rfl, rfl⟩
  exact ⟨_, C.moreM es clock s, rfl, rfl, Le.moreM hsr _ _ _, SR.moreM hsr hok, rfl, rfl, rfl, VR_mnew⟩
end Go.Proofs.Ytmkoiandfojgmaa
/-
  Names and their order; increasing lists of names.
-/

namespace Go.Proofs.Ytmkoiandfojgmaa
open Go

theorem nloop_eq (s : ByteArray) : ∀ (n i : Nat) (r : List UInt8), s.size - i = n → ByteArray.toList.loop s i r = r.reverse ++ s.data.toList.drop i := by
  intro n
  induction n with
  | zero =>
    intro i r h
    rw [ByteArray.toList.loop, if_neg (by omega), List.drop_eq_nil_of_le (by simp; omega), List.append_nil]
  | succ n ih =>
    intro i r h
    have hi : i < s.data.size := by simp; omega
    rw [ByteArray.toList.loop, if_pos (by omega), ih (i + 1) _ (by omega), List.reverse_cons, List.append_assoc]
    congr 1
    have e : s.data.toList.drop i = s.data[i] :: s.data.toList.drop (i + 1) := by
      rw [← Array.getElem_toList hi, List.getElem_cons_drop]
    rw [e, List.singleton_append]
    congr 1
    show s.data[i]! = _
    rw [getElem!_pos s.data i hi]
def nm (s : ByteArray) : List UInt8 := s.data.toList
theorem nm_list (s : ByteArray) : s.toList = nm s := by rw [ByteArray.toList, nloop_eq s _ 0 [] rfl]; simp [nm]
theorem nm_inj {a b : ByteArray} (h : nm a = nm b) : a = b := by
  apply ByteArray.ext; exact Array.ext' h
theorem bytesLess_lt : ∀ (x y : List UInt8), Op.bytesLess x y = decide (x < y)
  | [], [] => by simp [Op.bytesLess]
  | a :: x, [] => by simp [Op.bytesLess]
  | [], b :: y => by simp [Op.bytesLess]
  | a :: x, b :: y => by
    rw [Op.bytesLess, bytesLess_lt x y]
    by_cases h1 : a < b
    · simp [h1, List.cons_lt_cons_iff]
    · by_cases h2 : a = b
      · subst h2; simp [List.cons_lt_cons_iff]
      · simp [h1, h2, List.cons_lt_cons_iff]
theorem sLt_nm (a b : ByteArray) : sLt a b = decide (nm a < nm b) := by
  unfold sLt; rw [nm_list, nm_list, bytesLess_lt]
theorem sEq_nm (a b : ByteArray) : sEq a b = decide (a = b) := by
  unfold sEq; rw [nm_list, nm_list]
  by_cases h : a = b
  · subst h; simp
  · have : nm a ≠ nm b := fun h' => h (nm_inj h')
    simp [h, this]
theorem nlt_trans {a b c : List UInt8} (h1 : a < b) (h2 : b < c) : a < c := List.lt_trans h1 h2
theorem nlt_irrefl (a : List UInt8) : ¬ a < a := List.lt_irrefl a
theorem nlt_tri (a b : ByteArray) : nm a < nm b ∨ a = b ∨ nm b < nm a := by
  by_cases h1 : nm a < nm b
  · exact .inl h1
  · by_cases h2 : nm b < nm a
    · exact .inr (.inr h2)
    · exact .inr (.inl (nm_inj (List.le_antisymm (List.not_lt.1 h2) (List.not_lt.1 h1))))
/-- each name is less than those behind it -/
def Inc (l : List ByteArray) : Prop := l.Pairwise fun a b => nm a < nm b
theorem mem_put (s x : ByteArray) : ∀ l : List ByteArray, x ∈ putS l s ↔ x = s ∨ x ∈ l
  | [] => by simp [putS]
  | y :: r => by
    rw [putS]
    split
    · rw [List.mem_cons, mem_put s x r, List.mem_cons]
      constructor
      · rintro (h | h | h) <;> simp [h]
      · rintro (h | h | h) <;> simp [h]
    · split
      · rename_i h
        rw [sEq_nm] at h
        have : y = s := by simpa using h
        subst this
        simp
      · simp [or_comm, or_left_comm]
theorem inc_put (s : ByteArray) : ∀ {l : List ByteArray}, Inc l → Inc (putS l s)
  | [], _ => by simp [putS, Inc]
  | y :: r, h => by
    have h0 := List.pairwise_cons.1 h
    rw [putS]
    split
    · rename_i h1
      rw [sLt_nm] at h1
      refine List.pairwise_cons.2 ⟨fun x hx => ?_, inc_put s h0.2⟩
      rcases (mem_put s x r).1 hx with rfl | hx
      · simpa using h1
      · exact h0.1 x hx
    · rename_i h1
      rw [sLt_nm] at h1
      split
      · exact h
      · rename_i h2
        rw [sEq_nm] at h2
        have h3 : nm s < nm y := by
          rcases nlt_tri s y with h | h | h
          · exact h
          · exact absurd (by simpa using h.symm) h2
          · exact absurd (by simpa using h) h1
        refine List.pairwise_cons.2 ⟨fun x hx => ?_, h⟩
        rcases List.mem_cons.1 hx with rfl | hx
        · exact h3
        · exact nlt_trans h3 (h0.1 x hx)
theorem len_put (s : ByteArray) : ∀ l : List ByteArray, (putS l s).length ≤ l.length + 1
  | [] => by simp [putS]
  | y :: r => by
    rw [putS]
    have := len_put s r
    split
    · simp; exact this
    · split <;> simp
theorem uni_snoc (l : List ByteArray) (s : ByteArray) : uniS (l ++ [s]) = putS (uniS l) s := by simp [uniS, List.foldl_append]
theorem uni_facts (l : List ByteArray) : Inc (uniS l) ∧ (∀ x, x ∈ uniS l ↔ x ∈ l) ∧ (uniS l).length ≤ l.length := by
  have key : ∀ (l acc : List ByteArray), Inc acc → Inc (l.foldl putS acc) ∧ (∀ x, x ∈ l.foldl putS acc ↔ x ∈ acc ∨ x ∈ l) ∧ (l.foldl putS acc).length ≤ acc.length + l.length := by
    intro l
    induction l with
    | nil => intro acc h; exact ⟨h, fun x => by simp, by simp⟩
    | cons s l ih =>
      intro acc h
      obtain ⟨h1, h2, h3⟩ := ih (putS acc s) (inc_put s h)
      refine ⟨h1, fun x => ?_, ?_⟩
      · rw [List.foldl_cons, h2 x, mem_put, List.mem_cons]
        constructor
        · rintro ((h | h) | h) <;> simp [h]
        · rintro (h | h | h) <;> simp [h]
      · have := len_put s acc
        simp only [List.foldl_cons, List.length_cons]; omega
  have := key l [] (by simp [Inc])
  exact ⟨this.1, fun x => by simpa [uniS] using this.2.1 x, by simpa [uniS] using this.2.2⟩
theorem putS_end {s : ByteArray} : ∀ {l : List ByteArray}, (∀ x ∈ l, nm x < nm s) → putS l s = l ++ [s]
  | [], _ => rfl
  | y :: r, h => by
    rw [putS, if_pos (by rw [sLt_nm]; simpa using h y (by simp)), putS_end fun x hx => h x (by simp [hx])]; rfl
/-- an increasing list is its own union -/
theorem fold_inc : ∀ (l acc : List ByteArray), Inc (acc ++ l) → l.foldl putS acc = acc ++ l
  | [], acc, _ => by simp
  | s :: l, acc, h => by
    have h1 : ∀ x ∈ acc, nm x < nm s := fun x hx => (List.pairwise_append.1 h).2.2 x hx s (by simp)
    rw [List.foldl_cons, putS_end h1, fold_inc l (acc ++ [s]) (by simpa using h)]; simp
theorem inc_eq : ∀ {l r : List ByteArray}, Inc l → Inc r → (∀ x, x ∈ l ↔ x ∈ r) → l = r
  | [], [], _, _, _ => rfl
  | [], y :: r, _, _, h => by have := (h y).2 (by simp); simp at this
  | x :: l, [], _, _, h => by have := (h x).1 (by simp); simp at this
  | x :: l, y :: r, h1, h2, h => by
    have a1 := List.pairwise_cons.1 h1
    have a2 := List.pairwise_cons.1 h2
    have hxy : x = y := by
      have m1 := (h x).1 (by simp)
      have m2 := (h y).2 (by simp)
      rcases List.mem_cons.1 m1 with e | m1
      · exact e
      · rcases List.mem_cons.1 m2 with e | m2
        · exact e.symm
        · exact absurd (nlt_trans (a1.1 y m2) (a2.1 x m1)) (nlt_irrefl _)
    subst hxy
    congr 1
    refine inc_eq a1.2 a2.2 fun z => ?_
    have hz := h z
    simp only [List.mem_cons] at hz
    constructor
    · intro hm
      rcases hz.1 (.inr hm) with e | hm'
      · subst e; exact absurd (a1.1 z hm) (nlt_irrefl _)
      · exact hm'
    · intro hm
      rcases hz.2 (.inr hm) with e | hm'
      · subst e; exact absurd (a2.1 z hm) (nlt_irrefl _)
      · exact hm'
end Go.Proofs.Ytmkoiandfojgmaa
