/-
  Texts laid together: DC0.
-/
import Derived.Test.YtkghgdkkholieaaDoorZA10
import Derived.Laws.AppendOwn
import Derived.Lib.OwnBridge
import Derived.WalkKit
import Derived.Test.YtkghgdkkholieaaDoorZA13
/-
  From the evaluator to the model: a world in which nothing is anybody's own, but the table.
-/




namespace Go.Proofs.YtkghgdkkholieaaDoor
open Go Go.RowKit
/-- a world in which nothing is anybody's own; the table is left alone -/
def C0 (W : World) : Cx := { w := W, av := fun b _ => b = 0, φ := fun _ => 0, ψ := fun _ => (0, 0, 0), S := [], tk := [], n := 0 }
theorem C0_mut {W : World} {b o : Nat} : ¬ (C0 W).Mut b o := by
  rintro (⟨i, hi, _⟩ | ⟨i, hi, _⟩)
  · simp [C0] at hi
  · simp [C0] at hi
theorem C0_avoid {W : World} {b o : Nat} (hb : b ≠ 0) : ¬ (C0 W).Avoid b o := by
  rintro (h | h)
  · exact hb h
  · exact C0_mut h
theorem C0_SR {W : World} (ht : Tab0 W) : SR (C0 W) := by
  obtain ⟨t, fz, hh⟩ := ht
  refine ⟨fun i e h => by simp [C0, nth] at h, fun i j hi => by simp [C0] at hi, fun i j o hi => by simp [C0] at hi, fun i j o hi => by simp [C0] at hi, fun b o h => absurd h C0_mut, fun b o h => ?_, fun i o hi => by simp [C0] at hi, fun g a hg => ?_⟩
  · have h' : b = 0 := h
    subst h'
    exact (Array.getElem?_eq_some_iff.1 hh).1
  · simp only [Globs.gl, List.mem_singleton, Prod.mk.injEq] at hg
    obtain ⟨rfl, rfl⟩ := hg
    exact ⟨⟨t, fz, hh⟩, fun _ => rfl⟩
theorem call0 {f : FuncId} {args : List AV} {r : AV} {vs : Array Value} {w : World} (hcl : ∀ S tk k, cL Tryd.prog f args S tk k = some (r, S, tk, k)) (ht : Tab0 w) (hv : VRs (C0 w) args vs.toList) :
    Calls Tryd.prog f vs w fun e w' => ∃ v, e = .returned v ∧ Below w.heap.size w w' ∧ VR (C0 w') r v := by
  refine (calls_of mixed (hcl [] [] 0) (C := C0 w) rfl rfl rfl (C0_SR ht) hv).mono ?_
  rintro e w' ⟨v, C', rfl, rfl, hle, -, h1, h2, h3, hr⟩
  refine ⟨v, rfl, ⟨hle.os, hle.tape, hle.output, hle.size, fun b hb => hle.keep b hb fun o hm => C0_mut hm⟩, ?_⟩
  refine VR.mono0 (C := C') (C' := C0 C'.w) ⟨by rw [h3]; exact Nat.le_refl _, fun b o v' hv' ha => ⟨hv', fun ha' => ?_⟩, fun _ cs _ _ h => ⟨cs, h, rfl⟩, fun id e' he => (by have he : nth ([] : List Ent) id = some e' := he; cases id <;> cases he), fun id k hk => (by rw [h2] at hk; cases id <;> cases hk)⟩ _ _ hr
  rcases ha' with h | h
  · exact ha (.inl (by rw [hle.av]; exact h))
  · exact absurd h C0_mut

/-- the cells of a kid -/
theorem kid_at {w : World} {A : Nat → Nat → Prop} {b : Nat} : ∀ {ks : List PT} {o j : Nat} {k : PT}, PRows w A b 4 o (kidsC ks) → nth ks j = some k → ∃ x, PRs w A (predC k) x ∧ Lie w A b (o + j * 4) x
  | _ :: _, o, 0, k, h, hk => by
    simp only [nth, Option.some.injEq] at hk; subst hk
    simp only [kidsC, PRows] at h
    obtain ⟨-, ⟨vs, h1, h2⟩, -⟩ := h
    exact ⟨vs, h2, by simpa using h1⟩
  | _ :: ks, o, j + 1, k, h, hk => by
    simp only [nth] at hk
    simp only [kidsC, PRows] at h
    obtain ⟨x, h1, h2⟩ := kid_at h.2.2 hk
    exact ⟨x, h1, by rw [show o + (j + 1) * 4 = o + 4 + j * 4 by omega]; exact h2⟩
  | [], _, _, _, _, hk => by simp [nth] at hk
/-- what a predicate's value is -/
theorem pred_cells {w : World} {k : PT} {x : List Value} (h : PRs w (C0 w).Avoid (predC k) x) : ∃ a len cap, x = [.int .i64 k.op, .string k.name, .int .i64 k.n, .slice a len cap] := by
  cases k with
  | node o nm n ks =>
    simp only [predC] at h
    match x, h with
    | [a, b, c, d], h =>
      simp only [PRs, PR, and_true] at h
      obtain ⟨⟨rfl, -⟩, ⟨rfl, -⟩, ⟨rfl, -⟩, a, len, cap, rfl, -⟩ := h
      exact ⟨a, len, cap, rfl⟩
    | [], h => simp [PRs] at h
    | [_], h => simp [PRs] at h
    | [_, _], h => simp [PRs] at h
    | [_, _, _], h => simp [PRs] at h
    | _ :: _ :: _ :: _ :: _ :: _, h => simp [PRs] at h
/-- a predicate read in a world -/
def PV (w : World) (k : PT) (v : Value) : Prop := VR (C0 w) (.agg (predC k)) v
theorem PV.below {w w' : World} {k : PT} {v : Value} (h : PV w k v) (hb : Below w.heap.size w w') : PV w' k v := VR.mono (Le.of_below (C := C0 w) hb) _ _ h
theorem PV_of {w : World} {k : PT} {x : List Value} (h : PRs w (C0 w).Avoid (predC k) x) : PV w k (.agg x.toArray) := by
  unfold PV
  simp only [VR]
  exact ⟨_, rfl, by simpa using VRs_of_PRs (C := C0 w) h⟩
/-- a predicate's value, taken apart -/
theorem PV_cells {w : World} {o n : Int} {s : ByteArray} {ks : List PT} {v : Value} (h : PV w (.node o s n ks) v) :
    ∃ a cap, v = .agg #[.int .i64 o, .string s, .int .i64 n, .slice a ks.length cap] ∧ ks.length ≤ cap ∧
      ∀ j k, nth ks j = some k → ∃ b off a2 n2 c2, a = some ⟨b, off, none⟩ ∧ PV w k (.agg #[.int .i64 k.op, .string k.name, .int .i64 k.n, .slice a2 n2 c2]) ∧
        w.cell? ⟨b, off + j * 4, none⟩ = some (.int .i64 k.op) ∧ w.cell? ⟨b, off + j * 4 + 1, none⟩ = some (.string k.name) ∧ w.cell? ⟨b, off + j * 4 + 2, none⟩ = some (.int .i64 k.n) ∧ w.cell? ⟨b, off + j * 4 + 3, none⟩ = some (.slice a2 n2 c2) ∧ b < w.heap.size := by
  unfold PV at h
  simp only [VR, predC] at h
  obtain ⟨vs, rfl, h⟩ := h
  obtain ⟨l⟩ := vs
  match l, h with
  | [x0, x1, x2, x3], h =>
    simp only [VRs, VR, and_true] at h
    obtain ⟨rfl, rfl, rfl, a, len, cap, rfl, h1, h2, -, h3⟩ := h
    have hl : len = ks.length := by rw [← h1, kidsC_map, List.length_map]
    subst hl
    refine ⟨a, cap, rfl, h2, fun j k hk => ?_⟩
    rcases h3 with h3 | ⟨b, off, sz, rfl, h3⟩
    · rw [kidsC_map] at h3
      have : ks = [] := by simpa using h3
      subst this; simp [nth] at hk
    · have hsz : sz = 4 := by
        cases ks with
        | nil => simp [nth] at hk
        | cons k0 ks =>
          simp only [kidsC, PRows] at h3
          rw [← h3.1, predC_len]
      subst hsz
      obtain ⟨x, g1, g2⟩ := kid_at h3 hk
      obtain ⟨a2, n2, c2, rfl⟩ := pred_cells g1
      simp only [Lie] at g2
      obtain ⟨c0, -, c1, -, c2', -, c3, -, -⟩ := g2
      refine ⟨b, off, a2, n2, c2, rfl, PV_of g1, c0, c1, c2', c3, ?_⟩
      unfold World.cell? at c0
      split at c0
      · rename_i hh; exact (Array.getElem?_eq_some_iff.1 hh).1
      · cases c0
  | [], h => simp [VRs] at h
  | [_], h => simp [VRs] at h
  | [_, _], h => simp [VRs] at h
  | [_, _, _], h => simp [VRs] at h
  | _ :: _ :: _ :: _ :: _ :: _, h => simp [VRs] at h
end Go.Proofs.YtkghgdkkholieaaDoor
