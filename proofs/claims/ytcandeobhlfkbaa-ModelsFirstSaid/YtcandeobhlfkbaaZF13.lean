/-
  Texts laid together: MC0, MM7, MM4, MM8, InvA, InvB.
-/
import Derived.Test.YtcandeobhlfkbaaZF11
import Derived.Test.YtcandeobhlfkbaaZF12
import Derived.WalkKit
import Derived.Test.YtcandeobhlfkbaaZF9
import Derived.Orders
import Derived.Tactics
import Derived.Below
/-
  From the evaluator to the model, where nothing is anybody's own: rows, points, names and numbers as they lie in memory.
-/



namespace Go.Proofs.Ytcandeobhlfkbaa
open Go Go.RowKit
variable {A : Nat → Nat → Prop}
/-- a world in which nothing is anybody's own; some cells are left alone -/
def Cq (A : Nat → Nat → Prop) (W : World) : Cx := { w := W, av := A, φ := fun _ => 0, ψ := fun _ => (0, 0, 0), S := [], tk := [], n := 0 }
/-- the cells that are left alone are there -/
def UnderA (A : Nat → Nat → Prop) (w : World) : Prop := ∀ b o, A b o → b < w.heap.size
theorem UnderA.le {w w' : World} (h : UnderA A w) (hs : w.heap.size ≤ w'.heap.size) : UnderA A w' := fun b o hb => Nat.lt_of_lt_of_le (h b o hb) hs
theorem Cq_mut {W : World} {b o : Nat} : ¬ (Cq A W).Mut b o := by
  rintro (⟨i, hi, _⟩ | ⟨i, hi, _⟩)
  · simp [Cq] at hi
  · simp [Cq] at hi
theorem Cq_avoid {W : World} {b o : Nat} (h : ¬ A b o) : ¬ (Cq A W).Avoid b o := by
  rintro (h' | h')
  · exact h h'
  · exact Cq_mut h'
theorem Cq_of {W : World} {b o : Nat} (h : ¬ (Cq A W).Avoid b o) : ¬ A b o := fun h' => h (.inl h')
theorem Cq_SR {W : World} (hA : UnderA A W) : SR (Cq A W) :=
  ⟨fun i e h => by simp [Cq, nth] at h, fun i j hi => by simp [Cq] at hi, fun i j o hi => by simp [Cq] at hi, fun i j o hi => by simp [Cq] at hi, fun b o h => absurd h Cq_mut, fun b o h => hA b o h, fun i o hi => by simp [Cq] at hi, fun g a h => by simp [Globs.gl] at h⟩
theorem call0 {f : FuncId} {args : List AV} {r : AV} {vs : Array Value} {w : World} (hA : UnderA A w) (hcl : ∀ S tk k, cL Try.prog f args S tk k = some (r, S, tk, k)) (hv : VRs (Cq A w) args vs.toList) :
    Calls Try.prog f vs w fun e w' => ∃ v, e = .returned v ∧ Below w.heap.size w w' ∧ VR (Cq A w') r v := by
  refine (calls_of mixed (hcl [] [] 0) (C := Cq A w) rfl rfl rfl (Cq_SR hA) hv).mono ?_
  rintro e w' ⟨v, C', rfl, rfl, hle, -, h1, h2, h3, hr⟩
  refine ⟨v, rfl, ⟨hle.os, hle.tape, hle.output, hle.size, fun b hb => hle.keep b hb fun o hm => Cq_mut hm⟩, ?_⟩
  exact VR.mono0 (C := C') (C' := Cq A C'.w) ⟨by rw [h3]; exact Nat.le_refl _, fun b o v' hv' ha => ⟨hv', Cq_avoid fun h => ha (.inl (by rw [hle.av]; exact h))⟩, fun _ cs _ _ h => ⟨cs, h, rfl⟩, fun id e' he => (by have he : nth ([] : List Ent) id = some e' := he; cases id <;> cases he), fun id k hk => (by rw [h2] at hk; cases id <;> cases hk)⟩ _ _ hr
theorem VR.below0 {w w' : World} {a : AV} {v : Value} (h : VR (Cq A w) a v) (hb : Below w.heap.size w w') : VR (Cq A w') a v := VR.mono (Le.of_below (C := Cq A w) hb) _ _ h
/-- an element of a list that lies there -/
theorem elem_at {w : World} {A : Nat → Nat → Prop} {b sz : Nat} : ∀ {es : List (List AV)} {o j : Nat} {e : List AV}, PRows w A b sz o es → nth es j = some e → e.length = sz ∧ ∃ vs, Lie w A b (o + j * sz) vs ∧ PRs w A e vs
  | e0 :: es, o, 0, e, h, hj => by
    simp only [nth, Option.some.injEq] at hj; subst hj
    simp only [PRows] at h
    obtain ⟨h0, ⟨vs, h1, h2⟩, -⟩ := h
    exact ⟨h0, vs, by simpa using h1, h2⟩
  | e0 :: es, o, j + 1, e, h, hj => by
    simp only [nth] at hj
    simp only [PRows] at h
    obtain ⟨h0, vs, h1, h2⟩ := elem_at h.2.2 hj
    exact ⟨h0, vs, by rw [show o + (j + 1) * sz = o + sz + j * sz by rw [Nat.add_mul]; omega]; exact h1, h2⟩
  | [], _, _, _, _, hj => by simp [nth] at hj
/-- a list as it lies -/
theorem frz_at {w : World} {es : List (List AV)} {c : Cap} {v : Value} (h : VR (Cq A w) (.frz es c) v) : ∃ a cap, v = .slice a es.length cap ∧ es.length ≤ cap ∧
    ∀ j e, nth es j = some e → ∃ b o vs, a = some ⟨b, o, none⟩ ∧ Lie w (Cq A w).Avoid b (o + j * e.length) vs ∧ PRs w (Cq A w).Avoid e vs := by
  simp only [VR] at h
  obtain ⟨a, len, cap, rfl, h1, h2, -, h4⟩ := h
  subst h1
  refine ⟨a, cap, rfl, h2, fun j e hj => ?_⟩
  rcases h4 with h4 | ⟨b, o, sz, rfl, h4⟩
  · subst h4; simp [nth] at hj
  · obtain ⟨h0, vs, h5, h6⟩ := elem_at h4 hj
    exact ⟨b, o, vs, rfl, by rw [h0]; exact h5, h6⟩
theorem lie_lt {w : World} {A : Nat → Nat → Prop} {b o : Nat} {x : Value} {vs : List Value} (h : Lie w A b o (x :: vs)) : b < w.heap.size := cell_lt h.1
/-- rows as they lie -/
theorem rows_at {w : World} {l : List RowT} {v : Value} (h : VR (Cq A w) (rowsA l) v) : ∃ a cap, v = .slice a l.length cap ∧ l.length ≤ cap ∧
    ∀ j r, nth l j = some r → ∃ b o a2 n2 c2, a = some ⟨b, o, none⟩ ∧ b < w.heap.size ∧ w.cell? ⟨b, o + j * 3, none⟩ = some (.slice a2 n2 c2) ∧ w.cell? ⟨b, o + j * 3 + 1, none⟩ = some (.int .i64 r.2.1) ∧ w.cell? ⟨b, o + j * 3 + 2, none⟩ = some (.bool r.2.2) ∧
      VR (Cq A w) (.agg (rowC r)) (.agg #[.slice a2 n2 c2, .int .i64 r.2.1, .bool r.2.2]) := by
  obtain ⟨a, cap, rfl, h1, h2⟩ := frz_at h
  rw [List.length_map] at h1 ⊢
  refine ⟨a, cap, rfl, h1, fun j r hj => ?_⟩
  obtain ⟨b, o, vs, rfl, h3, h4⟩ := h2 j _ (nth_row hj)
  have h5 := VRs_of_PRs (C := Cq A w) h4
  match vs, h3, h4, h5 with
  | [x, y, z], h3, h4, h5 =>
  simp only [rowC, coefsA, PRs, PR, and_true] at h4
  obtain ⟨⟨a2, n2, c2, rfl, -⟩, ⟨rfl, -⟩, ⟨rfl, -⟩⟩ := h4
  simp only [Lie] at h3
  refine ⟨b, o, a2, n2, c2, rfl, cell_lt h3.1, h3.1, h3.2.2.1, h3.2.2.2.2.1, ?_⟩
  simp only [VR]
  exact ⟨_, rfl, h5⟩
/-- names as they lie -/
theorem names_at {w : World} {l : List ByteArray} {v : Value} (h : VR (Cq A w) (strsA l) v) : ∃ a cap, v = .slice a l.length cap ∧ l.length ≤ cap ∧
    ∀ j s, nth l j = some s → ∃ b o, a = some ⟨b, o, none⟩ ∧ b < w.heap.size ∧ w.cell? ⟨b, o + j, none⟩ = some (.string s) := by
  obtain ⟨a, cap, rfl, h1, h2⟩ := frz_at h
  rw [List.length_map] at h1 ⊢
  refine ⟨a, cap, rfl, h1, fun j r hj => ?_⟩
  obtain ⟨b, o, vs, rfl, h3, h4⟩ := h2 j _ (nth_str hj)
  match vs, h3, h4 with
  | [x], h3, h4 =>
  simp only [PRs, PR, and_true] at h4
  obtain ⟨rfl, -⟩ := h4
  simp only [Lie, List.length_cons, List.length_nil, Nat.zero_add, Nat.mul_one] at h3
  exact ⟨b, o, rfl, cell_lt h3.1, h3.1⟩
/-- numbers as they lie -/
theorem ints_at {w : World} {l : List Int} {c : Cap} {v : Value} (h : VR (Cq A w) (.frz (l.map intC) c) v) : ∃ a cap, v = .slice a l.length cap ∧ l.length ≤ cap ∧
    ∀ j s, nth l j = some s → ∃ b o, a = some ⟨b, o, none⟩ ∧ b < w.heap.size ∧ w.cell? ⟨b, o + j, none⟩ = some (.int .i64 s) := by
  obtain ⟨a, cap, rfl, h1, h2⟩ := frz_at h
  rw [List.length_map] at h1 ⊢
  refine ⟨a, cap, rfl, h1, fun j r hj => ?_⟩
  obtain ⟨b, o, vs, rfl, h3, h4⟩ := h2 j (intC r) (by rw [nth_map, hj]; rfl)
  match vs, h3, h4 with
  | [x], h3, h4 =>
  simp only [intC, PRs, PR, and_true] at h4
  obtain ⟨rfl, -⟩ := h4
  simp only [intC, Lie, List.length_cons, List.length_nil, Nat.zero_add, Nat.mul_one] at h3
  exact ⟨b, o, rfl, cell_lt h3.1, h3.1⟩
/-- a point as it lies: its cells, one after the other -/
def flatP : Pt → List Value
  | [] => []
  | c :: r => .string c.1 :: .int .i64 c.2 :: flatP r
theorem flatP_len : ∀ pt : Pt, (flatP pt).length = 2 * pt.length
  | [] => rfl
  | c :: r => by simp only [flatP, List.length_cons, flatP_len r]; omega
theorem flatP_app : ∀ a b : Pt, flatP (a ++ b) = flatP a ++ flatP b
  | [], b => rfl
  | c :: r, b => by simp only [List.cons_append, flatP, flatP_app r b]
theorem flatP_one : ∀ (pt : Pt) (u : Value), u ∈ flatP pt → u.oneCell' = true
  | [], u, h => by simp [flatP] at h
  | c :: r, u, h => by
    simp only [flatP, List.mem_cons] at h
    rcases h with rfl | rfl | h
    · rfl
    · rfl
    · exact flatP_one r u h
theorem point_cells {w : World} {b : Nat} : ∀ {pt : Pt} {o : Nat}, PRows w (Cq A w).Avoid b 2 o (pt.map coefC) → ∀ j u, (flatP pt)[j]? = some u → w.cell? ⟨b, o + j, none⟩ = some u ∧ ¬ A b (o + j)
  | [], o, _, j, u, hj => by simp [flatP] at hj
  | c :: r, o, h, j, u, hj => by
    simp only [List.map_cons, PRows, coefC] at h
    obtain ⟨-, ⟨vs, h1, h2⟩, h3⟩ := h
    match vs, h1, h2 with
    | [x, y], h1, h2 =>
    simp only [PRs, PR, and_true] at h2
    obtain ⟨⟨rfl, -⟩, ⟨rfl, -⟩⟩ := h2
    simp only [Lie] at h1
    match j, hj with
    | 0, hj => simp only [flatP, List.getElem?_cons_zero, Option.some.injEq] at hj; subst hj; exact ⟨h1.1, Cq_of h1.2.1⟩
    | 1, hj => simp only [flatP, List.getElem?_cons_succ, List.getElem?_cons_zero, Option.some.injEq] at hj; subst hj; exact ⟨h1.2.2.1, Cq_of h1.2.2.2.1⟩
    | j + 2, hj =>
      simp only [flatP, List.getElem?_cons_succ] at hj
      have := point_cells h3 j u hj
      rw [show o + (j + 2) = o + 2 + j by omega]; exact this
theorem point_at {w : World} {pt : Pt} {v : Value} (h : VR (Cq A w) (coefsA pt) v) : ∃ a cap, v = .slice a pt.length cap ∧ pt.length ≤ cap ∧ (pt = [] ∨ ∃ b o, a = some ⟨b, o, none⟩ ∧ ∀ j u, (flatP pt)[j]? = some u → w.cell? ⟨b, o + j, none⟩ = some u ∧ ¬ A b (o + j)) := by
  simp only [coefsA, VR] at h
  obtain ⟨a, len, cap, rfl, h1, h2, -, h4⟩ := h
  rw [List.length_map] at h1
  subst h1
  refine ⟨a, cap, rfl, h2, ?_⟩
  rcases h4 with h4 | ⟨b, o, sz, rfl, h4⟩
  · exact .inl (by simpa using h4)
  · cases pt with
    | nil => exact .inl rfl
    | cons c r =>
      have hsz : sz = 2 := by simp only [List.map_cons, PRows, coefC, List.length_cons, List.length_nil] at h4; exact h4.1.symm
      subst hsz
      exact .inr ⟨b, o, rfl, point_cells h4⟩
theorem prows_point {w : World} {b : Nat} : ∀ (pt : Pt) (o : Nat), (∀ j u, (flatP pt)[j]? = some u → w.cell? ⟨b, o + j, none⟩ = some u ∧ ¬ A b (o + j)) → PRows w (Cq A w).Avoid b 2 o (pt.map coefC)
  | [], o, _ => by simp only [List.map_nil, PRows]
  | c :: r, o, h => by
    simp only [List.map_cons, PRows]
    have h0 := h 0 _ rfl
    have h1 := h 1 _ rfl
    refine ⟨rfl, ⟨[.string c.1, .int .i64 c.2], ⟨h0.1, Cq_avoid h0.2, h1.1, Cq_avoid h1.2, trivial⟩, ?_⟩, prows_point r (o + 2) fun j u hj => ?_⟩
    · simp [PRs, PR, coefC, Value.oneCell']
    · have := h (j + 2) u (by simpa only [flatP, List.getElem?_cons_succ] using hj)
      rwa [show o + (j + 2) = o + 2 + j by omega] at this
theorem point_of {w : World} {pt : Pt} {b o cap : Nat} (hc : pt.length ≤ cap) (h : ∀ j u, (flatP pt)[j]? = some u → w.cell? ⟨b, o + j, none⟩ = some u ∧ ¬ A b (o + j)) : VR (Cq A w) (coefsA pt) (.slice (some ⟨b, o, none⟩) pt.length cap) := by
  simp only [coefsA, VR]
  exact ⟨_, _, _, rfl, by simp, hc, trivial, .inr ⟨b, o, 2, rfl, prows_point pt o h⟩⟩
end Go.Proofs.Ytcandeobhlfkbaa
/-
  The law's own small functions.
-/

namespace Go.Proofs.Ytcandeobhlfkbaa
open Go
def lightF (l : List RowT) : Bool := decide (l.length ≤ 8) && l.all fun r => decide (r.1.length ≤ 8)
def quickF (l : List RowT) (most : Int) : Bool := lightF l && (decide (most ≤ 1) || (decide (most ≤ 4) && decide ((varsOf l).length ≤ 3)) || decide (6 < (varsOf l).length) || decide (8 < most))
def ptC (p : Pt) : List AV := [coefsA p]
def shortF (ps : List Pt) : Bool := ps.all fun p => decide (p.length ≤ 12)
theorem nth_pt {ps : List Pt} {i : Nat} {p : Pt} (h : nth ps i = some p) : nth (ps.map ptC) i = some (ptC p) := by rw [nth_map, h]; rfl
theorem all_drop {α : Type} {f : α → Bool} {l : List α} {i : Nat} {x : α} (h : nth l i = some x) : (l.drop i).all f = (f x && (l.drop (i + 1)).all f) := by
  rw [nth_drop h]; rfl
def nX : ByteArray := ⟨#[120]⟩
def nY : ByteArray := ⟨#[121]⟩
section
variable (S : List Ent) (tk : List Nat) (k : Nat)
theorem L15_light (l : List RowT) : cL Try.prog 7 [rowsA l] S tk k = some (.bool (lightF l), S, tk, k) := by
  refine call_pure Try.func7 rfl rfl (by decide +kernel) (by decide +kernel) Try.ntmps7 rfl rfl _ _ _ rfl ?_; rw [RK_KX]
  by_cases h8 : 8 < l.length
  · have d0 : decide ((l.length : Int) > 8) = true := by simp; omega
    have hr : lightF l = false := by
      have : decide (l.length ≤ 8) = false := by simp; omega
      unfold lightF; rw [this, Bool.false_and]
    rw [hr]
    simp (maxSteps := 1000000) +contextual (disch := first | with_reducible assumption | exact ⟨rfl⟩ | exact ⟨rfl, rfl⟩ | (refine _root_.id ?_; kernel_rfl) | omega) only [evs, ext_mv, nth, put, putT, getT, binInt, binStr, binBool, aUn, outA, resA, mapO, resA1, oneOf, w1, w2, w3, bots, cond_true, cond_false, if_true, if_false, ite_true, ite_false, reduceIte, reduceCtorEq, implies_true, Nat.reduceAdd, Nat.reduceSub, AV.int, AV.bool, AV.str, Nat.reduceBEq, Nat.reduceEqDiff, Nat.reduceMul, Nat.reduceLT, Nat.reduceLeDiff, Int.reduceNeg, BEq.rfl, beq_self_eq_true, tabl, cellsOf, fldA, ldA, stA, entAt, partA, takeN, over, leafOk, Value.oneCell', idxA, nilA, cellsEq, fillA, elemsA, pure1, pure2, reps, chkA, tys, Try.results7, KX_draw, KX_drawQ, KX_tail, lastO_one, lastO_more, dropL_one, dropL_more, callP_eq, callM_true, rowsA, d0]
  have d0 : decide ((l.length : Int) > 8) = false := by simp; omega
  have hr : lightF l = l.all fun r => decide (r.1.length ≤ 8) := by
    have : decide (l.length ≤ 8) = true := by simp; omega
    unfold lightF; rw [this, Bool.true_and]
  rw [hr]
  simp (maxSteps := 1000000) +contextual (disch := first | with_reducible assumption | exact ⟨rfl⟩ | exact ⟨rfl, rfl⟩ | (refine _root_.id ?_; kernel_rfl) | omega) only [evs, ext_mv, nth, put, putT, getT, binInt, binStr, binBool, aUn, outA, resA, mapO, resA1, oneOf, w1, w2, w3, bots, cond_true, cond_false, if_true, if_false, ite_true, ite_false, reduceIte, reduceCtorEq, implies_true, Nat.reduceAdd, Nat.reduceSub, AV.int, AV.bool, AV.str, Nat.reduceBEq, Nat.reduceEqDiff, Nat.reduceMul, Nat.reduceLT, Nat.reduceLeDiff, Int.reduceNeg, BEq.rfl, beq_self_eq_true, tabl, cellsOf, fldA, ldA, stA, entAt, partA, takeN, over, leafOk, Value.oneCell', idxA, nilA, cellsEq, fillA, elemsA, pure1, pure2, reps, chkA, tys, Try.results7, KX_draw, KX_drawQ, KX_tail, lastO_one, lastO_more, dropL_one, dropL_more, callP_eq, callM_true, rowsA, d0]
  refine loop1 (P := Try.prog) (fun x st => st.T.length = 21 ∧ (x ≤ l.length) ∧ ((l.all fun r => decide (r.1.length ≤ 8)) = (l.drop x).all fun r => decide (r.1.length ≤ 8)) ∧ getT st.T 0 = rowsA l ∧ getT st.T 3 = .int (x : Nat) ∧ st.S = []) (fun x => l.length - x) (fun x => .bool (l.all fun r => decide (r.1.length ≤ 8))) (0) ?_ ?_
  case refine_2 => exact ⟨rfl, Nat.zero_le _, rfl, rfl, rfl, rfl⟩
  rintro i ⟨T, S', tk', n'⟩ ⟨hl, hi, hE, e0, e3, eS⟩ IH
  subst eS
  obtain ⟨g, hg, hT⟩ := tab_of hl
  rw [hg] at e0 e3
  subst hT
  clear hg hl
  have hiw := wrap_add (i := i) (m := 0) (by omega)
  by_cases hlt : i < l.length
  · have d1 : decide ((i : Int) < (l.length : Int)) = true := by simpa using hlt
    obtain ⟨r, hx⟩ := nth_some hlt
    have hx' := nth_row hx
    simp only [rowC, coefsA] at hx'
    rw [all_drop hx] at hE
    by_cases h9 : 8 < r.1.length
    · have d2 : decide ((r.1.length : Int) > 8) = true := by simp; omega
      have d3 : decide (r.1.length ≤ 8) = false := by simp; omega
      rw [d3, Bool.false_and] at hE
      simp (maxSteps := 1000000) +contextual (disch := first | with_reducible assumption | exact ⟨rfl⟩ | exact ⟨rfl, rfl⟩ | (refine _root_.id ?_; kernel_rfl) | omega) only [evs, ext_mv, nth, put, putT, getT, binInt, binStr, binBool, aUn, outA, resA, mapO, resA1, oneOf, w1, w2, w3, bots, cond_true, cond_false, if_true, if_false, ite_true, ite_false, reduceIte, reduceCtorEq, implies_true, Nat.reduceAdd, Nat.reduceSub, AV.int, AV.bool, AV.str, Nat.reduceBEq, Nat.reduceEqDiff, Nat.reduceMul, Nat.reduceLT, Nat.reduceLeDiff, Int.reduceNeg, BEq.rfl, beq_self_eq_true, tabl, cellsOf, fldA, ldA, stA, entAt, partA, takeN, over, leafOk, Value.oneCell', idxA, nilA, cellsEq, fillA, elemsA, pure1, pure2, reps, chkA, tys, Try.results7, KX_draw, KX_drawQ, KX_tail, lastO_one, lastO_more, dropL_one, dropL_more, callP_eq, callM_true, e0, e3, d1, rowsA, hx', d2]
      rw [hE]
    · have d2 : decide ((r.1.length : Int) > 8) = false := by simp; omega
      have d3 : decide (r.1.length ≤ 8) = true := by simp; omega
      rw [d3, Bool.true_and] at hE
      simp (maxSteps := 1000000) +contextual (disch := first | with_reducible assumption | exact ⟨rfl⟩ | exact ⟨rfl, rfl⟩ | (refine _root_.id ?_; kernel_rfl) | omega) only [evs, ext_mv, nth, put, putT, getT, binInt, binStr, binBool, aUn, outA, resA, mapO, resA1, oneOf, w1, w2, w3, bots, cond_true, cond_false, if_true, if_false, ite_true, ite_false, reduceIte, reduceCtorEq, implies_true, Nat.reduceAdd, Nat.reduceSub, AV.int, AV.bool, AV.str, Nat.reduceBEq, Nat.reduceEqDiff, Nat.reduceMul, Nat.reduceLT, Nat.reduceLeDiff, Int.reduceNeg, BEq.rfl, beq_self_eq_true, tabl, cellsOf, fldA, ldA, stA, entAt, partA, takeN, over, leafOk, Value.oneCell', idxA, nilA, cellsEq, fillA, elemsA, pure1, pure2, reps, chkA, tys, Try.results7, KX_draw, KX_drawQ, KX_tail, lastO_one, lastO_more, dropL_one, dropL_more, callP_eq, callM_true, e0, e3, d1, rowsA, hx', d2, hiw]
      exact IH (i + 1) _ (by first | omega | (simp only; omega)) ⟨rfl, by first | omega | (dsimp only; omega), hE, rfl, rfl, rfl⟩
  · have d1 : decide ((i : Int) < (l.length : Int)) = false := by simpa using hlt
    have hie : i = l.length := by omega
    rw [hie, List.drop_length] at hE
    simp (maxSteps := 1000000) +contextual (disch := first | with_reducible assumption | exact ⟨rfl⟩ | exact ⟨rfl, rfl⟩ | (refine _root_.id ?_; kernel_rfl) | omega) only [evs, ext_mv, nth, put, putT, getT, binInt, binStr, binBool, aUn, outA, resA, mapO, resA1, oneOf, w1, w2, w3, bots, cond_true, cond_false, if_true, if_false, ite_true, ite_false, reduceIte, reduceCtorEq, implies_true, Nat.reduceAdd, Nat.reduceSub, AV.int, AV.bool, AV.str, Nat.reduceBEq, Nat.reduceEqDiff, Nat.reduceMul, Nat.reduceLT, Nat.reduceLeDiff, Int.reduceNeg, BEq.rfl, beq_self_eq_true, tabl, cellsOf, fldA, ldA, stA, entAt, partA, takeN, over, leafOk, Value.oneCell', idxA, nilA, cellsEq, fillA, elemsA, pure1, pure2, reps, chkA, tys, Try.results7, KX_draw, KX_drawQ, KX_tail, lastO_one, lastO_more, dropL_one, dropL_more, callP_eq, callM_true, e0, e3, d1, rowsA]
    rw [hE]; rfl
theorem L15_short (ps : List Pt) (c : Cap) (hl : ps.length ≤ 100) : cL Try.prog 8 [.frz (ps.map ptC) c] S tk k = some (.bool (shortF ps), S, tk, k) := by
  refine call_pure Try.func8 rfl rfl (by decide +kernel) (by decide +kernel) Try.ntmps8 rfl rfl _ _ _ rfl ?_; rw [RK_KX]
  simp (maxSteps := 1000000) +contextual (disch := first | with_reducible assumption | exact ⟨rfl⟩ | exact ⟨rfl, rfl⟩ | (refine _root_.id ?_; kernel_rfl) | omega) only [evs, ext_mv, nth, put, putT, getT, binInt, binStr, binBool, aUn, outA, resA, mapO, resA1, oneOf, w1, w2, w3, bots, cond_true, cond_false, if_true, if_false, ite_true, ite_false, reduceIte, reduceCtorEq, implies_true, Nat.reduceAdd, Nat.reduceSub, AV.int, AV.bool, AV.str, Nat.reduceBEq, Nat.reduceEqDiff, Nat.reduceMul, Nat.reduceLT, Nat.reduceLeDiff, Int.reduceNeg, BEq.rfl, beq_self_eq_true, tabl, cellsOf, fldA, ldA, stA, entAt, partA, takeN, over, leafOk, Value.oneCell', idxA, nilA, cellsEq, fillA, elemsA, pure1, pure2, reps, chkA, tys, Try.results8, KX_draw, KX_drawQ, KX_tail, lastO_one, lastO_more, dropL_one, dropL_more, callP_eq, callM_true, w2, w1]
  refine loop1 (P := Try.prog) (fun x st => st.T.length = 16 ∧ (x ≤ ps.length) ∧ (shortF ps = (ps.drop x).all fun p => decide (p.length ≤ 12)) ∧ getT st.T 0 = .frz (ps.map ptC) .unk ∧ getT st.T 3 = .int (x : Nat) ∧ st.S = []) (fun x => ps.length - x) (fun x => .bool (shortF ps)) (0) ?_ ?_
  case refine_2 => exact ⟨rfl, Nat.zero_le _, rfl, rfl, rfl, rfl⟩
  rintro i ⟨T, S', tk', n'⟩ ⟨hl, hi, hE, e0, e3, eS⟩ IH
  subst eS
  obtain ⟨g, hg, hT⟩ := tab_of hl
  rw [hg] at e0 e3
  subst hT
  clear hg hl
  have hiw := wrap_add (i := i) (m := 0) (by omega)
  by_cases hlt : i < ps.length
  · have d1 : decide ((i : Int) < (ps.length : Int)) = true := by simpa using hlt
    obtain ⟨p, hx⟩ := nth_some hlt
    have hx' := nth_pt hx
    simp only [ptC, coefsA] at hx'
    rw [all_drop hx] at hE
    by_cases h9 : 12 < p.length
    · have d2 : decide ((p.length : Int) > 12) = true := by simp; omega
      have d3 : decide (p.length ≤ 12) = false := by simp; omega
      rw [d3, Bool.false_and] at hE
      simp (maxSteps := 1000000) +contextual (disch := first | with_reducible assumption | exact ⟨rfl⟩ | exact ⟨rfl, rfl⟩ | (refine _root_.id ?_; kernel_rfl) | omega) only [evs, ext_mv, nth, put, putT, getT, binInt, binStr, binBool, aUn, outA, resA, mapO, resA1, oneOf, w1, w2, w3, bots, cond_true, cond_false, if_true, if_false, ite_true, ite_false, reduceIte, reduceCtorEq, implies_true, Nat.reduceAdd, Nat.reduceSub, AV.int, AV.bool, AV.str, Nat.reduceBEq, Nat.reduceEqDiff, Nat.reduceMul, Nat.reduceLT, Nat.reduceLeDiff, Int.reduceNeg, BEq.rfl, beq_self_eq_true, tabl, cellsOf, fldA, ldA, stA, entAt, partA, takeN, over, leafOk, Value.oneCell', idxA, nilA, cellsEq, fillA, elemsA, pure1, pure2, reps, chkA, tys, Try.results8, KX_draw, KX_drawQ, KX_tail, lastO_one, lastO_more, dropL_one, dropL_more, callP_eq, callM_true, e0, e3, d1, hx', d2]
      rw [hE]
    · have d2 : decide ((p.length : Int) > 12) = false := by simp; omega
      have d3 : decide (p.length ≤ 12) = true := by simp; omega
      rw [d3, Bool.true_and] at hE
      simp (maxSteps := 1000000) +contextual (disch := first | with_reducible assumption | exact ⟨rfl⟩ | exact ⟨rfl, rfl⟩ | (refine _root_.id ?_; kernel_rfl) | omega) only [evs, ext_mv, nth, put, putT, getT, binInt, binStr, binBool, aUn, outA, resA, mapO, resA1, oneOf, w1, w2, w3, bots, cond_true, cond_false, if_true, if_false, ite_true, ite_false, reduceIte, reduceCtorEq, implies_true, Nat.reduceAdd, Nat.reduceSub, AV.int, AV.bool, AV.str, Nat.reduceBEq, Nat.reduceEqDiff, Nat.reduceMul, Nat.reduceLT, Nat.reduceLeDiff, Int.reduceNeg, BEq.rfl, beq_self_eq_true, tabl, cellsOf, fldA, ldA, stA, entAt, partA, takeN, over, leafOk, Value.oneCell', idxA, nilA, cellsEq, fillA, elemsA, pure1, pure2, reps, chkA, tys, Try.results8, KX_draw, KX_drawQ, KX_tail, lastO_one, lastO_more, dropL_one, dropL_more, callP_eq, callM_true, e0, e3, d1, hx', d2, hiw]
      exact IH (i + 1) _ (by first | omega | (simp only; omega)) ⟨rfl, by first | omega | (dsimp only; omega), hE, rfl, rfl, rfl⟩
  · have d1 : decide ((i : Int) < (ps.length : Int)) = false := by simpa using hlt
    have hie : i = ps.length := by omega
    rw [hie, List.drop_length] at hE
    simp (maxSteps := 1000000) +contextual (disch := first | with_reducible assumption | exact ⟨rfl⟩ | exact ⟨rfl, rfl⟩ | (refine _root_.id ?_; kernel_rfl) | omega) only [evs, ext_mv, nth, put, putT, getT, binInt, binStr, binBool, aUn, outA, resA, mapO, resA1, oneOf, w1, w2, w3, bots, cond_true, cond_false, if_true, if_false, ite_true, ite_false, reduceIte, reduceCtorEq, implies_true, Nat.reduceAdd, Nat.reduceSub, AV.int, AV.bool, AV.str, Nat.reduceBEq, Nat.reduceEqDiff, Nat.reduceMul, Nat.reduceLT, Nat.reduceLeDiff, Int.reduceNeg, BEq.rfl, beq_self_eq_true, tabl, cellsOf, fldA, ldA, stA, entAt, partA, takeN, over, leafOk, Value.oneCell', idxA, nilA, cellsEq, fillA, elemsA, pure1, pure2, reps, chkA, tys, Try.results8, KX_draw, KX_drawQ, KX_tail, lastO_one, lastO_more, dropL_one, dropL_more, callP_eq, callM_true, e0, e3, d1]
    rw [hE]; rfl
theorem L15_quick (l : List RowT) (most : Int) : cL Try.prog 16 [rowsA l, .int most] S tk k = some (.bool (quickF l most), S, tk, k) := by
  have hV := fun S tk k => R13_Vars S tk k l
  have hL := fun S tk k => L15_light S tk k l
  simp only [rowsA, strsA] at hV hL
  unfold quickF
  refine call_pure Try.func16 rfl rfl (by decide +kernel) (by decide +kernel) Try.ntmps16 rfl rfl _ _ _ rfl ?_; rw [RK_KX]
  have q1 : decide ((((varsOf l).map strC).length : Int) ≤ 3) = decide ((varsOf l).length ≤ 3) := by simp only [List.length_map, decide_eq_decide]; omega
  have q2 : decide ((((varsOf l).map strC).length : Int) > 6) = decide (6 < (varsOf l).length) := by simp only [List.length_map, decide_eq_decide]; omega
  cases a0 : lightF l with
  | false => rw [a0] at hL; simp (maxSteps := 1000000) +contextual (disch := first | with_reducible assumption | exact ⟨rfl⟩ | exact ⟨rfl, rfl⟩ | (refine _root_.id ?_; kernel_rfl) | omega) only [evs, ext_mv, nth, put, putT, getT, binInt, binStr, binBool, aUn, outA, resA, mapO, resA1, oneOf, w1, w2, w3, bots, cond_true, cond_false, if_true, if_false, ite_true, ite_false, reduceIte, reduceCtorEq, implies_true, Nat.reduceAdd, Nat.reduceSub, AV.int, AV.bool, AV.str, Nat.reduceBEq, Nat.reduceEqDiff, Nat.reduceMul, Nat.reduceLT, Nat.reduceLeDiff, Int.reduceNeg, BEq.rfl, beq_self_eq_true, tabl, cellsOf, fldA, ldA, stA, entAt, partA, takeN, over, leafOk, Value.oneCell', idxA, nilA, cellsEq, fillA, elemsA, pure1, pure2, reps, chkA, tys, Try.results16, KX_draw, KX_drawQ, KX_tail, lastO_one, lastO_more, dropL_one, dropL_more, callP_eq, callM_true, rowsA, hV, hL, Bool.false_and]
  | true =>
    rw [a0] at hL
    cases a1 : decide (most ≤ 1) with
    | true => simp (maxSteps := 1000000) +contextual (disch := first | with_reducible assumption | exact ⟨rfl⟩ | exact ⟨rfl, rfl⟩ | (refine _root_.id ?_; kernel_rfl) | omega) only [evs, ext_mv, nth, put, putT, getT, binInt, binStr, binBool, aUn, outA, resA, mapO, resA1, oneOf, w1, w2, w3, bots, cond_true, cond_false, if_true, if_false, ite_true, ite_false, reduceIte, reduceCtorEq, implies_true, Nat.reduceAdd, Nat.reduceSub, AV.int, AV.bool, AV.str, Nat.reduceBEq, Nat.reduceEqDiff, Nat.reduceMul, Nat.reduceLT, Nat.reduceLeDiff, Int.reduceNeg, BEq.rfl, beq_self_eq_true, tabl, cellsOf, fldA, ldA, stA, entAt, partA, takeN, over, leafOk, Value.oneCell', idxA, nilA, cellsEq, fillA, elemsA, pure1, pure2, reps, chkA, tys, Try.results16, KX_draw, KX_drawQ, KX_tail, lastO_one, lastO_more, dropL_one, dropL_more, callP_eq, callM_true, rowsA, hV, hL, a1, Bool.true_and, Bool.true_or]
    | false =>
      cases a2 : decide (most ≤ 4) <;> cases a3 : decide ((varsOf l).length ≤ 3) <;> cases a4 : decide (6 < (varsOf l).length) <;> cases a5 : decide (most > 8) <;>
        (have a3' := q1.trans a3; have a4' := q2.trans a4; have a5' : decide (8 < most) = _ := a5; simp only [List.length_map] at a3' a4'; simp (maxSteps := 1000000) +contextual (disch := first | with_reducible assumption | exact ⟨rfl⟩ | exact ⟨rfl, rfl⟩ | (refine _root_.id ?_; kernel_rfl) | omega) only [evs, ext_mv, nth, put, putT, getT, binInt, binStr, binBool, aUn, outA, resA, mapO, resA1, oneOf, w1, w2, w3, bots, cond_true, cond_false, if_true, if_false, ite_true, ite_false, reduceIte, reduceCtorEq, implies_true, Nat.reduceAdd, Nat.reduceSub, AV.int, AV.bool, AV.str, Nat.reduceBEq, Nat.reduceEqDiff, Nat.reduceMul, Nat.reduceLT, Nat.reduceLeDiff, Int.reduceNeg, BEq.rfl, beq_self_eq_true, tabl, cellsOf, fldA, ldA, stA, entAt, partA, takeN, over, leafOk, Value.oneCell', idxA, nilA, cellsEq, fillA, elemsA, pure1, pure2, reps, chkA, tys, Try.results16, KX_draw, KX_drawQ, KX_tail, lastO_one, lastO_more, dropL_one, dropL_more, callP_eq, callM_true, rowsA, hV, hL, a1, a2, a3, a4, a5, a3', a4', a5', Bool.true_and, Bool.true_or, Bool.false_or, Bool.or_true, Bool.or_false, Bool.false_and, Bool.and_true, Bool.and_false, List.length_map])
theorem R15_Same (a b : Pt) (hl : a.length ≤ 1048576) : cL Try.prog 20 [coefsA a, coefsA b] S tk k = some (.bool (decide (a = b)), S, tk, k) := by
  refine call_pure Try.func20 rfl rfl (by decide +kernel) (by decide +kernel) Try.ntmps20 rfl rfl _ _ _ rfl ?_; rw [RK_KX]
  by_cases hlen : a.length = b.length
  rotate_left
  · have d0 : ((a.length : Int) != (b.length : Int)) = true := by simp; omega
    have hr : decide (a = b) = false := by
      simp only [decide_eq_false_iff_not]; intro h; subst h; exact hlen rfl
    simp (maxSteps := 1000000) +contextual (disch := first | with_reducible assumption | exact ⟨rfl⟩ | exact ⟨rfl, rfl⟩ | (refine _root_.id ?_; kernel_rfl) | omega) only [evs, ext_mv, nth, put, putT, getT, binInt, binStr, binBool, aUn, outA, resA, mapO, resA1, oneOf, w1, w2, w3, bots, cond_true, cond_false, if_true, if_false, ite_true, ite_false, reduceIte, reduceCtorEq, implies_true, Nat.reduceAdd, Nat.reduceSub, AV.int, AV.bool, AV.str, Nat.reduceBEq, Nat.reduceEqDiff, Nat.reduceMul, Nat.reduceLT, Nat.reduceLeDiff, Int.reduceNeg, BEq.rfl, beq_self_eq_true, tabl, cellsOf, fldA, ldA, stA, entAt, partA, takeN, over, leafOk, Value.oneCell', idxA, nilA, cellsEq, fillA, elemsA, pure1, pure2, reps, chkA, tys, Try.results20, KX_draw, KX_drawQ, KX_tail, lastO_one, lastO_more, dropL_one, dropL_more, callP_eq, callM_true, coefsA, d0]
    rw [hr]
  have d0 : ((a.length : Int) != (b.length : Int)) = false := by simp; omega
  simp (maxSteps := 1000000) +contextual (disch := first | with_reducible assumption | exact ⟨rfl⟩ | exact ⟨rfl, rfl⟩ | (refine _root_.id ?_; kernel_rfl) | omega) only [evs, ext_mv, nth, put, putT, getT, binInt, binStr, binBool, aUn, outA, resA, mapO, resA1, oneOf, w1, w2, w3, bots, cond_true, cond_false, if_true, if_false, ite_true, ite_false, reduceIte, reduceCtorEq, implies_true, Nat.reduceAdd, Nat.reduceSub, AV.int, AV.bool, AV.str, Nat.reduceBEq, Nat.reduceEqDiff, Nat.reduceMul, Nat.reduceLT, Nat.reduceLeDiff, Int.reduceNeg, BEq.rfl, beq_self_eq_true, tabl, cellsOf, fldA, ldA, stA, entAt, partA, takeN, over, leafOk, Value.oneCell', idxA, nilA, cellsEq, fillA, elemsA, pure1, pure2, reps, chkA, tys, Try.results20, KX_draw, KX_drawQ, KX_tail, lastO_one, lastO_more, dropL_one, dropL_more, callP_eq, callM_true, coefsA, d0]
  refine loop1 (P := Try.prog) (fun x st => st.T.length = 26 ∧ (x ≤ a.length) ∧ (decide (a = b) = decide (a.drop x = b.drop x)) ∧ getT st.T 0 = coefsA a ∧ getT st.T 1 = coefsA b ∧ getT st.T 5 = .int (x : Nat) ∧ st.S = []) (fun x => a.length - x) (fun x => .bool (decide (a = b))) (0) ?_ ?_
  case refine_2 => exact ⟨rfl, Nat.zero_le _, rfl, rfl, rfl, rfl, rfl⟩
  rintro i ⟨T, S', tk', n'⟩ ⟨hl, hi, hE, e0, e1, e5, eS⟩ IH
  subst eS
  obtain ⟨g, hg, hT⟩ := tab_of hl
  rw [hg] at e0 e1 e5
  subst hT
  clear hg hl
  have hiw := wrap_add (i := i) (m := 0) (by omega)
  by_cases hlt : i < a.length
  · have d1 : decide ((i : Int) < (a.length : Int)) = true := by simpa using hlt
    obtain ⟨x, hx⟩ := nth_some hlt
    obtain ⟨y, hy⟩ := nth_some (show i < b.length by omega)
    have hx' := nth_coef hx
    have hy' := nth_coef hy
    simp only [coefC] at hx' hy'
    rw [nth_drop hx, nth_drop hy] at hE
    cases h1 : sEq x.1 y.1 with
    | false =>
      have hne : ¬ x = y := by intro h; rw [h, sEq_nm] at h1; simp at h1
      simp (maxSteps := 1000000) +contextual (disch := first | with_reducible assumption | exact ⟨rfl⟩ | exact ⟨rfl, rfl⟩ | (refine _root_.id ?_; kernel_rfl) | omega) only [evs, ext_mv, nth, put, putT, getT, binInt, binStr, binBool, aUn, outA, resA, mapO, resA1, oneOf, w1, w2, w3, bots, cond_true, cond_false, if_true, if_false, ite_true, ite_false, reduceIte, reduceCtorEq, implies_true, Nat.reduceAdd, Nat.reduceSub, AV.int, AV.bool, AV.str, Nat.reduceBEq, Nat.reduceEqDiff, Nat.reduceMul, Nat.reduceLT, Nat.reduceLeDiff, Int.reduceNeg, BEq.rfl, beq_self_eq_true, tabl, cellsOf, fldA, ldA, stA, entAt, partA, takeN, over, leafOk, Value.oneCell', idxA, nilA, cellsEq, fillA, elemsA, pure1, pure2, reps, chkA, tys, Try.results20, KX_draw, KX_drawQ, KX_tail, lastO_one, lastO_more, dropL_one, dropL_more, callP_eq, callM_true, e0, e1, e5, d1, coefsA, hx', hy', hiw, h1, Bool.false_and, Bool.not_false]
      rw [hE]; simp [hne]
    | true =>
      have h1' : x.1 = y.1 := by rw [sEq_nm] at h1; simpa using h1
      by_cases h2 : x.2 = y.2
      · have d2 : (x.2 == y.2) = true := by simpa using h2
        have he : x = y := Prod.ext h1' h2
        simp (maxSteps := 1000000) +contextual (disch := first | with_reducible assumption | exact ⟨rfl⟩ | exact ⟨rfl, rfl⟩ | (refine _root_.id ?_; kernel_rfl) | omega) only [evs, ext_mv, nth, put, putT, getT, binInt, binStr, binBool, aUn, outA, resA, mapO, resA1, oneOf, w1, w2, w3, bots, cond_true, cond_false, if_true, if_false, ite_true, ite_false, reduceIte, reduceCtorEq, implies_true, Nat.reduceAdd, Nat.reduceSub, AV.int, AV.bool, AV.str, Nat.reduceBEq, Nat.reduceEqDiff, Nat.reduceMul, Nat.reduceLT, Nat.reduceLeDiff, Int.reduceNeg, BEq.rfl, beq_self_eq_true, tabl, cellsOf, fldA, ldA, stA, entAt, partA, takeN, over, leafOk, Value.oneCell', idxA, nilA, cellsEq, fillA, elemsA, pure1, pure2, reps, chkA, tys, Try.results20, KX_draw, KX_drawQ, KX_tail, lastO_one, lastO_more, dropL_one, dropL_more, callP_eq, callM_true, e0, e1, e5, d1, coefsA, hx', hy', hiw, h1, d2, Bool.true_and, Bool.and_true, Bool.not_true]
        exact IH (i + 1) _ (by first | omega | (simp only; omega)) ⟨rfl, by first | omega | (dsimp only; omega), by rw [hE, he]; simp, rfl, rfl, rfl, rfl⟩
      · have d2 : (x.2 == y.2) = false := by simpa using h2
        have hne : ¬ x = y := by intro h; rw [h] at h2; exact h2 rfl
        simp (maxSteps := 1000000) +contextual (disch := first | with_reducible assumption | exact ⟨rfl⟩ | exact ⟨rfl, rfl⟩ | (refine _root_.id ?_; kernel_rfl) | omega) only [evs, ext_mv, nth, put, putT, getT, binInt, binStr, binBool, aUn, outA, resA, mapO, resA1, oneOf, w1, w2, w3, bots, cond_true, cond_false, if_true, if_false, ite_true, ite_false, reduceIte, reduceCtorEq, implies_true, Nat.reduceAdd, Nat.reduceSub, AV.int, AV.bool, AV.str, Nat.reduceBEq, Nat.reduceEqDiff, Nat.reduceMul, Nat.reduceLT, Nat.reduceLeDiff, Int.reduceNeg, BEq.rfl, beq_self_eq_true, tabl, cellsOf, fldA, ldA, stA, entAt, partA, takeN, over, leafOk, Value.oneCell', idxA, nilA, cellsEq, fillA, elemsA, pure1, pure2, reps, chkA, tys, Try.results20, KX_draw, KX_drawQ, KX_tail, lastO_one, lastO_more, dropL_one, dropL_more, callP_eq, callM_true, e0, e1, e5, d1, coefsA, hx', hy', hiw, h1, d2, Bool.true_and, Bool.false_and, Bool.and_false, Bool.not_false]
        rw [hE]; simp [hne]
  · have d1 : decide ((i : Int) < (a.length : Int)) = false := by simpa using hlt
    have hie : i = a.length := by omega
    simp (maxSteps := 1000000) +contextual (disch := first | with_reducible assumption | exact ⟨rfl⟩ | exact ⟨rfl, rfl⟩ | (refine _root_.id ?_; kernel_rfl) | omega) only [evs, ext_mv, nth, put, putT, getT, binInt, binStr, binBool, aUn, outA, resA, mapO, resA1, oneOf, w1, w2, w3, bots, cond_true, cond_false, if_true, if_false, ite_true, ite_false, reduceIte, reduceCtorEq, implies_true, Nat.reduceAdd, Nat.reduceSub, AV.int, AV.bool, AV.str, Nat.reduceBEq, Nat.reduceEqDiff, Nat.reduceMul, Nat.reduceLT, Nat.reduceLeDiff, Int.reduceNeg, BEq.rfl, beq_self_eq_true, tabl, cellsOf, fldA, ldA, stA, entAt, partA, takeN, over, leafOk, Value.oneCell', idxA, nilA, cellsEq, fillA, elemsA, pure1, pure2, reps, chkA, tys, Try.results20, KX_draw, KX_drawQ, KX_tail, lastO_one, lastO_more, dropL_one, dropL_more, callP_eq, callM_true, e0, e1, e5, d1, coefsA]
    have e1 : a.drop i = [] := by rw [hie, List.drop_length]
    have e2 : b.drop i = [] := by rw [hie, hlen, List.drop_length]
    rw [hE, e1, e2]; rfl
set_option maxRecDepth 100000 in
theorem L15_row1 (x c : Int) (eq : Bool) (hx : (x != 0) = true) : cL Try.prog 22 [.int x, .int 0, .int c, .bool eq] S tk k = some (.agg (rowC ([(nX, x)], c, eq)), S, tk, k) := by
  refine call_pure Try.func22 rfl rfl (by decide +kernel) (by decide +kernel) Try.ntmps22 rfl rfl _ _ _ rfl ?_; rw [RK_KX]
  have hA := fun (a b : AV) => apB_one (tk := []) (c := .nilc) (es := []) (y := [a, b]) (sz := 2) rfl rfl rfl (by decide)
  simp (maxSteps := 1000000) +contextual (disch := first | with_reducible assumption | exact ⟨rfl⟩ | exact ⟨rfl, rfl⟩ | (refine _root_.id ?_; kernel_rfl) | omega) only [evs, ext_mv, nth, put, putT, getT, binInt, binStr, binBool, aUn, outA, resA, mapO, resA1, oneOf, w1, w2, w3, bots, cond_true, cond_false, if_true, if_false, ite_true, ite_false, reduceIte, reduceCtorEq, implies_true, Nat.reduceAdd, Nat.reduceSub, AV.int, AV.bool, AV.str, Nat.reduceBEq, Nat.reduceEqDiff, Nat.reduceMul, Nat.reduceLT, Nat.reduceLeDiff, Int.reduceNeg, BEq.rfl, beq_self_eq_true, tabl, cellsOf, fldA, ldA, stA, entAt, partA, takeN, over, leafOk, Value.oneCell', idxA, nilA, cellsEq, fillA, elemsA, pure1, pure2, reps, chkA, tys, Try.results22, KX_draw, KX_drawQ, KX_tail, lastO_one, lastO_more, dropL_one, dropL_more, callP_eq, callM_true, hx, bne_self_eq_false, hA]
  rfl
set_option maxRecDepth 100000 in
theorem L15_row2 (x y c : Int) (eq : Bool) (hx : (x != 0) = true) (hy : (y != 0) = true) : cL Try.prog 22 [.int x, .int y, .int c, .bool eq] S tk k = some (.agg (rowC ([(nX, x), (nY, y)], c, eq)), S, tk, k) := by
  refine call_pure Try.func22 rfl rfl (by decide +kernel) (by decide +kernel) Try.ntmps22 rfl rfl _ _ _ rfl ?_; rw [RK_KX]
  have hA := fun (a b : AV) => apB_one (tk := []) (c := .nilc) (es := []) (y := [a, b]) (sz := 2) rfl rfl rfl (by decide)
  have hA2 := fun (a b c d : AV) => apB_one (tk := capPut [] .nilc) (c := capNew [] .nilc 2) (es := [[a, b]]) (y := [c, d]) (sz := 2) rfl rfl rfl (by simp)
  simp (maxSteps := 1000000) +contextual (disch := first | with_reducible assumption | exact ⟨rfl⟩ | exact ⟨rfl, rfl⟩ | (refine _root_.id ?_; kernel_rfl) | omega) only [evs, ext_mv, nth, put, putT, getT, binInt, binStr, binBool, aUn, outA, resA, mapO, resA1, oneOf, w1, w2, w3, bots, cond_true, cond_false, if_true, if_false, ite_true, ite_false, reduceIte, reduceCtorEq, implies_true, Nat.reduceAdd, Nat.reduceSub, AV.int, AV.bool, AV.str, Nat.reduceBEq, Nat.reduceEqDiff, Nat.reduceMul, Nat.reduceLT, Nat.reduceLeDiff, Int.reduceNeg, BEq.rfl, beq_self_eq_true, tabl, cellsOf, fldA, ldA, stA, entAt, partA, takeN, over, leafOk, Value.oneCell', idxA, nilA, cellsEq, fillA, elemsA, pure1, pure2, reps, chkA, tys, Try.results22, KX_draw, KX_drawQ, KX_tail, lastO_one, lastO_more, dropL_one, dropL_more, callP_eq, callM_true, hx, hy, hA, hA2, List.nil_append, List.singleton_append]
  rfl
theorem L15_at (x y : Int) : cL Try.prog 23 [.int x, .int y] S tk k = some (coefsA [(nX, x), (nY, y)], S, tk, k) := by
  refine call_pure Try.func23 rfl rfl (by decide +kernel) (by decide +kernel) Try.ntmps23 rfl rfl _ _ _ rfl ?_; rw [RK_KX]
  simp (maxSteps := 1000000) +contextual (disch := first | with_reducible assumption | exact ⟨rfl⟩ | exact ⟨rfl, rfl⟩ | (refine _root_.id ?_; kernel_rfl) | omega) only [evs, ext_mv, nth, put, putT, getT, binInt, binStr, binBool, aUn, outA, resA, mapO, resA1, oneOf, w1, w2, w3, bots, cond_true, cond_false, if_true, if_false, ite_true, ite_false, reduceIte, reduceCtorEq, implies_true, Nat.reduceAdd, Nat.reduceSub, AV.int, AV.bool, AV.str, Nat.reduceBEq, Nat.reduceEqDiff, Nat.reduceMul, Nat.reduceLT, Nat.reduceLeDiff, Int.reduceNeg, BEq.rfl, beq_self_eq_true, tabl, cellsOf, fldA, ldA, stA, entAt, partA, takeN, over, leafOk, Value.oneCell', idxA, nilA, cellsEq, fillA, elemsA, pure1, pure2, reps, chkA, tys, Try.results23, KX_draw, KX_drawQ, KX_tail, lastO_one, lastO_more, dropL_one, dropL_more, callP_eq, callM_true]
  rfl
end
end Go.Proofs.Ytcandeobhlfkbaa
/-
  The plain law of the order of points: it is a total order on what the points say of all names.
-/

namespace Go.Proofs.Ytcandeobhlfkbaa
open Go
theorem befF_irr (a : Int) : befF a a = false := by simp [befF]
theorem befF_trans {a b c : Int} (h1 : befF a b = true) (h2 : befF b c = true) : befF a c = true := by
  unfold befF at *
  split at h1 <;> split at h2 <;> split <;> simp only [decide_eq_true_eq] at * <;> omega
theorem befF_tri {a b : Int} (h : a ≠ b) (h1 : befF a b = false) : befF b a = true := by
  unfold befF at *
  split at h1 <;> split <;> simp only [decide_eq_true_eq, decide_eq_false_iff_not] at * <;> omega
theorem findS_mem {s : ByteArray} : ∀ {pt : Pt}, findS s pt ≠ 0 → ∃ c ∈ pt, c.1 = s
  | [], h => absurd rfl h
  | c :: r, h => by
    unfold findS at h
    split at h
    · rename_i he
      rw [sEq_nm] at he
      exact ⟨c, by simp, by simpa using he⟩
    · obtain ⟨d, hd, e⟩ := findS_mem h
      exact ⟨d, by simp [hd], e⟩
theorem radG_le (pt : Pt) (n : Nat) : ∀ (l : Pt) (m : Nat), radG pt m l ≤ n ↔ m ≤ n ∧ ∀ c ∈ l, (findS c.1 pt).natAbs ≤ n
  | [], m => by simp [radG]
  | c :: r, m => by
    rw [radG, radG_le pt n r]
    constructor
    · rintro ⟨h1, h2⟩
      refine ⟨by omega, fun d hd => ?_⟩
      rcases List.mem_cons.1 hd with rfl | hd
      · omega
      · exact h2 d hd
    · rintro ⟨h1, h2⟩
      have := h2 c (by simp)
      exact ⟨by omega, fun d hd => h2 d (by simp [hd])⟩
theorem radF_le (pt : Pt) (n : Nat) : radF pt ≤ n ↔ ∀ s, (findS s pt).natAbs ≤ n := by
  unfold radF
  rw [radG_le]
  constructor
  · rintro ⟨-, h⟩ s
    by_cases h0 : findS s pt = 0
    · rw [h0]; simp
    · obtain ⟨c, hc, rfl⟩ := findS_mem h0
      exact h c hc
  · exact fun h => ⟨Nat.zero_le _, fun c _ => h c.1⟩
/-- both say the same of all names -/
def SameP (a b : Pt) : Prop := ∀ s, findS s a = findS s b
theorem radF_same {a b : Pt} (h : SameP a b) : radF a = radF b := by
  have h1 : radF a ≤ radF b := (radF_le a _).2 fun s => by rw [h s]; exact (radF_le b _).1 (Nat.le_refl _) s
  have h2 : radF b ≤ radF a := (radF_le b _).2 fun s => by rw [← h s]; exact (radF_le a _).1 (Nat.le_refl _) s
  omega
theorem least_none (a b : Pt) : ∀ (l : Pt) (o : Option ByteArray), leastG a b o l = none ↔ o = none ∧ ∀ c ∈ l, findS c.1 a = findS c.1 b
  | [], o => by simp [leastG]
  | c :: r, o => by
    rw [leastG, least_none a b r]
    by_cases hd : findS c.1 a = findS c.1 b
    · have : (findS c.1 a != findS c.1 b) = false := by simpa using hd
      simp [this, hd]
    · have h1 : (findS c.1 a != findS c.1 b) = true := by simpa using hd
      rw [h1, Bool.true_and]
      constructor
      · rintro ⟨h2, -⟩
        split at h2
        · cases h2
        · rename_i h3
          subst h2
          exact absurd rfl h3
      · rintro ⟨-, h2⟩
        exact absurd (h2 c (by simp)) hd
theorem least_some (a b : Pt) : ∀ (l : Pt) (o : Option ByteArray) (s : ByteArray), (∀ t, o = some t → findS t a ≠ findS t b) → leastG a b o l = some s →
    findS s a ≠ findS s b ∧ (∀ t, o = some t → ¬ nm t < nm s) ∧ ∀ c ∈ l, findS c.1 a ≠ findS c.1 b → ¬ nm c.1 < nm s
  | [], o, s, ho, h => by
    simp only [leastG] at h
    refine ⟨ho s h, fun t ht => ?_, by simp⟩
    rw [h] at ht
    simp only [Option.some.injEq] at ht
    subst ht
    exact nlt_irrefl _
  | c :: r, o, s, ho, h => by
    rw [leastG] at h
    by_cases hd : findS c.1 a = findS c.1 b
    · have hd' : (findS c.1 a != findS c.1 b) = false := by simpa using hd
      rw [hd', Bool.false_and, if_neg (by simp)] at h
      obtain ⟨h1, h2, h3⟩ := least_some a b r o s ho h
      refine ⟨h1, h2, fun d hd2 hne => ?_⟩
      rcases List.mem_cons.1 hd2 with rfl | hd2
      · exact absurd hd hne
      · exact h3 d hd2 hne
    · have hd' : (findS c.1 a != findS c.1 b) = true := by simpa using hd
      rw [hd', Bool.true_and] at h
      by_cases hl : lessO o c.1 = true
      · rw [if_pos hl] at h
        obtain ⟨h1, h2, h3⟩ := least_some a b r (some c.1) s (fun t ht => by simp only [Option.some.injEq] at ht; subst ht; exact hd) h
        have hcs := h2 c.1 rfl
        refine ⟨h1, fun t ht hlt => ?_, fun d hd2 hne => ?_⟩
        · subst ht
          simp only [lessO, sLt_nm, decide_eq_true_eq] at hl
          exact hcs (nlt_trans hl hlt)
        · rcases List.mem_cons.1 hd2 with rfl | hd2
          · exact hcs
          · exact h3 d hd2 hne
      · rw [if_neg hl] at h
        obtain ⟨h1, h2, h3⟩ := least_some a b r o s ho h
        refine ⟨h1, h2, fun d hd2 hne => ?_⟩
        rcases List.mem_cons.1 hd2 with rfl | hd2
        · cases o with
          | none => exact absurd rfl hl
          | some t =>
            simp only [lessO, sLt_nm, decide_eq_true_eq] at hl
            intro hlt
            rcases nlt_tri d.1 t with q | q | q
            · exact hl q
            · rw [q] at hlt; exact h2 t rfl hlt
            · exact h2 t rfl (nlt_trans q hlt)
        · exact h3 d hd2 hne
/-- comes before -/
def LtP (a b : Pt) : Prop := radF a < radF b ∨ radF a = radF b ∧ ∃ s, befF (findS s a) (findS s b) = true ∧ ∀ t, nm t < nm s → findS t a = findS t b
theorem ord_cases (a b : Pt) : (ordF a b = -1 ∧ LtP a b) ∨ (ordF a b = 0 ∧ SameP a b) ∨ (ordF a b = 1 ∧ LtP b a) := by
  unfold ordF
  by_cases c1 : radF a < radF b
  · rw [if_pos c1]; exact .inl ⟨rfl, .inl c1⟩
  rw [if_neg c1]
  by_cases c2 : radF b < radF a
  · rw [if_pos c2]; exact .inr (.inr ⟨rfl, .inl c2⟩)
  rw [if_neg c2]
  have hr : radF a = radF b := by omega
  cases h : leastG a b none (a ++ b) with
  | none =>
    have h1 := ((least_none a b (a ++ b) none).1 h).2
    refine .inr (.inl ⟨rfl, fun s => ?_⟩)
    by_cases h0 : findS s a = 0
    · by_cases h0' : findS s b = 0
      · rw [h0, h0']
      · obtain ⟨c, hc, rfl⟩ := findS_mem h0'
        exact h1 c (by simp [hc])
    · obtain ⟨c, hc, rfl⟩ := findS_mem h0
      exact h1 c (by simp [hc])
  | some s =>
    obtain ⟨h1, -, h3⟩ := least_some a b (a ++ b) none s (by simp) h
    have h4 : ∀ t, nm t < nm s → findS t a = findS t b := fun t ht => by
      refine Decidable.byContradiction fun hne => ?_
      by_cases h0 : findS t a = 0
      · by_cases h0' : findS t b = 0
        · exact hne (by rw [h0, h0'])
        · obtain ⟨c, hc, rfl⟩ := findS_mem h0'
          exact h3 c (by simp [hc]) hne ht
      · obtain ⟨c, hc, rfl⟩ := findS_mem h0
        exact h3 c (by simp [hc]) hne ht
    cases hb : befF (findS s a) (findS s b) with
    | true => exact .inl ⟨by simp [hb], .inr ⟨hr, s, hb, h4⟩⟩
    | false => exact .inr (.inr ⟨by simp [hb], .inr ⟨hr.symm, s, befF_tri h1 hb, fun t ht => (h4 t ht).symm⟩⟩)
theorem LtP_irr {a b : Pt} (h : LtP a b) (hs : SameP a b) : False := by
  rcases h with h | ⟨-, s, hb, -⟩
  · rw [radF_same hs] at h; omega
  · rw [hs s, befF_irr] at hb; cases hb
theorem LtP_trans {a b c : Pt} (h1 : LtP a b) (h2 : LtP b c) : LtP a c := by
  rcases h1 with h1 | ⟨r1, s, b1, e1⟩ <;> rcases h2 with h2 | ⟨r2, t, b2, e2⟩
  · exact .inl (by omega)
  · exact .inl (by omega)
  · exact .inl (by omega)
  refine .inr ⟨by omega, ?_⟩
  rcases nlt_tri s t with q | q | q
  · exact ⟨s, by rw [← e2 s q]; exact b1, fun u hu => (e1 u hu).trans (e2 u (nlt_trans hu q))⟩
  · subst q
    exact ⟨s, befF_trans b1 b2, fun u hu => (e1 u hu).trans (e2 u hu)⟩
  · exact ⟨t, by rw [e1 t q]; exact b2, fun u hu => (e1 u (nlt_trans hu q)).trans (e2 u hu)⟩
theorem LtP_left {a b c : Pt} (h : SameP a b) (h2 : LtP b c) : LtP a c := by
  rcases h2 with h2 | ⟨r2, t, b2, e2⟩
  · exact .inl (by rw [radF_same h]; exact h2)
  · exact .inr ⟨by rw [radF_same h]; exact r2, t, by rw [h t]; exact b2, fun u hu => by rw [h u]; exact e2 u hu⟩
theorem LtP_right {a b c : Pt} (h2 : LtP a b) (h : SameP b c) : LtP a c := by
  rcases h2 with h2 | ⟨r2, t, b2, e2⟩
  · exact .inl (by rw [← radF_same h]; exact h2)
  · exact .inr ⟨by rw [← radF_same h]; exact r2, t, by rw [← h t]; exact b2, fun u hu => by rw [← h u]; exact e2 u hu⟩
theorem LtP_asymm {a b : Pt} (h : LtP a b) (h2 : LtP b a) : False := LtP_irr (LtP_trans h h2) fun _ => rfl
theorem ord_neg (a b : Pt) : ordF b a = -ordF a b := by
  rcases ord_cases a b with ⟨e, h⟩ | ⟨e, h⟩ | ⟨e, h⟩ <;> rcases ord_cases b a with ⟨e2, h2⟩ | ⟨e2, h2⟩ | ⟨e2, h2⟩
  · exact absurd h2 fun h2 => LtP_asymm h h2
  · exact absurd h fun h => LtP_irr h fun s => (h2 s).symm
  · omega
  · exact absurd h2 fun h2 => LtP_irr h2 fun s => (h s).symm
  · omega
  · exact absurd h2 fun h2 => LtP_irr h2 h
  · omega
  · exact absurd h fun h => LtP_irr h h2
  · exact absurd h2 fun h2 => LtP_asymm h h2
theorem ord_refl (a : Pt) : ordF a a = 0 := by have := ord_neg a a; omega
theorem ord_le {a b : Pt} (h : LtP a b ∨ SameP a b) : ordF a b ≤ 0 := by
  rcases ord_cases a b with ⟨e, _⟩ | ⟨e, _⟩ | ⟨e, h3⟩
  · omega
  · omega
  · rcases h with h | h
    · exact absurd h3 fun h3 => LtP_asymm h h3
    · exact absurd h3 fun h3 => LtP_irr h3 fun s => (h s).symm
theorem le_ord {a b : Pt} (h : ordF a b ≤ 0) : LtP a b ∨ SameP a b := by
  rcases ord_cases a b with ⟨e, h3⟩ | ⟨e, h3⟩ | ⟨e, h3⟩
  · exact .inl h3
  · exact .inr h3
  · omega
theorem ord_trans {a b c : Pt} (h1 : ordF a b ≤ 0) (h2 : ordF b c ≤ 0) : ordF a c ≤ 0 := by
  refine ord_le ?_
  rcases le_ord h1 with h1 | h1 <;> rcases le_ord h2 with h2 | h2
  · exact .inl (LtP_trans h1 h2)
  · exact .inl (LtP_right h1 h2)
  · exact .inl (LtP_left h1 h2)
  · exact .inr fun s => (h1 s).trans (h2 s)
theorem ord_zero (a b : Pt) : ordF a b = 0 ↔ SameP a b := by
  rcases ord_cases a b with ⟨e, h⟩ | ⟨e, h⟩ | ⟨e, h⟩ <;> rw [e]
  · exact ⟨fun h0 => by omega, fun h0 => absurd h fun h => LtP_irr h h0⟩
  · exact ⟨fun _ => h, fun _ => rfl⟩
  · exact ⟨fun h0 => by omega, fun h0 => absurd h fun h => LtP_irr h fun s => (h0 s).symm⟩
/-- it is enough to look at the names of both -/
theorem same_iff (a b : Pt) : SameP a b ↔ ∀ c ∈ a ++ b, findS c.1 a = findS c.1 b := by
  refine ⟨fun h c _ => h c.1, fun h s => ?_⟩
  by_cases h0 : findS s a = 0
  · by_cases h0' : findS s b = 0
    · rw [h0, h0']
    · obtain ⟨c, hc, rfl⟩ := findS_mem h0'
      exact h c (by simp [hc])
  · obtain ⟨c, hc, rfl⟩ := findS_mem h0
    exact h c (by simp [hc])
end Go.Proofs.Ytcandeobhlfkbaa
/-
  The search for a point, plain: what is found; that nothing is lost where a row is hopeless.
-/


namespace Go.Proofs.Ytcandeobhlfkbaa
open Go
/-- the first point with this radius that begins with a point -/
def searchF (sat : Pt → Bool) (r : Int) : List ByteArray → Pt → Bool → Option Pt
  | [], pt, reached => if (reached && sat pt) = true then some pt else none
  | s :: ns, pt, reached => (valsF r).findSome? fun n => searchF sat r ns (pt ++ [(s, n)]) (reached || n == r || n == -r)
/-- the first point with a radius from j on, k of them -/
def fromF (sat : Pt → Bool) (names : List ByteArray) : Nat → Nat → Option Pt
  | _, 0 => none
  | j, k + 1 => match searchF sat (j : Int) names [] ((j : Int) == 0) with
    | some p => some p
    | none => fromF sat names (j + 1) k
def okF (l : List RowT) (most : Int) : Bool := decide (sysE l = 0) && decide (0 ≤ most) && decide (most ≤ 8) && decide ((varsF l).length ≤ 6)
def findF (l : List RowT) (most : Int) : Option Pt := if okF l most = true then fromF (satF l) (varsF l) 0 (most.toNat + 1) else none
theorem mem_vals : ∀ (n : Nat) (x : Int), x ∈ valsN n ↔ x.natAbs ≤ n
  | 0, x => by simp [valsN]
  | n + 1, x => by
    rw [valsN, List.mem_append, mem_vals n]
    simp only [List.mem_cons, List.not_mem_nil, or_false]
    omega
theorem mem_valsF {r x : Int} (h0 : 0 ≤ r) (h8 : r ≤ 8) : x ∈ valsF r ↔ (x.natAbs : Int) ≤ r := by
  unfold valsF
  rw [if_neg (by omega), mem_vals]
  omega
theorem search_some {sat : Pt → Bool} {r : Int} : ∀ {ns : List ByteArray} {pt : Pt} {reached : Bool} {p : Pt}, searchF sat r ns pt reached = some p → sat p = true ∧ ∃ ext : Pt, p = pt ++ ext ∧ ext.map (·.1) = ns ∧ (∀ x ∈ ext, x.2 ∈ valsF r) ∧ (reached = true ∨ ∃ x ∈ ext, x.2 = r ∨ x.2 = -r)
  | [], pt, reached, p, h => by
    simp only [searchF] at h
    split at h
    · rename_i hs
      simp only [Option.some.injEq] at h
      subst h
      rw [Bool.and_eq_true] at hs
      exact ⟨hs.2, [], by simp, rfl, by simp, .inl hs.1⟩
    · cases h
  | s :: ns, pt, reached, p, h => by
    simp only [searchF] at h
    obtain ⟨n, hn, h1⟩ := List.exists_of_findSome?_eq_some h
    obtain ⟨h2, ext, rfl, h4, h5, h6⟩ := search_some h1
    refine ⟨h2, (s, n) :: ext, by simp, by simp [h4], fun x hx => ?_, ?_⟩
    · rcases List.mem_cons.1 hx with rfl | hx
      · exact hn
      · exact h5 x hx
    · rcases h6 with h6 | ⟨x, hx, h6⟩
      · simp only [Bool.or_eq_true, beq_iff_eq] at h6
        rcases h6 with (h6 | h6) | h6
        · exact .inl h6
        · exact .inr ⟨(s, n), by simp, .inl h6⟩
        · exact .inr ⟨(s, n), by simp, .inr h6⟩
      · exact .inr ⟨x, by simp [hx], h6⟩
/-- the value of a form, where it is accepted -/
def lv (pt : Pt) : List (ByteArray × Int) → Int
  | [] => 0
  | c :: r => c.2 * findS c.1 pt + lv pt r
theorem valFrom_lv {pt : Pt} : ∀ {cs : List (ByteArray × Int)} {s : Int}, (valFrom pt s cs).2 = true → (valFrom pt s cs).1 = s + lv pt cs
  | [], s, _ => by simp [valFrom, lv]
  | c :: r, s, h => by
    have ck : ∀ {b : Bool} {n : Int}, (chk b n).2 = true → (chk b n).1 = n := fun {b n} h => by
      unfold chk at h ⊢
      split at h
      · rename_i hc; rw [if_pos hc]
      · cases h
    unfold valFrom at h ⊢
    split at h
    · rename_i h1
      rw [if_pos h1]
      split at h
      · rename_i h2
        rw [if_pos h2]
        rw [valFrom_lv h, lv]
        have e1 : (mulS c.2 (findS c.1 pt)).1 = c.2 * findS c.1 pt := ck h1
        have e2 : (addS s (mulS c.2 (findS c.1 pt)).1).1 = s + (mulS c.2 (findS c.1 pt)).1 := ck h2
        rw [e2, e1]; omega
      · cases h
    · cases h
theorem rowOk_lv {pt : Pt} {r : RowT} (h : rowOk pt r = true) : r.2.1 + lv pt r.1 ≤ 0 ∧ (r.2.2 = true → r.2.1 + lv pt r.1 = 0) := by
  unfold rowOk at h
  rw [Bool.and_eq_true, Bool.and_eq_true, decide_eq_true_eq] at h
  obtain ⟨h1, h2, h3⟩ := h
  unfold valueF at h1 h2 h3
  split at h1
  · rename_i hc
    rw [if_pos hc] at h2 h3
    rw [valFrom_lv h1] at h2 h3
    refine ⟨h2, fun he => ?_⟩
    rw [he] at h3
    simpa using h3
  · cases h1
theorem findS_bound {s : ByteArray} {B : Nat} : ∀ {a : Pt}, (∀ x ∈ a, x.2.natAbs ≤ B) → (findS s a).natAbs ≤ B
  | [], _ => by simp [findS]
  | c :: r, h => by
    unfold findS
    split
    · exact h c (by simp)
    · exact findS_bound fun x hx => h x (by simp [hx])
/-- no two of these have one name -/
def Apart (pt : Pt) : Prop := pt.Pairwise fun a b => a.1 ≠ b.1
theorem knF_none {c : ByteArray × Int} : ∀ {pt : Pt} {s : Int × Int × Bool}, (∀ x ∈ pt, x.1 ≠ c.1) → knF c pt s = s
  | [], _, _ => rfl
  | x :: r, s, h => by
    rw [knF, if_neg (by rw [sEq_nm]; simpa using h x (by simp))]
    exact knF_none fun y hy => h y (by simp [hy])
theorem knF_spec {c : ByteArray × Int} {lo hi : Int} {ext : Pt} : ∀ {pt : Pt}, Apart pt →
    (knF c pt (lo, hi, false) = (lo + c.2 * findS c.1 (pt ++ ext), hi + c.2 * findS c.1 (pt ++ ext), true)) ∨ (knF c pt (lo, hi, false) = (lo, hi, false) ∧ findS c.1 (pt ++ ext) = findS c.1 ext)
  | [], _ => .inr ⟨rfl, rfl⟩
  | x :: r, h => by
    obtain ⟨h1, h2⟩ := List.pairwise_cons.1 h
    rw [knF, List.cons_append, findS]
    by_cases he : sEq x.1 c.1 = true
    · rw [if_pos he, if_pos he]
      rw [sEq_nm] at he
      have he : x.1 = c.1 := by simpa using he
      left
      rw [knF_none fun y hy => by rw [← he]; exact (h1 y hy).symm]
    · rw [if_neg he, if_neg he]
      exact knF_spec h2
theorem abs_mul_le {a b B : Int} (h : (b.natAbs : Int) ≤ B) : -((a.natAbs : Int) * B) ≤ a * b ∧ a * b ≤ (a.natAbs : Int) * B := by
  have h1 : ((a * b).natAbs : Int) ≤ (a.natAbs : Int) * B := by
    rw [Int.natAbs_mul, Int.natCast_mul]
    exact Int.mul_le_mul_of_nonneg_left h (by omega)
  omega
theorem lohi_sound {pt ext : Pt} {rad : Int} (ha : Apart pt) (hx : ∀ s, ((findS s ext).natAbs : Int) ≤ rad) : ∀ (cs : List (ByteArray × Int)) (lo hi v : Int), lo ≤ v → v ≤ hi →
    (lohi pt rad (lo, hi) cs).1 ≤ v + lv (pt ++ ext) cs ∧ v + lv (pt ++ ext) cs ≤ (lohi pt rad (lo, hi) cs).2
  | [], lo, hi, v, h1, h2 => by simp only [lohi, lv]; omega
  | c :: r, lo, hi, v, h1, h2 => by
    rw [lohi, lv]
    have key : (stepC pt rad (lo, hi) c).1 ≤ v + c.2 * findS c.1 (pt ++ ext) ∧ v + c.2 * findS c.1 (pt ++ ext) ≤ (stepC pt rad (lo, hi) c).2 := by
      unfold stepC
      simp only
      rcases knF_spec (c := c) (lo := lo) (hi := hi) (ext := ext) ha with h | ⟨h, h3⟩
      · rw [h, if_pos rfl]; simp only; omega
      · rw [h, if_neg (by simp)]
        simp only
        rw [h3]
        have := abs_mul_le (a := c.2) (hx c.1)
        omega
    have := lohi_sound ha hx r (stepC pt rad (lo, hi) c).1 (stepC pt rad (lo, hi) c).2 (v + c.2 * findS c.1 (pt ++ ext)) key.1 key.2
    have e : ((stepC pt rad (lo, hi) c).1, (stepC pt rad (lo, hi) c).2) = stepC pt rad (lo, hi) c := rfl
    rw [e] at this
    rw [← Int.add_assoc]
    exact this
theorem hop_none {l : List RowT} {r : RowT} (hr : r ∈ l) {pt : Pt} {rad : Int} (h0 : 0 ≤ rad) (h8 : rad ≤ 8) (ha : Apart pt) (hh : hopF r.1 r.2.1 r.2.2 pt rad = true) (ns : List ByteArray) (reached : Bool) : searchF (satF l) rad ns pt reached = none := by
  cases h : searchF (satF l) rad ns pt reached with
  | none => rfl
  | some p =>
    exfalso
    obtain ⟨h1, ext, rfl, -, h3, -⟩ := search_some h
    have h4 : rowOk (pt ++ ext) r = true := by
      unfold satF at h1
      exact List.all_eq_true.1 h1 r hr
    obtain ⟨h5, h6⟩ := rowOk_lv h4
    have hb : ∀ s, ((findS s ext).natAbs : Int) ≤ rad := fun s => by
      have := findS_bound (s := s) (B := rad.toNat) (a := ext) fun x hx => by
        have := (mem_valsF h0 h8).1 (h3 x hx)
        omega
      omega
    obtain ⟨h7, h9⟩ := lohi_sound ha hb r.1 r.2.1 r.2.1 r.2.1 (Int.le_refl _) (Int.le_refl _)
    unfold hopF at hh
    rw [Bool.or_eq_true, Bool.and_eq_true, decide_eq_true_eq, decide_eq_true_eq] at hh
    rcases hh with hh | ⟨he, hh⟩
    · omega
    · have := h6 he; omega
/-- the steps of the search over the values -/
theorem find_drop {α β : Type} {f : α → Option β} {l : List α} {j : Nat} {x : α} (h : nth l j = some x) (hn : (l.take j).findSome? f = none) : l.findSome? f = match f x with | some y => some y | none => (l.drop (j + 1)).findSome? f := by
  have e : l = l.take j ++ (x :: l.drop (j + 1)) := by
    rw [← nth_drop h, List.take_append_drop]
  conv => lhs; rw [e]
  rw [List.findSome?_append, hn, List.findSome?_cons]
  cases f x <;> rfl
theorem find_take {α β : Type} {f : α → Option β} {l : List α} {j : Nat} {x : α} (h : nth l j = some x) (hn : (l.take j).findSome? f = none) (hx : f x = none) : (l.take (j + 1)).findSome? f = none := by
  rw [take_snoc h, List.findSome?_append, hn]
  simp [hx]
end Go.Proofs.Ytcandeobhlfkbaa
/-
  A rule for a region that draws its order and whose operations and callees may make memory: each operation is looked at once, in whatever world extends the first one,
  with the values of the operations that it depends on known by predicates that last as the world grows. The operations from number m on come behind all the others, in the text's order.
-/



namespace Go.Proofs.Ytcandeobhlfkbaa.Iv

section
variable {P : Program}

def dstOf (ops : Array Oper) (j : Nat) : Option Tmp := (ops[j]?).bind (·.dst)
def depsOf (ops : Array Oper) (i : Nat) : List Nat := match ops[i]? with | some o => (o.after.toList.filter (Region.binds .any)).map (·.on) | none => []
/-- the frame with the values of some operations -/
def putList (ops : Array Oper) (a0 : Act) (f : Nat → Value) : List Nat → Act
  | [] => a0
  | j :: l => (putList ops a0 f l).put (dstOf ops j) (f j)
def tmpOf : Operand → Option Tmp | .tmp t => some t | _ => none

/-- what is asked of one operation of the text -/
def opFits (ops : Array Oper) (size i : Nat) (o : Oper) : Bool :=
  (match o.op with | .select .. => false | _ => true) && (depsOf ops i).all (· < i) &&
  (match o.guard with | none => true | some (g, _) => (depsOf ops i).contains g) &&
  (o.dst.all fun d => decide (d < size) && (List.range i).all fun j => dstOf ops j != some d) &&
  (o.op.operands.all fun x => match x with
    | .tmp t => (List.range ops.size).all fun j => dstOf ops j != some t || j == i || (depsOf ops i).contains j || (depsOf ops j).contains i
    | _ => true)
/-- what has come before an operation for sure -/
def reachAt (ops : Array Oper) (i : Nat) : List Nat := ((List.range i).reverse).foldl (fun s j => if s.contains j then depsOf ops j ++ s else s) (depsOf ops i)
def regionFits (ops : Array Oper) (size m : Nat) : Bool :=
  ((List.range ops.size).all fun i => ((ops[i]?).map (opFits ops size i)).getD false) &&
  (List.range ops.size).all fun i => decide (i < m) || (List.range i).all fun j => (reachAt ops i).contains j

/-- what one operation gives, in this frame and world -/
def Oper.gives (P : Program) (o : Oper) (a : Act) (w : World) (Ψ : Value → World → Prop) : Prop :=
  match (execOp a.eval o).run P w with
  | .ok (.value v) w' => Ψ v w'
  | .ok .skip w' => Ψ undef w'
  | .ok (.enter f args) w' => Calls P f args w' fun | .returned v, w'' => Ψ v w'' | _, _ => False
  | .ok (.row row args) w' => Rows P row args w' fun v w'' => Ψ v w''
  | _ => False

/-- the post of one operation's walk -/
def OnePost (d : Tmp) (n : Nat) (Ψ : Value → World → Prop) : Exit → Act → World → Prop := fun e a w => e = .normal ∧ a.defers.length = n ∧ Ψ (a.tmps.getD d undef) w

theorem put_getD {a : Act} {d : Tmp} {v : Value} (h : d < a.tmps.size) : (a.put (some d) v).tmps.getD d undef = v := by
  simp [Act.put, Array.getD, h]

theorem gives_of_wpList {ops : Array Oper} {o : Oper} {a : Act} {w : World} {d : Tmp} {Ψ : Value → World → Prop} (hd : o.dst = some d) (hs : d < a.tmps.size) (hw : Region.wanted o (yielded ops a.tmps) = true)
    (h : wpList P ops (OnePost d a.defers.length Ψ) [o] a w) : Oper.gives P o a w Ψ := by
  unfold wpList at h
  rw [if_pos hw] at h
  rcases h with h | ⟨_, a', w', h, _⟩
  · unfold Oper.wp at h
    unfold Oper.gives
    generalize (execOp a.eval o).run P w = r at *
    cases r with
    | ok n w' =>
      cases n <;> simp only [Oper.upon, wpList, hd] at h ⊢
      case value v => have := h.2.2; rwa [put_getD hs] at this
      case skip => have := h.2.2; rwa [put_getD hs] at this
      case defer d' => have := h.2.1; simp [Act.put] at this
      case enter f args =>
        refine Calls.mono h fun e w'' he => ?_
        cases e with
        | returned v => have := he.2.2; rwa [put_getD hs] at this
        | panicked c => exact absurd he.1 (by simp)
        | outgrown => obtain ⟨_, _, h, _⟩ := he; exact absurd h (by simp)
      case row row args => exact Rows.mono h fun v w'' he => by have := he.2.2; rwa [put_getD hs] at this
    | halt x w' =>
      cases x <;> simp only [Oper.upon] at h
      exact absurd h.1 (by simp)
  · exact absurd h (by simp)

/-- the same of an operation that yields nothing -/
def NonePost (n : Nat) (Ψ : World → Prop) : Exit → Act → World → Prop := fun e a w => e = .normal ∧ a.defers.length = n ∧ Ψ w
theorem gives_of_wpList0 {ops : Array Oper} {o : Oper} {a : Act} {w : World} {Ψ : World → Prop} (hw : Region.wanted o (yielded ops a.tmps) = true) (hd : o.dst = none)
    (h : wpList P ops (NonePost a.defers.length Ψ) [o] a w) : Oper.gives P o a w (fun _ w' => Ψ w') := by
  unfold wpList at h
  rw [if_pos hw] at h
  rcases h with h | ⟨_, a', w', h, _⟩
  · unfold Oper.wp at h
    unfold Oper.gives
    generalize (execOp a.eval o).run P w = r at *
    cases r with
    | ok n w' =>
      cases n <;> simp only [Oper.upon, wpList, hd] at h ⊢
      case value v => exact h.2.2
      case skip => exact h.2.2
      case defer d' => have := h.2.1; simp [Act.put] at this
      case enter f args =>
        refine Calls.mono h fun e w'' he => ?_
        cases e with
        | returned v => exact he.2.2
        | panicked c => exact absurd he.1 (by simp)
        | outgrown => obtain ⟨_, _, h, _⟩ := he; exact absurd h (by simp)
      case row row args => exact Rows.mono h fun v w'' he => he.2.2
    | halt x w' =>
      cases x <;> simp only [Oper.upon] at h
      exact absurd h.1 (by simp)
  · exact absurd h (by simp)

theorem gives_mono {o : Oper} {a : Act} {w : World} {Ψ Ψ' : Value → World → Prop} (h : Oper.gives P o a w Ψ) (hi : ∀ v w', Ψ v w' → Ψ' v w') : Oper.gives P o a w Ψ' := by
  unfold Oper.gives at *
  generalize (execOp a.eval o).run P w = r at *
  cases r with
  | ok n w' =>
    cases n <;> simp only at h ⊢
    case value v => exact hi _ _ h
    case skip => exact hi _ _ h
    case enter f args => exact Calls.mono h fun e w'' he => by cases e <;> first | exact hi _ _ he | exact he
    case row row args => exact Rows.mono h fun v w'' he => hi _ _ he
  | halt x w' => exact h

theorem wp_of_gives {o : Oper} {a a' : Act} {w : World} {K : Act → World → Prop} {Q : Exit → Act → World → Prop} (he : execOp a'.eval o = execOp a.eval o)
    (h : Oper.gives P o a w fun v w' => K (a'.put o.dst v) w') : o.wp P a' w K Q := by
  unfold Oper.gives at h
  unfold Oper.wp
  rw [he]
  generalize (execOp a.eval o).run P w = r at *
  cases r with
  | ok n w' =>
    cases n <;> simp only [Oper.upon] at h ⊢
    case value v => exact h
    case skip => exact h
    case enter f args => exact Calls.mono h fun e w'' he => by cases e <;> first | exact he | exact False.elim he
    case row row args => exact h
  | halt x w' => exact False.elim h

theorem putList_size (ops : Array Oper) (a0 : Act) (f : Nat → Value) (l : List Nat) : (putList ops a0 f l).tmps.size = a0.tmps.size := by
  induction l with
  | nil => rfl
  | cons j l ih => unfold putList Act.put; split <;> simp [ih]
theorem putList_defers (ops : Array Oper) (a0 : Act) (f : Nat → Value) (l : List Nat) : (putList ops a0 f l).defers = a0.defers := by
  induction l with
  | nil => rfl
  | cons j l ih => unfold putList Act.put; split <;> simp [ih]
theorem putList_other {ops : Array Oper} {a0 : Act} {f : Nat → Value} {t : Tmp} {l : List Nat} (h : ∀ j, j ∈ l → dstOf ops j ≠ some t) : (putList ops a0 f l).tmps.getD t undef = a0.tmps.getD t undef := by
  induction l with
  | nil => rfl
  | cons j l ih =>
    have ih := ih fun k hk => h k (by simp [hk])
    unfold putList Act.put
    cases hd : dstOf ops j with
    | none => exact ih
    | some d =>
      have hne : d ≠ t := fun e => h j (by simp) (by rw [hd, e])
      simp only
      rw [← ih]
      simp [Array.getD_eq_getD_getElem?, Array.getElem?_setIfInBounds_ne hne]
theorem putList_at {ops : Array Oper} {a0 : Act} {f : Nat → Value} {t : Tmp} {l : List Nat} {i : Nat} (hi : i ∈ l) (hd : dstOf ops i = some t) (hs : t < a0.tmps.size)
    (hu : ∀ j, j ∈ l → dstOf ops j = some t → j = i) : (putList ops a0 f l).tmps.getD t undef = f i := by
  induction l with
  | nil => simp at hi
  | cons j l ih =>
    by_cases hj : dstOf ops j = some t
    · obtain rfl := hu j (by simp) hj
      unfold putList
      rw [hj]
      exact put_getD (by rw [putList_size]; exact hs)
    · have hil : i ∈ l := by
        rcases List.mem_cons.1 hi with h | h
        · exact absurd (h ▸ hd) hj
        · exact h
      have ih := ih hil fun k hk => hu k (by simp [hk])
      unfold putList Act.put
      cases hd' : dstOf ops j with
      | none => exact ih
      | some d =>
        have hne : d ≠ t := fun e => hj (by rw [hd', e])
        simp only
        rw [← ih]
        simp [Array.getD_eq_getD_getElem?, Array.getElem?_setIfInBounds_ne hne]

/-- what has been done, at a place of the schedule; operation s is the one that may write -/
structure Sofar (ops : Array Oper) (a0 : Act) (R1 R2 : World → Prop) (s : Nat) (Φ : Nat → World → Value → Prop) (listed : Array Bool) (f : Nat → Value) (a : Act) (w : World) : Prop where
  len : listed.size = ops.size
  size : a.tmps.size = a0.tmps.size
  defers : a.defers = a0.defers
  val : ∀ j d, listed.getD j false = true → dstOf ops j = some d → a.tmps.getD d undef = f j
  old : ∀ t, (∀ j, listed.getD j false = true → dstOf ops j ≠ some t) → a.tmps.getD t undef = a0.tmps.getD t undef
  holds : ∀ j, listed.getD j false = true → Φ j w (f j)
  one : listed.getD s false = false → R1 w
  two : R2 w
  closed : ∀ j, listed.getD j false = true → ∀ e ∈ depsOf ops j, listed.getD e false = true

variable {ops : Array Oper} {a0 : Act} {R1 R2 : World → Prop} {S : World → World → Prop} {Φ : Nat → World → Value → Prop} {m s : Nat}

theorem fits_at (hfit : regionFits ops a0.tmps.size m = true) {i : Nat} {o : Oper} (hi : ops[i]? = some o) : opFits ops a0.tmps.size i o = true := by
  unfold regionFits at hfit
  rw [Bool.and_eq_true, List.all_eq_true] at hfit
  have h := hfit.1 i (by simp; exact (Array.getElem?_eq_some_iff.1 hi).1)
  rw [hi] at h
  exact h
theorem dst_lt (hfit : regionFits ops a0.tmps.size m = true) {i : Nat} {d : Tmp} (hd : dstOf ops i = some d) : d < a0.tmps.size ∧ i < ops.size ∧ ∀ j, j < i → dstOf ops j ≠ some d := by
  unfold dstOf at hd
  cases ho : ops[i]? with
  | none => rw [ho] at hd; simp at hd
  | some o =>
    rw [ho] at hd
    have hd : o.dst = some d := by simpa using hd
    have h := fits_at hfit ho
    unfold opFits at h
    simp only [Bool.and_eq_true, hd, Option.all_some, decide_eq_true_eq, List.all_eq_true, List.mem_range, bne_iff_ne] at h
    exact ⟨h.1.2.1, (Array.getElem?_eq_some_iff.1 ho).1, h.1.2.2⟩
theorem dst_inj (hfit : regionFits ops a0.tmps.size m = true) {i j : Nat} {d : Tmp} (hi : dstOf ops i = some d) (hj : dstOf ops j = some d) : i = j := by
  rcases Nat.lt_trichotomy i j with h | h | h
  · exact absurd hi ((dst_lt hfit hj).2.2 i h)
  · exact h
  · exact absurd hj ((dst_lt hfit hi).2.2 j h)

theorem ready_of {listed : Array Bool} {i : Nat} (h : i ∈ Region.ready .any ops listed) : listed.getD i true = false ∧ ∃ o, ops[i]? = some o ∧ ∀ e ∈ depsOf ops i, listed.getD e false = true := by
  obtain ⟨h0, o, ho, hd⟩ := mem_ready.1 h
  refine ⟨h0, o, ho, fun e he => ?_⟩
  unfold depsOf at he
  rw [ho] at he
  simp only [List.mem_map, List.mem_filter] at he
  obtain ⟨x, ⟨hx, hb⟩, rfl⟩ := he
  exact hd x (by simpa using hx) hb

theorem unlisted_false {listed : Array Bool} {i : Nat} (h : listed.getD i true = false) : listed.getD i false = false := by
  by_cases hi : i < listed.size
  · simpa [Array.getD, hi] using h
  · simp [Array.getD, hi] at h

/-- the frame of an operation whose turn it is: as if only those that it depends on had been carried out -/
theorem Sofar.eval {listed : Array Bool} {f : Nat → Value} {a : Act} {w : World} (h : Sofar ops a0 R1 R2 s Φ listed f a w) (hfit : regionFits ops a0.tmps.size m = true) {i : Nat} {o : Oper} (ho : ops[i]? = some o)
    (hun : listed.getD i false = false) (hdeps : ∀ e ∈ depsOf ops i, listed.getD e false = true) :
    execOp a.eval o = execOp (putList ops a0 f (depsOf ops i)).eval o ∧ Region.wanted o (yielded ops a.tmps) = Region.wanted o (yielded ops (putList ops a0 f (depsOf ops i)).tmps) := by
  have hf := fits_at hfit ho
  unfold opFits at hf
  simp only [Bool.and_eq_true] at hf
  obtain ⟨⟨⟨⟨hsel, hlt⟩, hg⟩, hdst⟩, hop⟩ := hf
  have key : ∀ t, (∀ j, dstOf ops j = some t → j = i ∨ j ∈ depsOf ops i ∨ i ∈ depsOf ops j) → a.tmps.getD t undef = (putList ops a0 f (depsOf ops i)).tmps.getD t undef := by
    intro t ht
    by_cases hx : ∃ j, listed.getD j false = true ∧ dstOf ops j = some t
    · obtain ⟨j, hj, hjd⟩ := hx
      rw [h.val j t hj hjd]
      rcases ht j hjd with e | e | e
      · subst e; rw [hun] at hj; simp at hj
      · exact (putList_at e hjd (dst_lt hfit hjd).1 fun k _ hk => dst_inj hfit hk hjd).symm
      · have := h.closed j hj i e; rw [hun] at this; simp at this
    · rw [h.old t fun j hj hjd => hx ⟨j, hj, hjd⟩, putList_other fun j hj hjd => hx ⟨j, hdeps j hj, hjd⟩]
  refine ⟨execOp_congr o (fun cs b e => by rw [e] at hsel; simp at hsel) fun x hx => ?_, ?_⟩
  · cases x with
    | tmp t =>
      have h1 := Array.all_eq_true_iff_forall_mem.1 hop (.tmp t) hx
      simp only [List.all_eq_true, List.mem_range, Bool.or_eq_true, bne_iff_ne, beq_iff_eq, List.contains_iff_mem] at h1
      refine key t fun j hj => ?_
      rcases h1 j (dst_lt hfit hj).2.1 with ((h2 | h2) | h2) | h2
      · exact absurd hj h2
      · exact .inl h2
      · exact .inr (.inl h2)
      · exact .inr (.inr h2)
    | _ => rfl
  · unfold Region.wanted
    cases hgd : o.guard with
    | none => rfl
    | some gw =>
      obtain ⟨g, want⟩ := gw
      rw [hgd] at hg
      have hgm : g ∈ depsOf ops i := by simpa using hg
      have : yielded ops a.tmps g = yielded ops (putList ops a0 f (depsOf ops i)).tmps g := by
        unfold yielded
        cases hgd' : (ops[g]?).bind (·.dst) with
        | none => rfl
        | some d =>
          have hgd'' : dstOf ops g = some d := hgd'
          have hs := (dst_lt hfit hgd'').1
          have e := key d fun j hj => by rw [dst_inj hfit hj hgd'']; exact .inr (.inl hgm)
          have s1 : d < a.tmps.size := by rw [h.size]; exact hs
          have s2 : d < (putList ops a0 f (depsOf ops i)).tmps.size := by rw [putList_size]; exact hs
          simp only [Array.getD, s1, s2, dif_pos] at e
          simp only [Option.bind_some, Array.getElem?_eq_getElem s1, Array.getElem?_eq_getElem s2]
          have e' : a.tmps[d] = (putList ops a0 f (depsOf ops i)).tmps[d] := e
          rw [e']
      simp only [this]

theorem Sofar.next {listed : Array Bool} {f : Nat → Value} {a : Act} {w w' : World} {v : Value} (h : Sofar ops a0 R1 R2 s Φ listed f a w) (hfit : regionFits ops a0.tmps.size m = true)
    {i : Nat} {o : Oper} (ho : ops[i]? = some o) (hdeps : ∀ e ∈ depsOf ops i, listed.getD e false = true) (h1 : i ≠ s → listed.getD s false = false → R1 w') (h2 : R2 w')
    (hpres : ∀ j u, j ≠ i → Φ j w u → Φ j w' u) (hv : Φ i w' v) :
    Sofar ops a0 R1 R2 s Φ (listed.setIfInBounds i true) (fun j => if j = i then v else f j) (a.put o.dst v) w' := by
  have hil : i < listed.size := by rw [h.len]; exact (Array.getElem?_eq_some_iff.1 ho).1
  have hset : ∀ j, (listed.setIfInBounds i true).getD j false = true ↔ j = i ∨ listed.getD j false = true := by
    intro j
    by_cases e : j = i
    · subst e; simp [Array.getD, hil]
    · simp only [e, false_or]
      rw [getD_set_ne false (fun x => e x.symm)]
  have hdo : dstOf ops i = o.dst := by simp [dstOf, ho]
  refine ⟨by simp [h.len], ?_, ?_, ?_, ?_, ?_, ?_, h2, ?_⟩
  · unfold Act.put; split <;> simp [h.size]
  · unfold Act.put; split <;> simp [h.defers]
  · intro j d hj hd
    by_cases e : j = i
    · subst e
      rw [hdo] at hd
      rw [hd, if_pos rfl]
      exact put_getD (by rw [h.size]; exact (dst_lt hfit (by rw [hdo]; exact hd)).1)
    · rw [if_neg e]
      have hj' := ((hset j).1 hj).resolve_left e
      rw [← h.val j d hj' hd]
      unfold Act.put
      cases hdd : o.dst with
      | none => rfl
      | some d' =>
        have hne : d' ≠ d := fun x => e (dst_inj hfit hd (by rw [hdo, hdd, x]))
        simp [Array.getD_eq_getD_getElem?, Array.getElem?_setIfInBounds_ne hne]
  · intro t ht
    rw [← h.old t fun j hj => ht j ((hset j).2 (.inr hj))]
    have hi := ht i ((hset i).2 (.inl rfl))
    rw [hdo] at hi
    unfold Act.put
    cases hdd : o.dst with
    | none => rfl
    | some d' =>
      have hne : d' ≠ t := fun x => hi (by rw [hdd, x])
      simp [Array.getD_eq_getD_getElem?, Array.getElem?_setIfInBounds_ne hne]
  · intro j hj
    by_cases e : j = i
    · subst e; simpa using hv
    · simp only [if_neg e]
      exact hpres _ _ e (h.holds j (((hset j).1 hj).resolve_left e))
  · intro hs
    have hne : i ≠ s := fun e => by rw [(hset s).2 (.inl e.symm)] at hs; simp at hs
    refine h1 hne ?_
    cases hl : listed.getD s false with
    | false => rfl
    | true => rw [(hset s).2 (.inr hl)] at hs; simp at hs
  · intro j hj e he
    rcases (hset j).1 hj with x | x
    · subst x; exact (hset e).2 (.inr (hdeps e he))
    · exact (hset e).2 (.inr (h.closed j x e he))

theorem Sofar.full {listed : Array Bool} {f : Nat → Value} {a : Act} {w : World} (h : Sofar ops a0 R1 R2 s Φ listed f a w) (hfit : regionFits ops a0.tmps.size m = true) {k : Nat} (hk : ∀ j, listed.getD j false = true ↔ j < k) :
    a = putList ops a0 f (List.range k) := by
  obtain ⟨tm, df⟩ := a
  have e1 : df = (putList ops a0 f (List.range k)).defers := by rw [putList_defers]; exact h.defers
  have e2 : tm = (putList ops a0 f (List.range k)).tmps := by
    apply Array.ext
    · rw [putList_size]; exact h.size
    · intro t h1 h2
      have key : tm.getD t undef = (putList ops a0 f (List.range k)).tmps.getD t undef := by
        by_cases hx : ∃ j, j < k ∧ dstOf ops j = some t
        · obtain ⟨j, hj, hjd⟩ := hx
          rw [h.val j t ((hk j).2 hj) hjd]
          exact (putList_at (by simpa using hj) hjd (dst_lt hfit hjd).1 fun i _ hi => dst_inj hfit hi hjd).symm
        · rw [h.old t fun j hj hjd => hx ⟨j, (hk j).1 hj, hjd⟩, putList_other fun j hj hjd => hx ⟨j, by simpa using hj, hjd⟩]
      simpa [Array.getD, h1, h2] using key
  rw [e1, e2]

theorem reach_listed {listed : Array Bool} (hc : ∀ j, listed.getD j false = true → ∀ e ∈ depsOf ops j, listed.getD e false = true) {i : Nat} (hd : ∀ e ∈ depsOf ops i, listed.getD e false = true) :
    ∀ e ∈ reachAt ops i, listed.getD e false = true := by
  unfold reachAt
  generalize (List.range i).reverse = l
  have key : ∀ (l : List Nat) (s : List Nat), (∀ e ∈ s, listed.getD e false = true) → ∀ e ∈ l.foldl (fun s j => if s.contains j then depsOf ops j ++ s else s) s, listed.getD e false = true := by
    intro l
    induction l with
    | nil => intro s hs; exact hs
    | cons j l ih =>
      intro s hs
      simp only [List.foldl_cons]
      apply ih
      split
      · rename_i hj
        intro e he
        rcases List.mem_append.1 he with h | h
        · exact hc j (hs j (by simpa using hj)) e h
        · exact hs e h
      · exact hs
  exact key l _ hd

theorem ready_tail (hfit : regionFits ops a0.tmps.size m = true) {listed : Array Bool} (hc : ∀ j, listed.getD j false = true → ∀ e ∈ depsOf ops j, listed.getD e false = true) {i : Nat} (hi : i ∈ Region.ready .any ops listed) (hm : m ≤ i) :
    ∀ j, j < i → listed.getD j false = true := by
  obtain ⟨_, o, ho, hd⟩ := ready_of hi
  unfold regionFits at hfit
  rw [Bool.and_eq_true, List.all_eq_true, List.all_eq_true] at hfit
  have h := hfit.2 i (by simp; exact (Array.getElem?_eq_some_iff.1 ho).1)
  simp only [Bool.or_eq_true, decide_eq_true_eq, List.all_eq_true, List.mem_range, List.contains_iff_mem] at h
  intro j hj
  exact reach_listed hc hd j ((h.resolve_left (by omega)) j hj)

/-- from the tail on there is one order -/
theorem any_tail (hfit : regionFits ops a0.tmps.size m = true) {Q : Exit → Act → World → Prop} : ∀ (fuel k : Nat) (listed : Array Bool) (a : Act) (w : World), ops.size - k ≤ fuel → m ≤ k → listed.size = ops.size →
    (∀ j, listed.getD j false = true ↔ j < k) → k ≤ ops.size → wpOps P ops Q (List.range' k (ops.size - k)) a w → wpAny P .any ops Q fuel listed a w := by
  intro fuel
  have closed : ∀ (k : Nat) (listed : Array Bool), (∀ j, listed.getD j false = true ↔ j < k) → k ≤ ops.size → ∀ j, listed.getD j false = true → ∀ e ∈ depsOf ops j, listed.getD e false = true := by
    intro k listed hk hks j hj e he
    have hjk := (hk j).1 hj
    have ho : ops[j]? = some (ops[j]'(by omega)) := Array.getElem?_eq_getElem (by omega)
    have hf := fits_at hfit ho
    unfold opFits at hf
    simp only [Bool.and_eq_true] at hf
    have := List.all_eq_true.1 hf.1.1.1.2 e he
    simp only [decide_eq_true_eq] at this
    exact (hk e).2 (by omega)
  have rdy : ∀ (k : Nat) (listed : Array Bool), (∀ j, listed.getD j false = true ↔ j < k) → k ≤ ops.size → m ≤ k → listed.size = ops.size → ∀ i ∈ Region.ready .any ops listed, i = k := by
    intro k listed hk hks hm hl i hi
    obtain ⟨h0, o, ho, hd⟩ := ready_of hi
    have h1 := unlisted_false h0
    have hik : k ≤ i := by
      rcases Nat.lt_or_ge i k with h | h
      · rw [(hk i).2 h] at h1; simp at h1
      · exact h
    have := ready_tail hfit (closed k listed hk hks) hi (by omega)
    rcases Nat.lt_or_ge k i with h | h
    · exact absurd ((hk k).1 (this k h)) (by omega)
    · omega
  induction fuel with
  | zero =>
    intro k listed a w hf hm hl hk hks h
    have e : ops.size - k = 0 := by omega
    rw [e] at h
    refine ⟨?_, h⟩
    apply List.eq_nil_iff_forall_not_mem.2
    intro i hi
    have hik := rdy k listed hk hks hm hl i hi
    obtain ⟨_, o, ho, _⟩ := ready_of hi
    have := (Array.getElem?_eq_some_iff.1 ho).1
    omega
  | succ fuel ih =>
    intro k listed a w hf hm hl hk hks h
    refine ⟨fun h0 => ?_, fun i hi => ?_⟩
    · -- nothing is ready: the end
      have e : k = ops.size := by
        rcases Nat.lt_or_ge k ops.size with hlt | hge
        · have : k ∈ Region.ready .any ops listed := by
            apply mem_ready.2
            have ho : ops[k]? = some (ops[k]'hlt) := Array.getElem?_eq_getElem hlt
            refine ⟨?_, _, ho, fun e he hb => ?_⟩
            · have h1 : ¬ listed.getD k false = true := fun x => absurd ((hk k).1 x) (by omega)
              have hkl : k < listed.size := by omega
              simpa [Array.getD, hkl] using h1
            · have hf := fits_at hfit ho
              unfold opFits at hf
              simp only [Bool.and_eq_true] at hf
              have hm' : e.on ∈ depsOf ops k := by
                unfold depsOf; rw [ho]
                exact List.mem_map.2 ⟨e, List.mem_filter.2 ⟨by simpa using he, hb⟩, rfl⟩
              have := List.all_eq_true.1 hf.1.1.1.2 _ hm'
              simp only [decide_eq_true_eq] at this
              exact (hk _).2 this
          rw [h0] at this; simp at this
        · omega
      rw [e, Nat.sub_self] at h
      exact h
    · have hik := rdy k listed hk hks hm hl i hi
      subst hik
      obtain ⟨_, o, ho, _⟩ := ready_of hi
      have hlt := (Array.getElem?_eq_some_iff.1 ho).1
      have e : ops.size - i = (ops.size - (i + 1)) + 1 := by omega
      rw [e, List.range'_succ, wpOps_cons] at h
      refine wpOp_mono (fun a w h => ih (i + 1) _ a w (by omega) (by omega) (by simpa using hl) (fun j => ?_) (by omega) h) h
      by_cases x : j = i
      · subst x; simp [Array.getD, hl, hlt]
      · rw [getD_set_ne false (fun y => x y.symm), hk j]
        omega

theorem wpOps_tail {Q : Exit → Act → World → Prop} {a : Act} {w : World} {k : Nat} (h : wpList P ops Q (ops.toList.drop k) a w) : wpOps P ops Q (List.range' k (ops.size - k)) a w := by
  have e := wpOps_eq_wpList (P := P) (ops := ops) (Q := Q) (ops.toList.drop k) k (fun j => by rw [List.getElem?_drop]; simp)
  rw [List.length_drop, Array.length_toList] at e
  rw [e]; exact h

def unlistedCount (listed : Array Bool) (n : Nat) : Nat := (List.range n).countP fun j => listed.getD j false = false

theorem unlisted_set {listed : Array Bool} {n i : Nat} (hi : i < n) (hl : listed.size = n) (hu : listed.getD i false = false) : unlistedCount (listed.setIfInBounds i true) n + 1 ≤ unlistedCount listed n := by
  have key : ∀ (l : List Nat), l.Nodup → (l.countP fun j => (listed.setIfInBounds i true).getD j false = false) + (if i ∈ l then 1 else 0) = l.countP fun j => listed.getD j false = false := by
    intro l
    induction l with
    | nil => intro _; simp
    | cons x l ih =>
      intro hn
      rw [List.nodup_cons] at hn
      have ih := ih hn.2
      by_cases e : x = i
      · subst e
        have h1 : (listed.setIfInBounds x true).getD x false = true := by simp [Array.getD, hl, hi]
        rw [List.countP_cons, List.countP_cons, h1, hu, if_neg hn.1] at *
        simp at ih ⊢
        omega
      · have h1 : (listed.setIfInBounds i true).getD x false = listed.getD x false := getD_set_ne false (fun y => e y.symm)
        rw [List.countP_cons, List.countP_cons, h1]
        have : (i ∈ x :: l) ↔ i ∈ l := by rw [List.mem_cons]; exact ⟨fun h => h.resolve_left fun y => e y.symm, .inr⟩
        simp only [this]
        omega
  have := key (List.range n) List.nodup_range
  rw [if_pos (by simpa using hi)] at this
  unfold unlistedCount
  omega

/-- THE RULE: what each operation gives in whatever world extends the first, told by predicates that last; one operation (s) may write; then the tail, in the text's order. -/
theorem wp_region_inv {id : Nat} {Q : Exit → Act → World → Prop} {w : World} (s : Nat) (n : Nat) (hm : P.follows .mixedOrders = true) (hsz : ops.size = n) (hmn : m ≤ n) (hfit : regionFits ops a0.tmps.size m = true)
    (h0 : R1 w.drew) (h12 : ∀ w, R1 w → R2 w) (hS1 : ∀ w w', R1 w → S w w' → R1 w') (hS2 : ∀ w w', R2 w → S w w' → R2 w') (hmono : ∀ j w w' v, S w w' → Φ j w v → Φ j w' v)
    (hop : ∀ i, i < m → i ≠ s → ∀ o, ops[i]? = some o → ∀ (f : Nat → Value) (w' : World), R2 w' → (∀ j ∈ depsOf ops i, Φ j w' (f j)) →
      (if Region.wanted o (yielded ops (putList ops a0 f (depsOf ops i)).tmps) then Oper.gives P o (putList ops a0 f (depsOf ops i)) w' (fun v w'' => S w' w'' ∧ Φ i w'' v) else Φ i w' undef))
    (hsp : s < m → ∀ o, ops[s]? = some o → ∀ (f : Nat → Value) (w' : World), R1 w' → (∀ j ∈ depsOf ops s, Φ j w' (f j)) →
      (if Region.wanted o (yielded ops (putList ops a0 f (depsOf ops s)).tmps) then Oper.gives P o (putList ops a0 f (depsOf ops s)) w' (fun v w'' => R2 w'' ∧ Φ s w'' v ∧ ∀ j u, j ≠ s → Φ j w' u → Φ j w'' u) else Φ s w' undef))
    (hend : ∀ (f : Nat → Value) (w' : World), R2 w' → (∀ j, j < m → Φ j w' (f j)) → wpList P ops Q (ops.toList.drop m) (putList ops a0 f (List.range m)) w') :
    (Code.region id ops true).wp P Q a0 w := by
  apply wp_region_any hm
  have main : ∀ (fuel : Nat) (listed : Array Bool) (f : Nat → Value) (a : Act) (w' : World), unlistedCount listed ops.size ≤ fuel → (∀ j, m ≤ j → listed.getD j false = false) → Sofar ops a0 R1 R2 s Φ listed f a w' →
      wpAny P .any ops Q fuel listed a w' := by
    intro fuel
    induction fuel with
    | zero =>
      intro listed f a w' hc ht h
      have hall : ∀ j, j < ops.size → listed.getD j false = true := by
        intro j hj
        have h0 : unlistedCount listed ops.size = 0 := by omega
        unfold unlistedCount at h0
        rw [List.countP_eq_zero] at h0
        have := h0 j (by simpa using hj)
        simpa using this
      have hms : m = ops.size := by
        rcases Nat.lt_or_ge m ops.size with hlt | hge
        · have h1 := hall m hlt; rw [ht m (Nat.le_refl _)] at h1; simp at h1
        · omega
      have hk : ∀ j, listed.getD j false = true ↔ j < m := by
        intro j
        constructor
        · intro hj
          rcases Nat.lt_or_ge j m with hlt | hge
          · exact hlt
          · rw [ht j hge] at hj; simp at hj
        · intro hj; exact hall j (by omega)
      have e := h.full hfit hk
      refine any_tail hfit 0 m listed a w' (by omega) (Nat.le_refl _) h.len hk (by omega) (wpOps_tail ?_)
      rw [e]
      exact hend f w' h.two fun j hj => h.holds j ((hk j).2 hj)
    | succ fuel ih =>
      intro listed f a w' hc ht h
      have stepTail : (∀ j, j < m → listed.getD j false = true) → wpAny P .any ops Q (fuel + 1) listed a w' := by
        intro hall
        have hk : ∀ j, listed.getD j false = true ↔ j < m := by
          intro j
          constructor
          · intro hj
            rcases Nat.lt_or_ge j m with hlt | hge
            · exact hlt
            · rw [ht j hge] at hj; simp at hj
          · intro hj; exact hall j hj
        have e := h.full hfit hk
        have hcount : ops.size - m ≤ unlistedCount listed ops.size := by
          unfold unlistedCount
          have : List.range ops.size = List.range m ++ List.range' m (ops.size - m) := by
            have h1 := @List.range'_append_1 0 m (ops.size - m)
            rw [Nat.zero_add, show m + (ops.size - m) = ops.size from by omega] at h1
            rw [List.range_eq_range', List.range_eq_range', h1]
          rw [this, List.countP_append]
          have : (List.range' m (ops.size - m)).countP (fun j => decide (listed.getD j false = false)) = (List.range' m (ops.size - m)).length := by
            rw [List.countP_eq_length]
            intro j hj
            rw [List.mem_range'_1] at hj
            simp only [decide_eq_true_eq]
            exact ht j hj.1
          rw [this, List.length_range']
          omega
        refine any_tail hfit (fuel + 1) m listed a w' (by omega) (Nat.le_refl _) h.len hk (by omega) (wpOps_tail ?_)
        rw [e]
        exact hend f w' h.two fun j hj => h.holds j ((hk j).2 hj)
      by_cases hall : ∀ j, j < m → listed.getD j false = true
      · exact stepTail hall
      · have hfree : ∀ i ∈ Region.ready .any ops listed, i < m := by
          intro i hi
          rcases Nat.lt_or_ge i m with hlt | hge
          · exact hlt
          · exact absurd (fun j hj => ready_tail hfit h.closed hi hge j (by omega)) hall
        refine ⟨fun h0 => ?_, fun i hi => ?_⟩
        · -- the least one that is not listed is ready
          exfalso
          apply hall
          intro j
          induction j using Nat.strongRecOn with
          | _ j ihj =>
            intro hj
            cases hl : listed.getD j false with
            | true => rfl
            | false =>
              exfalso
              have hjs : j < ops.size := by omega
              have ho : ops[j]? = some (ops[j]'hjs) := Array.getElem?_eq_getElem hjs
              have : j ∈ Region.ready .any ops listed := by
                apply mem_ready.2
                refine ⟨?_, _, ho, fun e he hb => ?_⟩
                · have hjl : j < listed.size := by rw [h.len]; exact hjs
                  simpa [Array.getD, hjl] using hl
                · have hf := fits_at hfit ho
                  unfold opFits at hf
                  simp only [Bool.and_eq_true] at hf
                  have hm' : e.on ∈ depsOf ops j := by
                    unfold depsOf; rw [ho]
                    exact List.mem_map.2 ⟨e, List.mem_filter.2 ⟨by simpa using he, hb⟩, rfl⟩
                  have := List.all_eq_true.1 hf.1.1.1.2 _ hm'
                  simp only [decide_eq_true_eq] at this
                  exact ihj _ this (by omega)
              rw [h0] at this; simp at this
        · obtain ⟨h0, o, ho, hd⟩ := ready_of hi
          have hun := unlisted_false h0
          have him := hfree i hi
          have hlt := (Array.getElem?_eq_some_iff.1 ho).1
          obtain ⟨he, hw⟩ := h.eval hfit ho hun hd
          have hcnt := unlisted_set hlt h.len hun
          by_cases his : i = s
          · subst his
            have hg := hsp him o ho f w' (h.one hun) fun j hj => h.holds j (hd j hj)
            unfold wpOp
            simp only [ho]
            rw [hw]
            by_cases hwt : Region.wanted o (yielded ops (putList ops a0 f (depsOf ops i)).tmps) = true
            · rw [if_pos hwt] at hg ⊢
              exact .inl (wp_of_gives he (gives_mono hg fun v w'' ⟨hr, hv, hp⟩ => ih _ _ _ _ (by omega) (fun j hj => by rw [getD_set_ne false (by omega)]; exact ht j hj) (h.next hfit ho hd (fun x => absurd rfl x) hr hp hv)))
            · rw [if_neg hwt] at hg ⊢
              exact ih _ _ _ _ (by omega) (fun j hj => by rw [getD_set_ne false (by omega)]; exact ht j hj) (h.next hfit ho hd (fun x => absurd rfl x) h.two (fun _ _ _ x => x) hg)
          · have hg := hop i him his o ho f w' h.two fun j hj => h.holds j (hd j hj)
            unfold wpOp
            simp only [ho]
            rw [hw]
            by_cases hwt : Region.wanted o (yielded ops (putList ops a0 f (depsOf ops i)).tmps) = true
            · rw [if_pos hwt] at hg ⊢
              exact .inl (wp_of_gives he (gives_mono hg fun v w'' ⟨hr, hv⟩ => ih _ _ _ _ (by omega) (fun j hj => by rw [getD_set_ne false (by omega)]; exact ht j hj)
                (h.next hfit ho hd (fun _ hl => hS1 _ _ (h.one hl) hr) (hS2 _ _ h.two hr) (fun j u _ x => hmono j _ _ u hr x) hv)))
            · rw [if_neg hwt] at hg ⊢
              exact ih _ _ _ _ (by omega) (fun j hj => by rw [getD_set_ne false (by omega)]; exact ht j hj) (h.next hfit ho hd (fun _ hl => h.one hl) h.two (fun _ _ _ x => x) hg)
  refine main ops.size _ (fun _ => undef) a0 w.drew ?_ ?_ ⟨by simp, rfl, rfl, ?_, fun _ _ => rfl, ?_, fun _ => h0, h12 _ h0, ?_⟩
  · unfold unlistedCount
    exact Nat.le_trans List.countP_le_length (by simp)
  · intro j _; simp [Array.getD]
  · intro j d hj; simp [Array.getD] at hj
  · intro j hj; simp [Array.getD] at hj
  · intro j hj; simp [Array.getD] at hj
end
end Go.Proofs.Ytcandeobhlfkbaa.Iv
/-
  The rule for drawn regions in the form in which it is used: what is known of each operation's value stands in one list.
-/


namespace Go.Proofs.Ytcandeobhlfkbaa.Iv
open Go.RowKit

/-- the world has grown, nothing that was there has turned -/
abbrev Ext (w w' : World) : Prop := Below w.heap.size w w'
theorem Ext.refl (w : World) : Ext w w := Below.refl _ _
theorem Ext.trans {a b c : World} (h : Ext a b) (k : Ext b c) : Ext a c := Below.trans h (k.mono h.size)
theorem Ext.drew {a b : World} (h : Ext a.drew b) : Ext a b := ⟨h.os, h.tape, h.output, h.size, h.block⟩

theorem Ext.alloc (w : World) (o : Obj) : Ext w (w.alloc o) := (Below.refl _ _).alloc (Nat.le_refl _) _
theorem Ext.cell' {w w' : World} (h : Ext w w') {p : Addr} (hp : p.block < w.heap.size) : w'.cell? p = w.cell? p := Below.cell h hp
theorem Ext.frozen {w w' : World} (h : Ext w w') {p : Addr} {v : Value} (hc : w.cell? p = some v) (hf : w.frozen? p = false) : w'.frozen? p = false := by
  rw [Below.frozen h (World.block_lt_of_cell? w _ hc)]; exact hf
theorem Ext.set {w w' : World} (h : Ext w w') {p : Addr} (hp : w.heap.size ≤ p.block) (u : Value) : Ext w (w'.setCell p u) := Below.setCell h hp u
theorem Ext.cell {w w' : World} (h : Ext w w') {p : Addr} {v : Value} (hc : w.cell? p = some v) : w'.cell? p = some v := by
  rw [Below.cell h (World.block_lt_of_cell? w _ hc)]; exact hc

theorem set_same {w : World} {p : Addr} {u v : Value} (h : w.cell? p = some u) : (w.setCell p v).cell? p = some v := World.cell?_setCell_same _ _ _ h
theorem set_other {w : World} {p q : Addr} {v x : Value} (h : w.cell? q = some x) (hne : p ≠ q) : (w.setCell p v).cell? q = some x := by rw [World.cell?_setCell_other _ _ _ _ hne]; exact h

/-- what is known of a value; it lasts as the world grows -/
structure Know where
  p : World → Value → Prop
  mono : ∀ w w' v, Ext w w' → p w v → p w' v

def Is (x : Value) : Know := ⟨fun _ v => v = x, fun _ _ _ _ h => h⟩
def Any : Know := ⟨fun _ _ => True, fun _ _ _ _ h => h⟩
def phi (Ks : List Know) (j : Nat) (w : World) (v : Value) : Prop := (Ks.getD j Any).p w v
theorem phi_mono (Ks : List Know) (j : Nat) (w w' : World) (v : Value) (h : Ext w w') (hv : phi Ks j w v) : phi Ks j w' v := (Ks.getD j Any).mono w w' v h hv

/-- the world has grown, nothing that was there has turned but for the blocks of L -/
structure ExtL (L : List Nat) (w w' : World) : Prop where
  os : w'.os = w.os
  tape : w'.tape = w.tape
  output : w'.output = w.output
  size : w.heap.size ≤ w'.heap.size
  block : ∀ k, k < w.heap.size → k ∉ L → w'.heap[k]? = w.heap[k]?
theorem Ext.extL {L : List Nat} {w w' : World} (h : Ext w w') : ExtL L w w' := ⟨h.os, h.tape, h.output, h.size, fun k hk _ => h.block k hk⟩
theorem ExtL.of_grown {L : List Nat} {w w' : World} {row : Option Nat} (h : w.grownBy w' row) (hr : ∀ k, row = some k → k ∈ L) : ExtL L w w' :=
  ⟨h.os, h.tape, h.output, h.size, fun k hk hn => h.block k hk fun e => hn (hr k e.symm)⟩
theorem ExtL.refl (L : List Nat) (w : World) : ExtL L w w := ⟨rfl, rfl, rfl, Nat.le_refl _, fun _ _ _ => rfl⟩
theorem ExtL.trans {L : List Nat} {a b c : World} (h : ExtL L a b) (k : ExtL L b c) : ExtL L a c :=
  ⟨k.os.trans h.os, k.tape.trans h.tape, k.output.trans h.output, Nat.le_trans h.size k.size, fun i hi hn => (k.block i (Nat.lt_of_lt_of_le hi h.size) hn).trans (h.block i hi hn)⟩
theorem ExtL.set {L : List Nat} {w w' : World} (h : ExtL L w w') {p : Addr} (hp : p.block ∈ L) (u : Value) : ExtL L w (w'.setCell p u) :=
  h.trans ⟨rfl, rfl, rfl, by simp [World.setCell], fun k _ hn => Below.heap_setCell _ _ _ _ fun e => hn (e ▸ hp)⟩
theorem ExtL.cell {L : List Nat} {w w' : World} (h : ExtL L w w') {p : Addr} (hp : p.block ∉ L) {v : Value} (hc : w.cell? p = some v) : w'.cell? p = some v := by
  rw [World.cell?_of_block (w := w) (h.block p.block (World.block_lt_of_cell? w _ hc) hp)]; exact hc
/-- this knowledge does not hang on the blocks of L -/
def Far (L : List Nat) (K : Know) : Prop := ∀ w w' v, ExtL L w w' → K.p w v → K.p w' v
theorem far_is {L : List Nat} {x : Value} : Far L (Is x) := fun _ _ _ _ h => h
def FarAll (L : List Nat) (s : Nat) : Nat → List Know → Prop
  | _, [] => True
  | i, K :: l => (i ≠ s → Far L K) ∧ FarAll L s (i + 1) l
theorem far_nil {L : List Nat} {s i : Nat} : FarAll L s i [] := trivial
theorem far_cons {L : List Nat} {s i : Nat} {K : Know} {l : List Know} (h : Far L K) (hl : FarAll L s (i + 1) l) : FarAll L s i (K :: l) := ⟨fun _ => h, hl⟩
theorem far_self {L : List Nat} {s : Nat} {K : Know} {l : List Know} (hl : FarAll L s (s + 1) l) : FarAll L s s (K :: l) := ⟨fun h => absurd rfl h, hl⟩
theorem far_at {L : List Nat} {s : Nat} : ∀ {l : List Know} {i k : Nat}, FarAll L s i l → i + k ≠ s → ∀ w w' v, ExtL L w w' → phi l k w v → phi l k w' v
  | [], _, _, _, _, _, _, _, _, _ => trivial
  | K :: l, i, 0, h, hne, w, w', v, he, hv => h.1 hne w w' v he hv
  | K :: l, i, k + 1, h, hne, w, w', v, he, hv => far_at (l := l) (i := i + 1) (k := k) h.2 (by omega) w w' v he hv

def depsL : List Edge → List Nat
  | [] => []
  | e :: l => if Region.binds .any e then e.on :: depsL l else depsL l
def depsO (o : Oper) : List Nat := depsL o.after.toList
def putD (ds : List (Option Tmp)) (a0 : Act) (f : Nat → Value) : List Nat → Act
  | [] => a0
  | j :: l => (putD ds a0 f l).put (ds.getD j none) (f j)
def wantD (ds : List (Option Tmp)) (o : Oper) (tmps : Array Value) : Bool :=
  match o.guard with
  | none => true
  | some (g, want) => match (ds.getD g none).bind (tmps[·]?) with | some (.bool b) => b == want | _ => false

def KnowAll (Ks : List Know) (f : Nat → Value) (w : World) : List Nat → Prop
  | [] => True
  | j :: l => phi Ks j w (f j) ∧ KnowAll Ks f w l

def OpGoal (P : Program) (ds : List (Option Tmp)) (a0 : Act) (R2 : World → Prop) (Ks : List Know) (s i : Nat) (o : Oper) : Prop :=
  i ≠ s → ∀ (f : Nat → Value) (w' : World), R2 w' → KnowAll Ks f w' (depsO o) →
    (wantD ds o (putD ds a0 f (depsO o)).tmps = true ∧ Oper.gives P o (putD ds a0 f (depsO o)) w' (fun v w'' => Ext w' w'' ∧ phi Ks i w'' v)) ∨ (wantD ds o (putD ds a0 f (depsO o)).tmps = false ∧ phi Ks i w' undef)

def AllOps (Γ : Nat → Oper → Prop) : Nat → List Oper → Prop
  | _, [] => True
  | i, o :: l => Γ i o ∧ AllOps Γ (i + 1) l
theorem allOps_cons {Γ : Nat → Oper → Prop} {i : Nat} {o : Oper} {l : List Oper} (h : Γ i o) (hl : AllOps Γ (i + 1) l) : AllOps Γ i (o :: l) := ⟨h, hl⟩
theorem allOps_nil {Γ : Nat → Oper → Prop} {i : Nat} : AllOps Γ i [] := trivial
theorem allOps_at {Γ : Nat → Oper → Prop} : ∀ {l : List Oper} {i k : Nat} {o : Oper}, AllOps Γ i l → l[k]? = some o → Γ (i + k) o
  | [], _, _, _, _, h => by simp at h
  | x :: l, i, 0, o, h, e => by simp at e; subst e; exact h.1
  | x :: l, i, k + 1, o, h, e => by
    have := allOps_at (k := k) h.2 (by simpa using e)
    rw [show i + (k + 1) = i + 1 + k from by omega]; exact this

theorem depsOf_eq {ops : Array Oper} {i : Nat} {o : Oper} (h : ops[i]? = some o) : depsOf ops i = depsO o := by
  unfold depsOf depsO; rw [h]
  show (o.after.toList.filter (Region.binds .any)).map (·.on) = depsL o.after.toList
  generalize o.after.toList = l
  induction l with
  | nil => rfl
  | cons e l ih =>
    simp only [List.filter_cons, depsL]
    split <;> simp_all
theorem dstOf_eq {ops : Array Oper} {ds : List (Option Tmp)} (h : ops.toList.map (·.dst) = ds) (j : Nat) : dstOf ops j = ds.getD j none := by
  subst h
  unfold dstOf
  cases hj : ops[j]? with
  | none => simp [List.getD, hj]
  | some o => simp [List.getD, hj]
theorem putD_eq {ops : Array Oper} {ds : List (Option Tmp)} (h : ops.toList.map (·.dst) = ds) (a0 : Act) (f : Nat → Value) (l : List Nat) : putList ops a0 f l = putD ds a0 f l := by
  induction l with
  | nil => rfl
  | cons j l ih => unfold putList putD; rw [ih, dstOf_eq h]
theorem wantD_eq {ops : Array Oper} {ds : List (Option Tmp)} (h : ops.toList.map (·.dst) = ds) (o : Oper) (tmps : Array Value) : Region.wanted o (yielded ops tmps) = wantD ds o tmps := by
  unfold Region.wanted wantD
  cases o.guard with
  | none => rfl
  | some g =>
    obtain ⟨g, want⟩ := g
    simp only [yielded]
    rw [← dstOf_eq h g]
    show ((match (dstOf ops g).bind (tmps[·]?) with | some (.bool b) => some b | _ => none) == some want) = _
    cases (dstOf ops g).bind (tmps[·]?) with
    | none => rfl
    | some v => cases v <;> rfl
theorem knowAll_iff {Ks : List Know} {f : Nat → Value} {w : World} : ∀ {l : List Nat}, (∀ j ∈ l, phi Ks j w (f j)) ↔ KnowAll Ks f w l
  | [] => by simp [KnowAll]
  | j :: l => by
    unfold KnowAll
    rw [← knowAll_iff (l := l)]
    simp

section
variable {P : Program} {ops : Array Oper} {a0 : Act}

/-- A region whose operations read, call and make memory, and then a tail. -/
theorem wp_region_ext {id : Nat} {Q : Exit → Act → World → Prop} {w : World} (ds : List (Option Tmp)) (n m : Nat) (Ks : List Know) (hm : P.follows .mixedOrders = true) (hds : ops.toList.map (·.dst) = ds) (hsz : ops.size = n) (hmn : m ≤ n)
    (hfit : regionFits ops a0.tmps.size m = true)
    (hop : AllOps (OpGoal P ds a0 (Ext w) Ks n) 0 (ops.toList.take m))
    (hend : ∀ (f : Nat → Value) (w' : World), Ext w w' → KnowAll Ks f w' (List.range m) → wpList P ops Q (ops.toList.drop m) (putD ds a0 f (List.range m)) w') :
    (Code.region id ops true).wp P Q a0 w := by
  refine wp_region_inv (R1 := Ext w) (R2 := Ext w) (S := Ext) (Φ := phi Ks) (m := m) n n hm hsz hmn hfit (bl_refl_drew w) (fun _ h => h) (fun _ _ h k => h.trans k) (fun _ _ h k => h.trans k) (phi_mono Ks) ?_ ?_ ?_
  · intro i hi hne o ho f w' hr hd
    have hg := allOps_at (k := i) hop (by rw [List.getElem?_take, if_pos hi]; simpa using ho)
    rw [Nat.zero_add] at hg
    rw [depsOf_eq ho] at hd ⊢
    rw [putD_eq hds, wantD_eq hds]
    rcases hg hne f w' hr (knowAll_iff.1 hd) with ⟨h1, h2⟩ | ⟨h1, h2⟩
    · rw [if_pos h1]; exact h2
    · rw [if_neg (by rw [h1]; decide)]; exact h2
  · intro h; omega
  · intro f w' hr hd
    rw [putD_eq hds]
    exact hend f w' hr (knowAll_iff.1 fun j hj => hd j (by simpa using hj))
where
  bl_refl_drew (w : World) : Ext w w.drew := (Below.refl _ _).drew

/-- a store into block V -/
theorem grown_set {w w' : World} {V : Nat} (h : w.grownBy w' (some V)) (i : Nat) (u : Value) : w.grownBy (w'.setCell ⟨V, i, none⟩ u) (some V) :=
  ⟨h.os, h.tape, h.output, by simpa [World.setCell] using h.size, fun k hk hne => (Below.heap_setCell _ _ _ _ (fun e => hne (by rw [e]))).trans (h.block k hk hne)⟩
theorem grown_refl (w : World) (r : Option Nat) : w.grownBy w r := ⟨rfl, rfl, rfl, Nat.le_refl _, fun _ _ _ => rfl⟩

/-- The same with one operation (number s) that writes one row of the call's own. -/
theorem wp_region_row {id : Nat} {Q : Exit → Act → World → Prop} {w : World} (s : Nat) (row : Option Nat) (L : List Nat) (ds : List (Option Tmp)) (n m : Nat) (Ks : List Know) (hm : P.follows .mixedOrders = true) (hds : ops.toList.map (·.dst) = ds) (hsz : ops.size = n) (hmn : m ≤ n)
    (hfit : regionFits ops a0.tmps.size m = true) (hrow : ∀ k, row = some k → k ∈ L)
    (hop : AllOps (OpGoal P ds a0 (ExtL L w) Ks s) 0 (ops.toList.take m))
    (hfar : FarAll L s 0 Ks)
    (hsp : ∀ (f : Nat → Value) (w' : World), Ext w w' → ∀ o, ops[s]? = some o → KnowAll Ks f w' (depsO o) →
      wantD ds o (putD ds a0 f (depsO o)).tmps = true ∧ Oper.gives P o (putD ds a0 f (depsO o)) w' (fun v w'' => w'.grownBy w'' row ∧ phi Ks s w'' v))
    (hend : ∀ (f : Nat → Value) (w' : World), ExtL L w w' → KnowAll Ks f w' (List.range m) → wpList P ops Q (ops.toList.drop m) (putD ds a0 f (List.range m)) w') :
    (Code.region id ops true).wp P Q a0 w := by
  refine wp_region_inv (R1 := Ext w) (R2 := ExtL L w) (S := Ext) (Φ := phi Ks) (m := m) s n hm hsz hmn hfit (Below.refl _ _).drew (fun _ h => h.extL)
    (fun _ _ h k => h.trans k) (fun a b h k => h.trans k.extL) (phi_mono Ks) ?_ ?_ ?_
  · intro i hi hne o ho f w' hr hd
    have hg := allOps_at (k := i) hop (by rw [List.getElem?_take, if_pos hi]; simpa using ho)
    rw [Nat.zero_add] at hg
    rw [depsOf_eq ho] at hd ⊢
    rw [putD_eq hds, wantD_eq hds]
    rcases hg hne f w' hr (knowAll_iff.1 hd) with ⟨h1, h2⟩ | ⟨h1, h2⟩
    · rw [if_pos h1]; exact h2
    · rw [if_neg (by rw [h1]; decide)]; exact h2
  · intro hs o ho f w' hr hd
    rw [depsOf_eq ho] at hd ⊢
    rw [putD_eq hds, wantD_eq hds]
    obtain ⟨h1, h2⟩ := hsp f w' hr o ho (knowAll_iff.1 hd)
    rw [if_pos h1]
    refine gives_mono h2 fun v w'' ⟨hg, hv⟩ => ⟨ExtL.trans hr.extL (ExtL.of_grown hg hrow), hv, fun j u hj hu => ?_⟩
    exact far_at (k := j) hfar (by omega) w' w'' u (ExtL.of_grown hg hrow) hu
  · intro f w' hr hd
    rw [putD_eq hds]
    exact hend f w' hr (knowAll_iff.1 fun j hj => hd j (by simpa using hj))
/-- the operation that writes, by its walk -/
theorem sp_plain {ds : List (Option Tmp)} {Ks : List Know} {s : Nat} {row : Option Nat} {f : Nat → Value} {w' : World} {o : Oper} {d : Tmp} {g : Option (Nat × Bool)} (hg : o.guard = none) (hd : o.dst = some d) (hs : d < a0.tmps.size) (_g : g = none)
    (h : KnowAll Ks f w' (depsO o) → wpList P #[] (OnePost d a0.defers.length (fun v w'' => w'.grownBy w'' row ∧ phi Ks s w'' v)) [o] (putD ds a0 f (depsO o)) w') (o' : Oper) (ho : some o = some o') (hk : KnowAll Ks f w' (depsO o')) :
    wantD ds o' (putD ds a0 f (depsO o')).tmps = true ∧ Oper.gives P o' (putD ds a0 f (depsO o')) w' (fun v w'' => w'.grownBy w'' row ∧ phi Ks s w'' v) := by
  obtain rfl : o = o' := by simpa using ho
  have h2 := h hk
  have hds : (putD ds a0 f (depsO o)).defers = a0.defers := by
    generalize depsO o = l
    induction l with
    | nil => rfl
    | cons j l ih => unfold putD Act.put; split <;> simp [ih]
  have hsz : (putD ds a0 f (depsO o)).tmps.size = a0.tmps.size := by
    generalize depsO o = l
    induction l with
    | nil => rfl
    | cons j l ih => unfold putD Act.put; split <;> simp [ih]
  rw [← hds] at h2
  have hw1 : wantD ds o (putD ds a0 f (depsO o)).tmps = true := by unfold wantD; rw [hg]
  have hw2 : Region.wanted o (yielded #[] (putD ds a0 f (depsO o)).tmps) = true := by unfold Region.wanted; rw [hg]
  exact ⟨hw1, gives_of_wpList hd (by rw [hsz]; exact hs) hw2 h2⟩

/-- the store, by its walk -/
theorem sp_store {ds : List (Option Tmp)} {Ks : List Know} {s : Nat} {row : Option Nat} {f : Nat → Value} {w' : World} {o : Oper} (hg : o.guard = none) (hd : o.dst = none) (hv : ∀ w v v', phi Ks s w v → phi Ks s w v')
    (h : KnowAll Ks f w' (depsO o) → wpList P #[] (NonePost a0.defers.length (fun w'' => w'.grownBy w'' row ∧ phi Ks s w'' undef)) [o] (putD ds a0 f (depsO o)) w') (o' : Oper) (ho : some o = some o') (hk : KnowAll Ks f w' (depsO o')) :
    wantD ds o' (putD ds a0 f (depsO o')).tmps = true ∧ Oper.gives P o' (putD ds a0 f (depsO o')) w' (fun v w'' => w'.grownBy w'' row ∧ phi Ks s w'' v) := by
  obtain rfl : o = o' := by simpa using ho
  have h2 := h hk
  have hds : (putD ds a0 f (depsO o)).defers = a0.defers := by
    generalize depsO o = l
    induction l with
    | nil => rfl
    | cons j l ih => unfold putD Act.put; split <;> simp [ih]
  rw [← hds] at h2
  have hw1 : wantD ds o (putD ds a0 f (depsO o)).tmps = true := by unfold wantD; rw [hg]
  have hw2 : Region.wanted o (yielded #[] (putD ds a0 f (depsO o)).tmps) = true := by unfold Region.wanted; rw [hg]
  exact ⟨hw1, gives_mono (gives_of_wpList0 hw2 hd h2) fun v w'' ⟨h1, h3⟩ => ⟨h1, hv _ _ _ h3⟩⟩

theorem wanted_of_D {ops : Array Oper} {ds : List (Option Tmp)} {o : Oper} (tmps : Array Value) (hg : o.guard = none) : Region.wanted o (yielded ops tmps) = true ∧ wantD ds o tmps = true := by
  unfold Region.wanted wantD; rw [hg]; exact ⟨rfl, rfl⟩
theorem putD_size (ds : List (Option Tmp)) (a0 : Act) (f : Nat → Value) (l : List Nat) : (putD ds a0 f l).tmps.size = a0.tmps.size := by
  induction l with
  | nil => rfl
  | cons j l ih => unfold putD Act.put; split <;> simp [ih]
theorem putD_defers (ds : List (Option Tmp)) (a0 : Act) (f : Nat → Value) (l : List Nat) : (putD ds a0 f l).defers = a0.defers := by
  induction l with
  | nil => rfl
  | cons j l ih => unfold putD Act.put; split <;> simp [ih]
/-- an operation without a guard, by its walk -/
theorem opGoal_plain {ds : List (Option Tmp)} {R2 : World → Prop} {Ks : List Know} {s i : Nat} {o : Oper} {d : Tmp} (hg : o.guard = none) (hd : o.dst = some d) (hs : d < a0.tmps.size)
    (h : ∀ (f : Nat → Value) (w' : World), R2 w' → KnowAll Ks f w' (depsO o) →
      wpList P #[] (OnePost d a0.defers.length (fun v w'' => Ext w' w'' ∧ phi Ks i w'' v)) [o] (putD ds a0 f (depsO o)) w') : OpGoal P ds a0 R2 Ks s i o := by
  intro _ f w' hr hk
  have h2 := h f w' hr hk
  rw [← putD_defers ds a0 f (depsO o)] at h2
  exact .inl ⟨(wanted_of_D (ops := #[]) _ hg).2, gives_of_wpList hd (by rw [putD_size]; exact hs) (wanted_of_D (ds := ds) _ hg).1 h2⟩
theorem gives_guard {o : Oper} {a : Act} {w : World} {Ψ : Value → World → Prop} (g : Option (Nat × Bool)) (h : Oper.gives P { o with guard := g } a w Ψ) : Oper.gives P o a w Ψ := by
  obtain ⟨dst, op, ty, pos, after, guard⟩ := o
  exact h
/-- an operation whose guard is met, by its walk -/
theorem opGoal_guard {ds : List (Option Tmp)} {R2 : World → Prop} {Ks : List Know} {s i : Nat} {dst : Option Tmp} {op : Op} {ty : TypeId} {pos : String} {after : Array Edge} {guard : Option (Nat × Bool)} {g : Nat × Bool} {d : Tmp}
    (_hg : guard = some g) (hd : dst = some d) (hs : d < a0.tmps.size)
    (h : ∀ (f : Nat → Value) (w' : World), R2 w' → KnowAll Ks f w' (depsO ⟨dst, op, ty, pos, after, guard⟩) →
      wantD ds ⟨dst, op, ty, pos, after, guard⟩ (putD ds a0 f (depsO ⟨dst, op, ty, pos, after, guard⟩)).tmps = true ∧
      wpList P #[] (OnePost d a0.defers.length (fun v w'' => Ext w' w'' ∧ phi Ks i w'' v)) [⟨dst, op, ty, pos, after, none⟩] (putD ds a0 f (depsO ⟨dst, op, ty, pos, after, guard⟩)) w') :
    OpGoal P ds a0 R2 Ks s i ⟨dst, op, ty, pos, after, guard⟩ := by
  intro _ f w' hr hk
  obtain ⟨h1, h2⟩ := h f w' hr hk
  rw [← putD_defers ds a0 f (depsO ⟨dst, op, ty, pos, after, guard⟩)] at h2
  exact .inl ⟨h1, gives_guard none (gives_of_wpList (o := ⟨dst, op, ty, pos, after, none⟩) hd (by rw [putD_size]; exact hs) rfl h2)⟩
theorem onePost_is {d : Tmp} {n : Nat} {Ψ : Value → World → Prop} {t : Array Value} {df : List Deferred} {w : World} (v : Value) (h : t[d]? = some v) (hn : df.length = n) (hv : Ψ v w) : OnePost d n Ψ .normal ⟨t, df⟩ w := by
  refine ⟨rfl, hn, ?_⟩
  rw [Array.getD_eq_getD_getElem?, h]; exact hv
theorem put_some (t : Array Value) (df : List Deferred) (d : Tmp) (v : Value) : (Act.mk t df).put (some d) v = ⟨t.setIfInBounds d v, df⟩ := rfl
theorem put_none (a : Act) (v : Value) : a.put none v = a := rfl
end
end Go.Proofs.Ytcandeobhlfkbaa.Iv
