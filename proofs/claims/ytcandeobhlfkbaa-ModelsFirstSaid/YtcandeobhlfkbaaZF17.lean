/-
  Texts laid together: ML3.
-/
import Derived.Test.YtcandeobhlfkbaaZF16
/-
  The first point that satisfies rows, walked: what is found is not later than any other.
-/


namespace Go.Proofs.Ytcandeobhlfkbaa
open Go
theorem ins_drop {most : Int} {p : Pt} {ns : List ByteArray} {i : Nat} {c : ByteArray × Int} {s : ByteArray} (h1 : nth p i = some c) (h2 : nth ns i = some s) :
    insF most (p.drop i) (ns.drop i) = ((sEq c.1 s && (decide (c.2 ≥ -most) && decide (c.2 ≤ most))) && insF most (p.drop (i + 1)) (ns.drop (i + 1))) := by
  rw [nth_drop h1, nth_drop h2]; rfl
theorem ins_len {most : Int} {p : Pt} {ns : List ByteArray} (h : p.length ≠ ns.length) : insF most p ns = false := by
  cases hi : insF most p ns with
  | false => rfl
  | true =>
    obtain ⟨h1, -⟩ := ins_iff.1 hi
    exact absurd (by rw [← h1, List.length_map]) h
section
variable (S : List Ent) (tk : List Nat) (k : Nat)
set_option maxRecDepth 100000 in
set_option maxHeartbeats 2000000 in
theorem L15_ModelsFirst (l : List RowT) (most : Int) (p : Pt) (ip : PtI p) : cL Try.prog 5 [rowsA l, .int most, coefsA p] S tk k = some (.bool true, S, tk, k) := by
  have hQ := fun S tk k => told1 (L15_quick S tk k l most)
  have hS : ∀ S tk k, cL Try.prog 8 [.frz [[coefsA p]] .tight] S tk k = some (.bool (shortF [p]), S, tk, k) := fun S tk k => told1 (L15_short S tk k [p] .tight (by simp))
  have hA := fun S tk k => L15_awake S tk k
  simp only [rowsA, coefsA] at hQ hS
  refine call_pure Try.func5 rfl rfl (by decide +kernel) (by decide +kernel) Try.ntmps5 rfl rfl _ _ _ (rfl) ?_; rw [RK_KX]
  cases hq1 : quickF l most with
  | false =>
    rw [hq1] at hQ
    simp (maxSteps := 1000000) +contextual (disch := first | with_reducible assumption | exact ⟨rfl⟩ | exact ⟨rfl, rfl⟩ | (refine _root_.id ?_; kernel_rfl) | omega) only [evs, ext_mv, nth, put, putT, getT, binInt, binStr, binBool, aUn, outA, resA, mapO, resA1, oneOf, w1, w2, w3, bots, cond_true, cond_false, if_true, if_false, ite_true, ite_false, reduceIte, reduceCtorEq, implies_true, Nat.reduceAdd, Nat.reduceSub, AV.int, AV.bool, AV.str, Nat.reduceBEq, Nat.reduceEqDiff, Nat.reduceMul, Nat.reduceLT, Nat.reduceLeDiff, Int.reduceNeg, BEq.rfl, beq_self_eq_true, tabl, cellsOf, fldA, ldA, stA, entAt, partA, takeN, over, leafOk, Value.oneCell', idxA, nilA, cellsEq, fillA, elemsA, pure1, pure2, reps, chkA, tys, Try.results5, KX_draw, KX_drawQ, KX_tail, lastO_one, lastO_more, dropL_one, dropL_more, callP_eq, callM_true, ext_mv1, rowsA, coefsA, hQ, hA]
  | true =>
  rw [hq1] at hQ
  cases h2 : shortF [p] with
  | false =>
    rw [h2] at hS
    simp (maxSteps := 1000000) +contextual (disch := first | with_reducible assumption | exact ⟨rfl⟩ | exact ⟨rfl, rfl⟩ | (refine _root_.id ?_; kernel_rfl) | omega) only [evs, ext_mv, nth, put, putT, getT, binInt, binStr, binBool, aUn, outA, resA, mapO, resA1, oneOf, w1, w2, w3, bots, cond_true, cond_false, if_true, if_false, ite_true, ite_false, reduceIte, reduceCtorEq, implies_true, Nat.reduceAdd, Nat.reduceSub, AV.int, AV.bool, AV.str, Nat.reduceBEq, Nat.reduceEqDiff, Nat.reduceMul, Nat.reduceLT, Nat.reduceLeDiff, Int.reduceNeg, BEq.rfl, beq_self_eq_true, tabl, cellsOf, fldA, ldA, stA, entAt, partA, takeN, over, leafOk, Value.oneCell', idxA, nilA, cellsEq, fillA, elemsA, pure1, pure2, reps, chkA, tys, Try.results5, KX_draw, KX_drawQ, KX_tail, lastO_one, lastO_more, dropL_one, dropL_more, callP_eq, callM_true, ext_mv1, rowsA, coefsA, hQ, hS, hA]
  | true =>
  rw [h2] at hS
  by_cases m0 : most < 0
  · have d0 : decide (most < 0) = true := by simpa using m0
    simp (maxSteps := 1000000) +contextual (disch := first | with_reducible assumption | exact ⟨rfl⟩ | exact ⟨rfl, rfl⟩ | (refine _root_.id ?_; kernel_rfl) | omega) only [evs, ext_mv, nth, put, putT, getT, binInt, binStr, binBool, aUn, outA, resA, mapO, resA1, oneOf, w1, w2, w3, bots, cond_true, cond_false, if_true, if_false, ite_true, ite_false, reduceIte, reduceCtorEq, implies_true, Nat.reduceAdd, Nat.reduceSub, AV.int, AV.bool, AV.str, Nat.reduceBEq, Nat.reduceEqDiff, Nat.reduceMul, Nat.reduceLT, Nat.reduceLeDiff, Int.reduceNeg, BEq.rfl, beq_self_eq_true, tabl, cellsOf, fldA, ldA, stA, entAt, partA, takeN, over, leafOk, Value.oneCell', idxA, nilA, cellsEq, fillA, elemsA, pure1, pure2, reps, chkA, tys, Try.results5, KX_draw, KX_drawQ, KX_tail, lastO_one, lastO_more, dropL_one, dropL_more, callP_eq, callM_true, ext_mv1, rowsA, coefsA, hQ, hS, hA, d0]
  have d0 : decide (most < 0) = false := by simpa using m0
  by_cases m3 : most > 3
  · have d3 : decide (most > 3) = true := by simpa using m3
    simp (maxSteps := 1000000) +contextual (disch := first | with_reducible assumption | exact ⟨rfl⟩ | exact ⟨rfl, rfl⟩ | (refine _root_.id ?_; kernel_rfl) | omega) only [evs, ext_mv, nth, put, putT, getT, binInt, binStr, binBool, aUn, outA, resA, mapO, resA1, oneOf, w1, w2, w3, bots, cond_true, cond_false, if_true, if_false, ite_true, ite_false, reduceIte, reduceCtorEq, implies_true, Nat.reduceAdd, Nat.reduceSub, AV.int, AV.bool, AV.str, Nat.reduceBEq, Nat.reduceEqDiff, Nat.reduceMul, Nat.reduceLT, Nat.reduceLeDiff, Int.reduceNeg, BEq.rfl, beq_self_eq_true, tabl, cellsOf, fldA, ldA, stA, entAt, partA, takeN, over, leafOk, Value.oneCell', idxA, nilA, cellsEq, fillA, elemsA, pure1, pure2, reps, chkA, tys, Try.results5, KX_draw, KX_drawQ, KX_tail, lastO_one, lastO_more, dropL_one, dropL_more, callP_eq, callM_true, ext_mv1, rowsA, coefsA, hQ, hS, hA, d0, d3]
  have d3 : decide (most > 3) = false := by simpa using m3
  have hwm : IntKind.i64.wrap (most + 1) = most + 1 := wrap_of (by unfold i64; omega)
  have hQ2 := fun S tk k => told1 (L15_quick S tk k l (most + 1))
  simp only [rowsA] at hQ2
  cases hq2 : quickF l (most + 1) with
  | false =>
    rw [hq2] at hQ2
    simp (maxSteps := 1000000) +contextual (disch := first | with_reducible assumption | exact ⟨rfl⟩ | exact ⟨rfl, rfl⟩ | (refine _root_.id ?_; kernel_rfl) | omega) only [evs, ext_mv, nth, put, putT, getT, binInt, binStr, binBool, aUn, outA, resA, mapO, resA1, oneOf, w1, w2, w3, bots, cond_true, cond_false, if_true, if_false, ite_true, ite_false, reduceIte, reduceCtorEq, implies_true, Nat.reduceAdd, Nat.reduceSub, AV.int, AV.bool, AV.str, Nat.reduceBEq, Nat.reduceEqDiff, Nat.reduceMul, Nat.reduceLT, Nat.reduceLeDiff, Int.reduceNeg, BEq.rfl, beq_self_eq_true, tabl, cellsOf, fldA, ldA, stA, entAt, partA, takeN, over, leafOk, Value.oneCell', idxA, nilA, cellsEq, fillA, elemsA, pure1, pure2, reps, chkA, tys, Try.results5, KX_draw, KX_drawQ, KX_tail, lastO_one, lastO_more, dropL_one, dropL_more, callP_eq, callM_true, ext_mv1, rowsA, coefsA, hQ, hS, hA, d0, d3, hwm, hQ2]
  | true =>
  rw [hq2] at hQ2
  have hli : lightF l = true := by
    unfold quickF at hq1
    rw [Bool.and_eq_true] at hq1; exact hq1.1
  obtain ⟨g1, g2⟩ := light_len hli
  have g3 : p.length ≤ 12 := by simpa [shortF] using h2
  have hF := fun S tk k => models_Find S tk k l .unk most
  have hF2 := fun S tk k => models_Find S tk k l .unk (most + 1)
  have hV := fun S tk k => told1 (simplex_Vars S tk k l)
  have hC := fun S tk k => told1 (simplex_Check S tk k l)
  have hM := fun S tk k => told1 (models_Satisfies S tk k l p (by omega) (fun r hr => by have := g2 r hr; omega) (by omega))
  simp only [fndA] at hF hF2
  simp only [rowsA, coefsA, strsA] at hV hC hM
  obtain ⟨qv, hqv⟩ : ∃ x, (findF l most).getD [] = x := ⟨_, rfl⟩
  obtain ⟨ov, hov⟩ : ∃ x, (findF l most).isSome = x := ⟨_, rfl⟩
  obtain ⟨ns, hns⟩ : ∃ x, varsOf l = x := ⟨_, rfl⟩
  rw [hqv, hov] at hF
  rw [hns] at hV
  have hnl : ns.length ≤ 24 := by
    rw [← hns]
    unfold varsOf
    split
    · rename_i h; exact (sys_few h).2.2.1
    · simp
  have hneg : IntKind.i64.wrap (0 - most) = -most := by rw [wrap_of (by unfold i64; omega)]; omega
  simp only [coefsA] at hF hF2
  have dl : ((p.length : Int) == (ns.length : Int)) = decide (p.length = ns.length) := by
    rw [show ((p.length : Int) == (ns.length : Int)) = decide ((p.length : Int) = (ns.length : Int)) from rfl, decide_eq_decide]; omega
  simp (maxSteps := 1000000) +contextual (disch := first | with_reducible assumption | exact ⟨rfl⟩ | exact ⟨rfl, rfl⟩ | (refine _root_.id ?_; kernel_rfl) | omega) only [evs, ext_mv, nth, put, putT, getT, binInt, binStr, binBool, aUn, outA, resA, mapO, resA1, oneOf, w1, w2, w3, bots, cond_true, cond_false, if_true, if_false, ite_true, ite_false, reduceIte, reduceCtorEq, implies_true, Nat.reduceAdd, Nat.reduceSub, AV.int, AV.bool, AV.str, Nat.reduceBEq, Nat.reduceEqDiff, Nat.reduceMul, Nat.reduceLT, Nat.reduceLeDiff, Int.reduceNeg, BEq.rfl, beq_self_eq_true, tabl, cellsOf, fldA, ldA, stA, entAt, partA, takeN, over, leafOk, Value.oneCell', idxA, nilA, cellsEq, fillA, elemsA, pure1, pure2, reps, chkA, tys, Try.results5, KX_draw, KX_drawQ, KX_tail, lastO_one, lastO_more, dropL_one, dropL_more, callP_eq, callM_true, ext_mv1, rowsA, coefsA, hQ, hS, hA, d0, d3, hwm, hQ2, hF, hV, strsA, dl]
  refine loop1 (P := Try.prog) (fun x st => st.T.length = 205 ∧ (x.1 ≤ p.length) ∧ (insF most p ns = (x.2 && insF most (p.drop x.1) (ns.drop x.1))) ∧ (x.2 = true → p.length = ns.length) ∧ getT st.T 0 = rowsA l ∧ getT st.T 1 = .int most ∧ getT st.T 2 = coefsA p ∧ getT st.T 7 = coefsA qv ∧ getT st.T 8 = .bool ov ∧ getT st.T 9 = strsA ns ∧ getT st.T 10 = .bool x.2 ∧ getT st.T 11 = .int (x.1 : Nat) ∧ st.S = []) (fun x => p.length - x.1) (fun x => .bool true) (0, decide (p.length = ns.length)) ?_ ?_
  case refine_2 => exact ⟨rfl, Nat.zero_le _, (by cases hd : decide (p.length = ns.length) with | true => simp | false => rw [ins_len (by simpa using hd), Bool.false_and]), (by simp), rfl, rfl, rfl, rfl, rfl, rfl, rfl, rfl, rfl⟩
  rintro ⟨i, b⟩ ⟨T, S', tk', n'⟩ ⟨hl, hi, hb, hl, e0, e1, e2, e7, e8, e9, e10, e11, eS⟩ IH
  simp only at hi hb hl e0 e1 e2 e7 e8 e9 e10 e11 eS
  subst eS
  obtain ⟨g, hg, hT⟩ := tab_of hl
  rw [hg] at e0 e1 e2 e7 e8 e9 e10 e11
  subst hT
  clear hg hl
  have hiw := wrap_add (i := i) (m := 0) (by omega)
  by_cases hgo : b = true ∧ i < p.length
  · obtain ⟨hbt, hlt⟩ := hgo
    have hlen := hl hbt
    subst hbt
    have d1 : decide ((i : Int) < (p.length : Int)) = true := by simpa using hlt
    obtain ⟨c, hx⟩ := nth_some hlt
    obtain ⟨s, hs⟩ := nth_some (show i < ns.length by omega)
    have hx' := nth_coef hx
    have hs' : nth (ns.map strC) i = some (strC s) := by rw [nth_map, hs]; rfl
    simp only [coefC, strC] at hx' hs'
    rw [ins_drop hx hs, Bool.true_and] at hb
    cases a1 : sEq c.1 s with
    | false =>
      rw [a1, Bool.false_and, Bool.false_and] at hb
      simp (maxSteps := 1000000) +contextual (disch := first | with_reducible assumption | exact ⟨rfl⟩ | exact ⟨rfl, rfl⟩ | (refine _root_.id ?_; kernel_rfl) | omega) only [evs, ext_mv, nth, put, putT, getT, binInt, binStr, binBool, aUn, outA, resA, mapO, resA1, oneOf, w1, w2, w3, bots, cond_true, cond_false, if_true, if_false, ite_true, ite_false, reduceIte, reduceCtorEq, implies_true, Nat.reduceAdd, Nat.reduceSub, AV.int, AV.bool, AV.str, Nat.reduceBEq, Nat.reduceEqDiff, Nat.reduceMul, Nat.reduceLT, Nat.reduceLeDiff, Int.reduceNeg, BEq.rfl, beq_self_eq_true, tabl, cellsOf, fldA, ldA, stA, entAt, partA, takeN, over, leafOk, Value.oneCell', idxA, nilA, cellsEq, fillA, elemsA, pure1, pure2, reps, chkA, tys, Try.results5, KX_draw, KX_drawQ, KX_tail, lastO_one, lastO_more, dropL_one, dropL_more, callP_eq, callM_true, ext_mv1, e0, e1, e2, e7, e8, e9, e10, e11, d1, coefsA, strsA, hx', hs', a1, hiw, hneg, strC]
      exact IH (i + 1, false) _ (by first | omega | (simp only; omega)) ⟨rfl, by first | omega | (dsimp only; omega), by rw [hb, Bool.false_and], by simp, rfl, rfl, rfl, rfl, rfl, rfl, rfl, rfl, rfl⟩
    | true =>
      rw [a1, Bool.true_and] at hb
      cases a2 : decide (c.2 ≥ -most) with
      | false =>
        rw [a2, Bool.false_and, Bool.false_and] at hb
        simp (maxSteps := 1000000) +contextual (disch := first | with_reducible assumption | exact ⟨rfl⟩ | exact ⟨rfl, rfl⟩ | (refine _root_.id ?_; kernel_rfl) | omega) only [evs, ext_mv, nth, put, putT, getT, binInt, binStr, binBool, aUn, outA, resA, mapO, resA1, oneOf, w1, w2, w3, bots, cond_true, cond_false, if_true, if_false, ite_true, ite_false, reduceIte, reduceCtorEq, implies_true, Nat.reduceAdd, Nat.reduceSub, AV.int, AV.bool, AV.str, Nat.reduceBEq, Nat.reduceEqDiff, Nat.reduceMul, Nat.reduceLT, Nat.reduceLeDiff, Int.reduceNeg, BEq.rfl, beq_self_eq_true, tabl, cellsOf, fldA, ldA, stA, entAt, partA, takeN, over, leafOk, Value.oneCell', idxA, nilA, cellsEq, fillA, elemsA, pure1, pure2, reps, chkA, tys, Try.results5, KX_draw, KX_drawQ, KX_tail, lastO_one, lastO_more, dropL_one, dropL_more, callP_eq, callM_true, ext_mv1, e0, e1, e2, e7, e8, e9, e10, e11, d1, coefsA, strsA, hx', hs', a1, a2, hiw, hneg, strC]
        exact IH (i + 1, false) _ (by first | omega | (simp only; omega)) ⟨rfl, by first | omega | (dsimp only; omega), by rw [hb, Bool.false_and], by simp, rfl, rfl, rfl, rfl, rfl, rfl, rfl, rfl, rfl⟩
      | true =>
        rw [a2, Bool.true_and] at hb
        cases a3 : decide (c.2 ≤ most) with
        | false =>
          rw [a3, Bool.false_and] at hb
          simp (maxSteps := 1000000) +contextual (disch := first | with_reducible assumption | exact ⟨rfl⟩ | exact ⟨rfl, rfl⟩ | (refine _root_.id ?_; kernel_rfl) | omega) only [evs, ext_mv, nth, put, putT, getT, binInt, binStr, binBool, aUn, outA, resA, mapO, resA1, oneOf, w1, w2, w3, bots, cond_true, cond_false, if_true, if_false, ite_true, ite_false, reduceIte, reduceCtorEq, implies_true, Nat.reduceAdd, Nat.reduceSub, AV.int, AV.bool, AV.str, Nat.reduceBEq, Nat.reduceEqDiff, Nat.reduceMul, Nat.reduceLT, Nat.reduceLeDiff, Int.reduceNeg, BEq.rfl, beq_self_eq_true, tabl, cellsOf, fldA, ldA, stA, entAt, partA, takeN, over, leafOk, Value.oneCell', idxA, nilA, cellsEq, fillA, elemsA, pure1, pure2, reps, chkA, tys, Try.results5, KX_draw, KX_drawQ, KX_tail, lastO_one, lastO_more, dropL_one, dropL_more, callP_eq, callM_true, ext_mv1, e0, e1, e2, e7, e8, e9, e10, e11, d1, coefsA, strsA, hx', hs', a1, a2, a3, hiw, hneg, strC]
          exact IH (i + 1, false) _ (by first | omega | (simp only; omega)) ⟨rfl, by first | omega | (dsimp only; omega), by rw [hb, Bool.false_and], by simp, rfl, rfl, rfl, rfl, rfl, rfl, rfl, rfl, rfl⟩
        | true =>
          rw [a3, Bool.true_and] at hb
          simp (maxSteps := 1000000) +contextual (disch := first | with_reducible assumption | exact ⟨rfl⟩ | exact ⟨rfl, rfl⟩ | (refine _root_.id ?_; kernel_rfl) | omega) only [evs, ext_mv, nth, put, putT, getT, binInt, binStr, binBool, aUn, outA, resA, mapO, resA1, oneOf, w1, w2, w3, bots, cond_true, cond_false, if_true, if_false, ite_true, ite_false, reduceIte, reduceCtorEq, implies_true, Nat.reduceAdd, Nat.reduceSub, AV.int, AV.bool, AV.str, Nat.reduceBEq, Nat.reduceEqDiff, Nat.reduceMul, Nat.reduceLT, Nat.reduceLeDiff, Int.reduceNeg, BEq.rfl, beq_self_eq_true, tabl, cellsOf, fldA, ldA, stA, entAt, partA, takeN, over, leafOk, Value.oneCell', idxA, nilA, cellsEq, fillA, elemsA, pure1, pure2, reps, chkA, tys, Try.results5, KX_draw, KX_drawQ, KX_tail, lastO_one, lastO_more, dropL_one, dropL_more, callP_eq, callM_true, ext_mv1, e0, e1, e2, e7, e8, e9, e10, e11, d1, coefsA, strsA, hx', hs', a1, a2, a3, hiw, hneg, strC]
          exact IH (i + 1, true) _ (by first | omega | (simp only; omega)) ⟨rfl, by first | omega | (dsimp only; omega), by rw [hb, Bool.true_and], fun _ => hlen, rfl, rfl, rfl, rfl, rfl, rfl, rfl, rfl, rfl⟩
  · have hin : insF most p ns = b := by
      cases b with
      | false => rw [hb, Bool.false_and]
      | true =>
        have hie : i = p.length := by
          have : ¬ i < p.length := fun h => hgo ⟨rfl, h⟩
          omega
        have e1 : p.drop i = [] := by rw [hie, List.drop_length]
        have e2 : ns.drop i = [] := by rw [hie, hl rfl, List.drop_length]
        rw [hb, e1, e2]; rfl
    have d1 : b = true → decide ((i : Int) < (p.length : Int)) = false := fun h => by
      have : ¬ i < p.length := fun h2 => hgo ⟨h, h2⟩
      simpa using this
    have hz : ov = false → qv = [] := fun h => by
      rw [h] at hov
      have : findF l most = none := by simpa using hov
      rw [this] at hqv; exact hqv.symm
    cases ov with
    | false =>
      have hqe := hz rfl
      subst hqe
      have hfn : findF l most = none := by simpa using hov
      have q0 : (((0 : Nat) : Int) == 0) = true := rfl
      cases b with
      | false =>
        simp (maxSteps := 1000000) +contextual (disch := first | with_reducible assumption | exact ⟨rfl⟩ | exact ⟨rfl, rfl⟩ | (refine _root_.id ?_; kernel_rfl) | omega) only [evs, ext_mv, nth, put, putT, getT, binInt, binStr, binBool, aUn, outA, resA, mapO, resA1, oneOf, w1, w2, w3, bots, cond_true, cond_false, if_true, if_false, ite_true, ite_false, reduceIte, reduceCtorEq, implies_true, Nat.reduceAdd, Nat.reduceSub, AV.int, AV.bool, AV.str, Nat.reduceBEq, Nat.reduceEqDiff, Nat.reduceMul, Nat.reduceLT, Nat.reduceLeDiff, Int.reduceNeg, BEq.rfl, beq_self_eq_true, tabl, cellsOf, fldA, ldA, stA, entAt, partA, takeN, over, leafOk, Value.oneCell', idxA, nilA, cellsEq, fillA, elemsA, pure1, pure2, reps, chkA, tys, Try.results5, KX_draw, KX_drawQ, KX_tail, lastO_one, lastO_more, dropL_one, dropL_more, callP_eq, callM_true, ext_mv1, e0, e1, e2, e7, e8, e9, e10, e11, coefsA, strsA, hA, q0, List.map_nil, List.length_nil]
      | true =>
        have d1 := d1 rfl
        by_cases c6 : ns.length > 6
        · have d6 : decide ((ns.length : Int) > 6) = true := by simp; omega
          simp (maxSteps := 1000000) +contextual (disch := first | with_reducible assumption | exact ⟨rfl⟩ | exact ⟨rfl, rfl⟩ | (refine _root_.id ?_; kernel_rfl) | omega) only [evs, ext_mv, nth, put, putT, getT, binInt, binStr, binBool, aUn, outA, resA, mapO, resA1, oneOf, w1, w2, w3, bots, cond_true, cond_false, if_true, if_false, ite_true, ite_false, reduceIte, reduceCtorEq, implies_true, Nat.reduceAdd, Nat.reduceSub, AV.int, AV.bool, AV.str, Nat.reduceBEq, Nat.reduceEqDiff, Nat.reduceMul, Nat.reduceLT, Nat.reduceLeDiff, Int.reduceNeg, BEq.rfl, beq_self_eq_true, tabl, cellsOf, fldA, ldA, stA, entAt, partA, takeN, over, leafOk, Value.oneCell', idxA, nilA, cellsEq, fillA, elemsA, pure1, pure2, reps, chkA, tys, Try.results5, KX_draw, KX_drawQ, KX_tail, lastO_one, lastO_more, dropL_one, dropL_more, callP_eq, callM_true, ext_mv1, e0, e1, e2, e7, e8, e9, e10, e11, coefsA, strsA, hA, q0, d1, d6, List.map_nil, List.length_nil]
        have d6 : decide ((ns.length : Int) > 6) = false := by simp; omega
        by_cases hs0 : sysE l = 0
        · rw [hs0] at hC
          have hve : varsF l = ns := by rw [← hns]; unfold varsOf; rw [if_pos hs0]
          have hsat := find_none hfn (by omega) (by omega) hs0 (by rw [hve]; omega) (p := p) (by rw [hve]; exact hin)
          rw [hsat] at hM
          have z0 : ((0 : Int) != 0) = false := rfl
          simp (maxSteps := 1000000) +contextual (disch := first | with_reducible assumption | exact ⟨rfl⟩ | exact ⟨rfl, rfl⟩ | (refine _root_.id ?_; kernel_rfl) | omega) only [evs, ext_mv, nth, put, putT, getT, binInt, binStr, binBool, aUn, outA, resA, mapO, resA1, oneOf, w1, w2, w3, bots, cond_true, cond_false, if_true, if_false, ite_true, ite_false, reduceIte, reduceCtorEq, implies_true, Nat.reduceAdd, Nat.reduceSub, AV.int, AV.bool, AV.str, Nat.reduceBEq, Nat.reduceEqDiff, Nat.reduceMul, Nat.reduceLT, Nat.reduceLeDiff, Int.reduceNeg, BEq.rfl, beq_self_eq_true, tabl, cellsOf, fldA, ldA, stA, entAt, partA, takeN, over, leafOk, Value.oneCell', idxA, nilA, cellsEq, fillA, elemsA, pure1, pure2, reps, chkA, tys, Try.results5, KX_draw, KX_drawQ, KX_tail, lastO_one, lastO_more, dropL_one, dropL_more, callP_eq, callM_true, ext_mv1, e0, e1, e2, e7, e8, e9, e10, e11, coefsA, strsA, rowsA, hA, q0, d1, d6, hC, hM, z0, List.map_nil, List.length_nil]
        · have z0 : (sysE l != 0) = true := by simpa using hs0
          simp (maxSteps := 1000000) +contextual (disch := first | with_reducible assumption | exact ⟨rfl⟩ | exact ⟨rfl, rfl⟩ | (refine _root_.id ?_; kernel_rfl) | omega) only [evs, ext_mv, nth, put, putT, getT, binInt, binStr, binBool, aUn, outA, resA, mapO, resA1, oneOf, w1, w2, w3, bots, cond_true, cond_false, if_true, if_false, ite_true, ite_false, reduceIte, reduceCtorEq, implies_true, Nat.reduceAdd, Nat.reduceSub, AV.int, AV.bool, AV.str, Nat.reduceBEq, Nat.reduceEqDiff, Nat.reduceMul, Nat.reduceLT, Nat.reduceLeDiff, Int.reduceNeg, BEq.rfl, beq_self_eq_true, tabl, cellsOf, fldA, ldA, stA, entAt, partA, takeN, over, leafOk, Value.oneCell', idxA, nilA, cellsEq, fillA, elemsA, pure1, pure2, reps, chkA, tys, Try.results5, KX_draw, KX_drawQ, KX_tail, lastO_one, lastO_more, dropL_one, dropL_more, callP_eq, callM_true, ext_mv1, e0, e1, e2, e7, e8, e9, e10, e11, coefsA, strsA, rowsA, hA, q0, d1, d6, hC, z0, List.map_nil, List.length_nil]
    | true =>
      have hfs : findF l most = some qv := by
        cases hf : findF l most with
        | none => rw [hf] at hov; cases hov
        | some x => rw [hf] at hqv; rw [← hqv]; rfl
      obtain ⟨f1, f2, f3, f4, f5⟩ := find_some hfs
      obtain ⟨o1, -, -, o4⟩ := ok_facts f1
      have hve : varsF l = ns := by rw [← hns]; unfold varsOf; rw [if_pos o1]
      rw [hve] at f3 f4 o4
      rw [f5 (by omega)] at hF2
      simp only [Option.getD_some, Option.isSome_some] at hF2
      obtain ⟨k1, k2⟩ := ins_iff.1 f3
      have hql : qv.length = ns.length := by rw [← k1, List.length_map]
      have iq : PtI qv := fun c hc => by have := k2 c hc; unfold i64; omega
      have hM2 := fun S tk k => told1 (models_Satisfies S tk k l qv (by omega) (fun r hr => by have := g2 r hr; omega) (by omega))
      have hO := fun S tk k => told1 (models_Order S tk k qv p (by omega) (by omega) iq ip)
      have hSm := fun S tk k => told1 (R15_Same S tk k qv qv (by omega))
      rw [f2] at hM2
      simp only [decide_true] at hSm
      simp only [rowsA, coefsA] at hM2 hO hSm
      have key : (b = false ∨ satF l p = false) ∨ decide (ordF qv p ≤ 0) = true := by
        cases hbb : b with
        | false => exact .inl (.inl rfl)
        | true =>
          cases hss : satF l p with
          | false => exact .inl (.inr rfl)
          | true => exact .inr (by simpa using f4 p (by rw [hin]; exact hbb) hss)
      have dq : ((qv.length : Int) == (ns.length : Int)) = true := by rw [hql]; simp
      generalize ordF qv p = od at *
      generalize satF l p = sp at *
      cases b with
      | false =>
        simp (maxSteps := 1000000) +contextual (disch := first | with_reducible assumption | exact ⟨rfl⟩ | exact ⟨rfl, rfl⟩ | (refine _root_.id ?_; kernel_rfl) | omega) only [evs, ext_mv, nth, put, putT, getT, binInt, binStr, binBool, aUn, outA, resA, mapO, resA1, oneOf, w1, w2, w3, bots, cond_true, cond_false, if_true, if_false, ite_true, ite_false, reduceIte, reduceCtorEq, implies_true, Nat.reduceAdd, Nat.reduceSub, AV.int, AV.bool, AV.str, Nat.reduceBEq, Nat.reduceEqDiff, Nat.reduceMul, Nat.reduceLT, Nat.reduceLeDiff, Int.reduceNeg, BEq.rfl, beq_self_eq_true, tabl, cellsOf, fldA, ldA, stA, entAt, partA, takeN, over, leafOk, Value.oneCell', idxA, nilA, cellsEq, fillA, elemsA, pure1, pure2, reps, chkA, tys, Try.results5, KX_draw, KX_drawQ, KX_tail, lastO_one, lastO_more, dropL_one, dropL_more, callP_eq, callM_true, ext_mv1, e0, e1, e2, e7, e8, e9, e10, e11, coefsA, strsA]
        refine loop1 (P := Try.prog) (fun x st => st.T.length = 205 ∧ (x ≤ qv.length) ∧ getT st.T 0 = rowsA l ∧ getT st.T 1 = .int most ∧ getT st.T 2 = coefsA p ∧ getT st.T 7 = coefsA qv ∧ getT st.T 9 = strsA ns ∧ getT st.T 10 = .bool false ∧ getT st.T 12 = .int (x : Nat) ∧ st.S = []) (fun x => qv.length - x) (fun x => .bool true) (0) ?_ ?_
        case refine_2 => exact ⟨rfl, Nat.zero_le _, rfl, rfl, rfl, rfl, rfl, rfl, rfl, rfl⟩
        rintro j ⟨T, S', tk', n'⟩ ⟨hl, hj, e0, e1, e2, e7, e9, e10, e12, eS⟩ IH
        subst eS
        obtain ⟨g, hg, hT⟩ := tab_of hl
        rw [hg] at e0 e1 e2 e7 e9 e10 e12
        subst hT
        clear hg hl
        have hjw := wrap_add (i := j) (m := 0) (by omega)
        by_cases hlt : j < qv.length
        · have d2 : decide ((j : Int) < (qv.length : Int)) = true := by simpa using hlt
          have d4 : decide ((j : Int) ≥ (ns.length : Int)) = false := by simp; omega
          obtain ⟨c, hx⟩ := nth_some hlt
          obtain ⟨s, hs⟩ := nth_some (show j < ns.length by omega)
          have hx' := nth_coef hx
          have hs' : nth (ns.map strC) j = some (strC s) := by rw [nth_map, hs]; rfl
          have hcs : c.1 = s := by
            have : nth (qv.map (·.1)) j = some c.1 := by rw [nth_map, hx]; rfl
            rw [k1, hs] at this
            exact (Option.some.inj this).symm
          have hse : sEq c.1 s = true := by rw [sEq_nm]; simpa using hcs
          have hcc := k2 c (mem_nth hx)
          have a2 : decide (c.2 < -most) = false := by simp; omega
          have a3 : decide (c.2 > most) = false := by simp; omega
          simp only [coefC, strC] at hx' hs'
          simp (maxSteps := 1000000) +contextual (disch := first | with_reducible assumption | exact ⟨rfl⟩ | exact ⟨rfl, rfl⟩ | (refine _root_.id ?_; kernel_rfl) | omega) only [evs, ext_mv, nth, put, putT, getT, binInt, binStr, binBool, aUn, outA, resA, mapO, resA1, oneOf, w1, w2, w3, bots, cond_true, cond_false, if_true, if_false, ite_true, ite_false, reduceIte, reduceCtorEq, implies_true, Nat.reduceAdd, Nat.reduceSub, AV.int, AV.bool, AV.str, Nat.reduceBEq, Nat.reduceEqDiff, Nat.reduceMul, Nat.reduceLT, Nat.reduceLeDiff, Int.reduceNeg, BEq.rfl, beq_self_eq_true, tabl, cellsOf, fldA, ldA, stA, entAt, partA, takeN, over, leafOk, Value.oneCell', idxA, nilA, cellsEq, fillA, elemsA, pure1, pure2, reps, chkA, tys, Try.results5, KX_draw, KX_drawQ, KX_tail, lastO_one, lastO_more, dropL_one, dropL_more, callP_eq, callM_true, ext_mv1, e0, e1, e2, e7, e9, e10, e12, d2, d4, coefsA, strsA, hx', hs', hse, a2, a3, hjw, hneg, strC, Bool.not_true]
          exact IH (j + 1) _ (by first | omega | (simp only; omega)) ⟨rfl, by first | omega | (dsimp only; omega), rfl, rfl, rfl, rfl, rfl, rfl, rfl, rfl⟩
        · have d2 : decide ((j : Int) < (qv.length : Int)) = false := by simpa using hlt
          simp (maxSteps := 1000000) +contextual (disch := first | with_reducible assumption | exact ⟨rfl⟩ | exact ⟨rfl, rfl⟩ | (refine _root_.id ?_; kernel_rfl) | omega) only [evs, ext_mv, nth, put, putT, getT, binInt, binStr, binBool, aUn, outA, resA, mapO, resA1, oneOf, w1, w2, w3, bots, cond_true, cond_false, if_true, if_false, ite_true, ite_false, reduceIte, reduceCtorEq, implies_true, Nat.reduceAdd, Nat.reduceSub, AV.int, AV.bool, AV.str, Nat.reduceBEq, Nat.reduceEqDiff, Nat.reduceMul, Nat.reduceLT, Nat.reduceLeDiff, Int.reduceNeg, BEq.rfl, beq_self_eq_true, tabl, cellsOf, fldA, ldA, stA, entAt, partA, takeN, over, leafOk, Value.oneCell', idxA, nilA, cellsEq, fillA, elemsA, pure1, pure2, reps, chkA, tys, Try.results5, KX_draw, KX_drawQ, KX_tail, lastO_one, lastO_more, dropL_one, dropL_more, callP_eq, callM_true, ext_mv1, e0, e1, e2, e7, e9, e10, e12, d2, rowsA, coefsA, strsA, hF2, hwm, dq, hM2, hSm, hA, hM, hO, hA]
      | true =>
        have d1 := d1 rfl
        cases sp with
        | false =>
          simp (maxSteps := 1000000) +contextual (disch := first | with_reducible assumption | exact ⟨rfl⟩ | exact ⟨rfl, rfl⟩ | (refine _root_.id ?_; kernel_rfl) | omega) only [evs, ext_mv, nth, put, putT, getT, binInt, binStr, binBool, aUn, outA, resA, mapO, resA1, oneOf, w1, w2, w3, bots, cond_true, cond_false, if_true, if_false, ite_true, ite_false, reduceIte, reduceCtorEq, implies_true, Nat.reduceAdd, Nat.reduceSub, AV.int, AV.bool, AV.str, Nat.reduceBEq, Nat.reduceEqDiff, Nat.reduceMul, Nat.reduceLT, Nat.reduceLeDiff, Int.reduceNeg, BEq.rfl, beq_self_eq_true, tabl, cellsOf, fldA, ldA, stA, entAt, partA, takeN, over, leafOk, Value.oneCell', idxA, nilA, cellsEq, fillA, elemsA, pure1, pure2, reps, chkA, tys, Try.results5, KX_draw, KX_drawQ, KX_tail, lastO_one, lastO_more, dropL_one, dropL_more, callP_eq, callM_true, ext_mv1, e0, e1, e2, e7, e8, e9, e10, e11, coefsA, strsA, d1]
          refine loop1 (P := Try.prog) (fun x st => st.T.length = 205 ∧ (x ≤ qv.length) ∧ getT st.T 0 = rowsA l ∧ getT st.T 1 = .int most ∧ getT st.T 2 = coefsA p ∧ getT st.T 7 = coefsA qv ∧ getT st.T 9 = strsA ns ∧ getT st.T 10 = .bool true ∧ getT st.T 12 = .int (x : Nat) ∧ st.S = []) (fun x => qv.length - x) (fun x => .bool true) (0) ?_ ?_
          case refine_2 => exact ⟨rfl, Nat.zero_le _, rfl, rfl, rfl, rfl, rfl, rfl, rfl, rfl⟩
          rintro j ⟨T, S', tk', n'⟩ ⟨hl, hj, e0, e1, e2, e7, e9, e10, e12, eS⟩ IH
          subst eS
          obtain ⟨g, hg, hT⟩ := tab_of hl
          rw [hg] at e0 e1 e2 e7 e9 e10 e12
          subst hT
          clear hg hl
          have hjw := wrap_add (i := j) (m := 0) (by omega)
          by_cases hlt : j < qv.length
          · have d2 : decide ((j : Int) < (qv.length : Int)) = true := by simpa using hlt
            have d4 : decide ((j : Int) ≥ (ns.length : Int)) = false := by simp; omega
            obtain ⟨c, hx⟩ := nth_some hlt
            obtain ⟨s, hs⟩ := nth_some (show j < ns.length by omega)
            have hx' := nth_coef hx
            have hs' : nth (ns.map strC) j = some (strC s) := by rw [nth_map, hs]; rfl
            have hcs : c.1 = s := by
              have : nth (qv.map (·.1)) j = some c.1 := by rw [nth_map, hx]; rfl
              rw [k1, hs] at this
              exact (Option.some.inj this).symm
            have hse : sEq c.1 s = true := by rw [sEq_nm]; simpa using hcs
            have hcc := k2 c (mem_nth hx)
            have a2 : decide (c.2 < -most) = false := by simp; omega
            have a3 : decide (c.2 > most) = false := by simp; omega
            simp only [coefC, strC] at hx' hs'
            simp (maxSteps := 1000000) +contextual (disch := first | with_reducible assumption | exact ⟨rfl⟩ | exact ⟨rfl, rfl⟩ | (refine _root_.id ?_; kernel_rfl) | omega) only [evs, ext_mv, nth, put, putT, getT, binInt, binStr, binBool, aUn, outA, resA, mapO, resA1, oneOf, w1, w2, w3, bots, cond_true, cond_false, if_true, if_false, ite_true, ite_false, reduceIte, reduceCtorEq, implies_true, Nat.reduceAdd, Nat.reduceSub, AV.int, AV.bool, AV.str, Nat.reduceBEq, Nat.reduceEqDiff, Nat.reduceMul, Nat.reduceLT, Nat.reduceLeDiff, Int.reduceNeg, BEq.rfl, beq_self_eq_true, tabl, cellsOf, fldA, ldA, stA, entAt, partA, takeN, over, leafOk, Value.oneCell', idxA, nilA, cellsEq, fillA, elemsA, pure1, pure2, reps, chkA, tys, Try.results5, KX_draw, KX_drawQ, KX_tail, lastO_one, lastO_more, dropL_one, dropL_more, callP_eq, callM_true, ext_mv1, e0, e1, e2, e7, e9, e10, e12, d2, d4, coefsA, strsA, hx', hs', hse, a2, a3, hjw, hneg, strC, Bool.not_true]
            exact IH (j + 1) _ (by first | omega | (simp only; omega)) ⟨rfl, by first | omega | (dsimp only; omega), rfl, rfl, rfl, rfl, rfl, rfl, rfl, rfl⟩
          · have d2 : decide ((j : Int) < (qv.length : Int)) = false := by simpa using hlt
            simp (maxSteps := 1000000) +contextual (disch := first | with_reducible assumption | exact ⟨rfl⟩ | exact ⟨rfl, rfl⟩ | (refine _root_.id ?_; kernel_rfl) | omega) only [evs, ext_mv, nth, put, putT, getT, binInt, binStr, binBool, aUn, outA, resA, mapO, resA1, oneOf, w1, w2, w3, bots, cond_true, cond_false, if_true, if_false, ite_true, ite_false, reduceIte, reduceCtorEq, implies_true, Nat.reduceAdd, Nat.reduceSub, AV.int, AV.bool, AV.str, Nat.reduceBEq, Nat.reduceEqDiff, Nat.reduceMul, Nat.reduceLT, Nat.reduceLeDiff, Int.reduceNeg, BEq.rfl, beq_self_eq_true, tabl, cellsOf, fldA, ldA, stA, entAt, partA, takeN, over, leafOk, Value.oneCell', idxA, nilA, cellsEq, fillA, elemsA, pure1, pure2, reps, chkA, tys, Try.results5, KX_draw, KX_drawQ, KX_tail, lastO_one, lastO_more, dropL_one, dropL_more, callP_eq, callM_true, ext_mv1, e0, e1, e2, e7, e9, e10, e12, d2, rowsA, coefsA, strsA, hF2, hwm, dq, hM2, hSm, hA, hM, hO, hA]
        | true =>
          have dk : decide (od ≤ 0) = true := by simpa using key
          simp (maxSteps := 1000000) +contextual (disch := first | with_reducible assumption | exact ⟨rfl⟩ | exact ⟨rfl, rfl⟩ | (refine _root_.id ?_; kernel_rfl) | omega) only [evs, ext_mv, nth, put, putT, getT, binInt, binStr, binBool, aUn, outA, resA, mapO, resA1, oneOf, w1, w2, w3, bots, cond_true, cond_false, if_true, if_false, ite_true, ite_false, reduceIte, reduceCtorEq, implies_true, Nat.reduceAdd, Nat.reduceSub, AV.int, AV.bool, AV.str, Nat.reduceBEq, Nat.reduceEqDiff, Nat.reduceMul, Nat.reduceLT, Nat.reduceLeDiff, Int.reduceNeg, BEq.rfl, beq_self_eq_true, tabl, cellsOf, fldA, ldA, stA, entAt, partA, takeN, over, leafOk, Value.oneCell', idxA, nilA, cellsEq, fillA, elemsA, pure1, pure2, reps, chkA, tys, Try.results5, KX_draw, KX_drawQ, KX_tail, lastO_one, lastO_more, dropL_one, dropL_more, callP_eq, callM_true, ext_mv1, e0, e1, e2, e7, e8, e9, e10, e11, coefsA, strsA, d1]
          refine loop1 (P := Try.prog) (fun x st => st.T.length = 205 ∧ (x ≤ qv.length) ∧ getT st.T 0 = rowsA l ∧ getT st.T 1 = .int most ∧ getT st.T 2 = coefsA p ∧ getT st.T 7 = coefsA qv ∧ getT st.T 9 = strsA ns ∧ getT st.T 10 = .bool true ∧ getT st.T 12 = .int (x : Nat) ∧ st.S = []) (fun x => qv.length - x) (fun x => .bool true) (0) ?_ ?_
          case refine_2 => exact ⟨rfl, Nat.zero_le _, rfl, rfl, rfl, rfl, rfl, rfl, rfl, rfl⟩
          rintro j ⟨T, S', tk', n'⟩ ⟨hl, hj, e0, e1, e2, e7, e9, e10, e12, eS⟩ IH
          subst eS
          obtain ⟨g, hg, hT⟩ := tab_of hl
          rw [hg] at e0 e1 e2 e7 e9 e10 e12
          subst hT
          clear hg hl
          have hjw := wrap_add (i := j) (m := 0) (by omega)
          by_cases hlt : j < qv.length
          · have d2 : decide ((j : Int) < (qv.length : Int)) = true := by simpa using hlt
            have d4 : decide ((j : Int) ≥ (ns.length : Int)) = false := by simp; omega
            obtain ⟨c, hx⟩ := nth_some hlt
            obtain ⟨s, hs⟩ := nth_some (show j < ns.length by omega)
            have hx' := nth_coef hx
            have hs' : nth (ns.map strC) j = some (strC s) := by rw [nth_map, hs]; rfl
            have hcs : c.1 = s := by
              have : nth (qv.map (·.1)) j = some c.1 := by rw [nth_map, hx]; rfl
              rw [k1, hs] at this
              exact (Option.some.inj this).symm
            have hse : sEq c.1 s = true := by rw [sEq_nm]; simpa using hcs
            have hcc := k2 c (mem_nth hx)
            have a2 : decide (c.2 < -most) = false := by simp; omega
            have a3 : decide (c.2 > most) = false := by simp; omega
            simp only [coefC, strC] at hx' hs'
            simp (maxSteps := 1000000) +contextual (disch := first | with_reducible assumption | exact ⟨rfl⟩ | exact ⟨rfl, rfl⟩ | (refine _root_.id ?_; kernel_rfl) | omega) only [evs, ext_mv, nth, put, putT, getT, binInt, binStr, binBool, aUn, outA, resA, mapO, resA1, oneOf, w1, w2, w3, bots, cond_true, cond_false, if_true, if_false, ite_true, ite_false, reduceIte, reduceCtorEq, implies_true, Nat.reduceAdd, Nat.reduceSub, AV.int, AV.bool, AV.str, Nat.reduceBEq, Nat.reduceEqDiff, Nat.reduceMul, Nat.reduceLT, Nat.reduceLeDiff, Int.reduceNeg, BEq.rfl, beq_self_eq_true, tabl, cellsOf, fldA, ldA, stA, entAt, partA, takeN, over, leafOk, Value.oneCell', idxA, nilA, cellsEq, fillA, elemsA, pure1, pure2, reps, chkA, tys, Try.results5, KX_draw, KX_drawQ, KX_tail, lastO_one, lastO_more, dropL_one, dropL_more, callP_eq, callM_true, ext_mv1, e0, e1, e2, e7, e9, e10, e12, d2, d4, coefsA, strsA, hx', hs', hse, a2, a3, hjw, hneg, strC, Bool.not_true]
            exact IH (j + 1) _ (by first | omega | (simp only; omega)) ⟨rfl, by first | omega | (dsimp only; omega), rfl, rfl, rfl, rfl, rfl, rfl, rfl, rfl⟩
          · have d2 : decide ((j : Int) < (qv.length : Int)) = false := by simpa using hlt
            simp (maxSteps := 1000000) +contextual (disch := first | with_reducible assumption | exact ⟨rfl⟩ | exact ⟨rfl, rfl⟩ | (refine _root_.id ?_; kernel_rfl) | omega) only [evs, ext_mv, nth, put, putT, getT, binInt, binStr, binBool, aUn, outA, resA, mapO, resA1, oneOf, w1, w2, w3, bots, cond_true, cond_false, if_true, if_false, ite_true, ite_false, reduceIte, reduceCtorEq, implies_true, Nat.reduceAdd, Nat.reduceSub, AV.int, AV.bool, AV.str, Nat.reduceBEq, Nat.reduceEqDiff, Nat.reduceMul, Nat.reduceLT, Nat.reduceLeDiff, Int.reduceNeg, BEq.rfl, beq_self_eq_true, tabl, cellsOf, fldA, ldA, stA, entAt, partA, takeN, over, leafOk, Value.oneCell', idxA, nilA, cellsEq, fillA, elemsA, pure1, pure2, reps, chkA, tys, Try.results5, KX_draw, KX_drawQ, KX_tail, lastO_one, lastO_more, dropL_one, dropL_more, callP_eq, callM_true, ext_mv1, e0, e1, e2, e7, e9, e10, e12, d2, rowsA, coefsA, strsA, hF2, hwm, dq, hM2, hSm, hA, hM, hO, dk]
end
end Go.Proofs.Ytcandeobhlfkbaa
