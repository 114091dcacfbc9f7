/-
  Texts laid together: E10, EAwake, E4, E11, DN1, DN2, DP0, DR1.
-/
import Derived.Test.YtkghgdkkholieaaDoorZA10
/-
  Sums and multiples of forms by the reference, multiples by the program, and when forms are the same.
-/

namespace Go.Proofs.YtkghgdkkholieaaDoor
open Go

section
variable (S : List Ent) (tk : List Nat) (k : Nat)
theorem R11_right (cs : List (ByteArray × Int)) (n : Int) (c : Cap) (hlen : cs.length ≤ 1048576) : cL Tryd.prog 64 [.agg [.frz (cs.map coefC) c, .int n]] S tk k = some (.tup [linA (rightF cs n).1.1 (rightF cs n).1.2, .bool (rightF cs n).2], S, tk, k) := by
  have hC := fun S tk k => R11_Check S tk k cs n hlen
  have hr := rowsOk_map (f := coefC) (sz := 2) (fun _ => rfl) cs
  have hl : ([] : List (List AV)).length + (cs.map coefC).length ≤ 1048576 := by simp; omega
  simp only [linA, coefsA] at hC
  refine call_pure Tryd.func64 rfl rfl (by decide +kernel) (by decide +kernel) Tryd.ntmps64 rfl rfl _ _ _ rfl ?_; rw [RK_KX]
  by_cases h0 : checkF cs n = 0
  · have d0 : (checkF cs n != 0) = false := by simp [h0]
    simp (maxSteps := 1000000) +contextual (disch := first | with_reducible assumption | exact ⟨rfl⟩ | exact ⟨rfl, rfl⟩ | (refine _root_.id ?_; kernel_rfl) | omega) only [evs, ext_mv, nth, put, putT, getT, binInt, binStr, binBool, aUn, outA, resA, mapO, resA1, oneOf, w1, w2, w3, bots, cond_true, cond_false, if_true, if_false, ite_true, ite_false, reduceIte, reduceCtorEq, implies_true, Nat.reduceAdd, Nat.reduceSub, AV.int, AV.bool, AV.str, Nat.reduceBEq, Nat.reduceEqDiff, Nat.reduceMul, Nat.reduceLT, Nat.reduceLeDiff, Int.reduceNeg, BEq.rfl, beq_self_eq_true, tabl, cellsOf, fldA, ldA, stA, entAt, partA, takeN, over, leafOk, Value.oneCell', idxA, nilA, cellsEq, fillA, elemsA, pure1, pure2, reps, chkA, tys, Tryd.results64, KX_draw, KX_drawQ, KX_tail, lastO_one, lastO_more, dropL_one, dropL_more, callP_eq, callM_true, hC, d0, w2, w1, litA_nil, hr]
    simp [rightF, h0, linA, coefsA]
  · have d0 : (checkF cs n != 0) = true := by simpa using h0
    simp (maxSteps := 1000000) +contextual (disch := first | with_reducible assumption | exact ⟨rfl⟩ | exact ⟨rfl, rfl⟩ | (refine _root_.id ?_; kernel_rfl) | omega) only [evs, ext_mv, nth, put, putT, getT, binInt, binStr, binBool, aUn, outA, resA, mapO, resA1, oneOf, w1, w2, w3, bots, cond_true, cond_false, if_true, if_false, ite_true, ite_false, reduceIte, reduceCtorEq, implies_true, Nat.reduceAdd, Nat.reduceSub, AV.int, AV.bool, AV.str, Nat.reduceBEq, Nat.reduceEqDiff, Nat.reduceMul, Nat.reduceLT, Nat.reduceLeDiff, Int.reduceNeg, BEq.rfl, beq_self_eq_true, tabl, cellsOf, fldA, ldA, stA, entAt, partA, takeN, over, leafOk, Value.oneCell', idxA, nilA, cellsEq, fillA, elemsA, pure1, pure2, reps, chkA, tys, Tryd.results64, KX_draw, KX_drawQ, KX_tail, lastO_one, lastO_more, dropL_one, dropL_more, callP_eq, callM_true, hC, d0, w2, w1]
    simp [rightF, h0, linA, coefsA]
set_option maxRecDepth 100000 in
theorem R11_Add (a b : List (ByteArray × Int)) (n m : Int) (ha : a.length ≤ 100000) (hb : b.length ≤ 100000) : cL Tryd.prog 50 [linA a n, linA b m] S tk k = some (.tup [linA (addL a n b m).1.1 (addL a n b m).1.2, .bool (addL a n b m).2], S, tk, k) := by
  have hCa := fun S tk k => R11_Check S tk k a n (by omega)
  have hCb := fun S tk k => R11_Check S tk k b m (by omega)
  simp only [linA, coefsA] at hCa hCb
  refine call_pure Tryd.func50 rfl rfl (by decide +kernel) (by decide +kernel) Tryd.ntmps50 rfl rfl _ _ _ rfl ?_; rw [RK_KX]
  by_cases ea : checkF a n = 0
  case neg =>
    have da : (checkF a n != 0) = true := by simpa using ea
    simp (maxSteps := 1000000) +contextual (disch := first | with_reducible assumption | exact ⟨rfl⟩ | exact ⟨rfl, rfl⟩ | (refine _root_.id ?_; kernel_rfl) | omega) only [evs, ext_mv, nth, put, putT, getT, binInt, binStr, binBool, aUn, outA, resA, mapO, resA1, oneOf, w1, w2, w3, bots, cond_true, cond_false, if_true, if_false, ite_true, ite_false, reduceIte, reduceCtorEq, implies_true, Nat.reduceAdd, Nat.reduceSub, AV.int, AV.bool, AV.str, Nat.reduceBEq, Nat.reduceEqDiff, Nat.reduceMul, Nat.reduceLT, Nat.reduceLeDiff, Int.reduceNeg, BEq.rfl, beq_self_eq_true, tabl, cellsOf, fldA, ldA, stA, entAt, partA, takeN, over, leafOk, Value.oneCell', idxA, nilA, cellsEq, fillA, elemsA, pure1, pure2, reps, chkA, tys, Tryd.results50, KX_draw, KX_drawQ, KX_tail, lastO_one, lastO_more, dropL_one, dropL_more, callP_eq, callM_true, linA, coefsA, hCa, da]
    simp [addL, ea]
  have da : (checkF a n != 0) = false := by simp [ea]
  by_cases eb : checkF b m = 0
  case neg =>
    have db : (checkF b m != 0) = true := by simpa using eb
    simp (maxSteps := 1000000) +contextual (disch := first | with_reducible assumption | exact ⟨rfl⟩ | exact ⟨rfl, rfl⟩ | (refine _root_.id ?_; kernel_rfl) | omega) only [evs, ext_mv, nth, put, putT, getT, binInt, binStr, binBool, aUn, outA, resA, mapO, resA1, oneOf, w1, w2, w3, bots, cond_true, cond_false, if_true, if_false, ite_true, ite_false, reduceIte, reduceCtorEq, implies_true, Nat.reduceAdd, Nat.reduceSub, AV.int, AV.bool, AV.str, Nat.reduceBEq, Nat.reduceEqDiff, Nat.reduceMul, Nat.reduceLT, Nat.reduceLeDiff, Int.reduceNeg, BEq.rfl, beq_self_eq_true, tabl, cellsOf, fldA, ldA, stA, entAt, partA, takeN, over, leafOk, Value.oneCell', idxA, nilA, cellsEq, fillA, elemsA, pure1, pure2, reps, chkA, tys, Tryd.results50, KX_draw, KX_drawQ, KX_tail, lastO_one, lastO_more, dropL_one, dropL_more, callP_eq, callM_true, linA, coefsA, hCa, da, hCb, db]
    simp [addL, eb]
  have db : (checkF b m != 0) = false := by simp [eb]
  have hw := add_wrap (check_ok ea).2.1 (check_ok eb).2.1
  simp (maxSteps := 1000000) +contextual (disch := first | with_reducible assumption | exact ⟨rfl⟩ | exact ⟨rfl, rfl⟩ | (refine _root_.id ?_; kernel_rfl) | omega) only [evs, ext_mv, nth, put, putT, getT, binInt, binStr, binBool, aUn, outA, resA, mapO, resA1, oneOf, w1, w2, w3, bots, cond_true, cond_false, if_true, if_false, ite_true, ite_false, reduceIte, reduceCtorEq, implies_true, Nat.reduceAdd, Nat.reduceSub, AV.int, AV.bool, AV.str, Nat.reduceBEq, Nat.reduceEqDiff, Nat.reduceMul, Nat.reduceLT, Nat.reduceLeDiff, Int.reduceNeg, BEq.rfl, beq_self_eq_true, tabl, cellsOf, fldA, ldA, stA, entAt, partA, takeN, over, leafOk, Value.oneCell', idxA, nilA, cellsEq, fillA, elemsA, pure1, pure2, reps, chkA, tys, Tryd.results50, KX_draw, KX_drawQ, KX_tail, lastO_one, lastO_more, dropL_one, dropL_more, callP_eq, callM_true, linA, coefsA, hCa, da, hCb, db, hw]
  have hba := (check_ok ea).1
  have hbb := (check_ok eb).1
  have hadd : addL a n b m = rightF (mergeF a b) (n + m) := by simp [addL, ea, eb]
  rw [hadd]
  clear hadd hCa hCb da db hw
  refine loop1 (P := Tryd.prog) (fun x st => st.T.length = 146 ∧ (x.1 ≤ a.length) ∧ (x.2.1 ≤ b.length) ∧ (x.2.2.1.length ≤ x.1 + x.2.1) ∧ (okCap st.tk x.2.2.2 2 = true) ∧ (mergeF a b = x.2.2.1 ++ mergeF (a.drop x.1) (b.drop x.2.1)) ∧ getT st.T 2 = .ref 0 0 0 ∧ getT st.T 3 = .ref 1 1 0 ∧ getT st.T 4 = .ref 2 2 0 ∧ getT st.T 6 = .ref 3 3 0 ∧ getT st.T 7 = .int (x.1 : Nat) ∧ getT st.T 8 = .int (x.2.1 : Nat) ∧ st.S = [⟨0, [coefsA a, .int n]⟩, ⟨1, [coefsA b, .int m]⟩, ⟨2, [.frz [] .nilc, .int 0]⟩, ⟨3, [.frz (x.2.2.1.map coefC) x.2.2.2, .int (n + m)]⟩]) (fun x => a.length - x.1 + (b.length - x.2.1)) (fun x => .tup [linA (rightF (mergeF a b) (n + m)).1.1 (rightF (mergeF a b) (n + m)).1.2, .bool (rightF (mergeF a b) (n + m)).2]) (0, 0, [], .nilc) ?_ ?_
  case refine_2 => exact ⟨rfl, Nat.zero_le _, Nat.zero_le _, Nat.le_refl _, rfl, rfl, rfl, rfl, rfl, rfl, rfl, rfl, rfl⟩
  rintro ⟨i, j, o, c⟩ ⟨T, S', tk', n'⟩ ⟨hl, hi, hj, ho, hok, hm, e2, e3, e4, e6, e7, e8, eS⟩ IH
  simp only at hi hj ho hok hm e2 e3 e4 e6 e7 e8 eS
  subst eS
  obtain ⟨g, hg, hT⟩ := tab_of hl
  rw [hg] at e2 e3 e4 e6 e7 e8
  subst hT
  clear hg hl
  have hr := rowsOk_map (f := coefC) (sz := 2) (fun _ => rfl) o
  have hn : (o.map coefC).length + 1 ≤ 1048576 := by simp; omega
  have hok' := okCap_new hok
  by_cases la : i < a.length
  · have d1 : decide ((i : Int) < (a.length : Int)) = true := by simpa using la
    have d1' : ((i : Int) == (a.length : Int)) = false := by simp; omega
    obtain ⟨x, hx⟩ := nth_some la
    have hx' : nth (a.map coefC) i = some (coefC x) := by rw [nth_map, hx]; rfl
    have hwi := wrap_add (i := i) (m := 0) (by omega)
    rw [nth_drop hx] at hm
    by_cases lb : j < b.length
    · have d2 : decide ((j : Int) < (b.length : Int)) = true := by simpa using lb
      have d2' : ((j : Int) == (b.length : Int)) = false := by simp; omega
      obtain ⟨y, hy⟩ := nth_some lb
      have hy' : nth (b.map coefC) j = some (coefC y) := by rw [nth_map, hy]; rfl
      have hwj := wrap_add (i := j) (m := 0) (by omega)
      have hxm : x ∈ a := by rw [nth_get] at hx; exact List.mem_of_getElem? hx
      have hym : y ∈ b := by rw [nth_get] at hy; exact List.mem_of_getElem? hy
      have hws := add_wrap (hba x hxm).1 (hbb y hym).1
      rw [nth_drop hy, mergeF] at hm
      simp (maxSteps := 1000000) +contextual (disch := first | with_reducible assumption | exact ⟨rfl⟩ | exact ⟨rfl, rfl⟩ | (refine _root_.id ?_; kernel_rfl) | omega) only [evs, ext_mv, nth, put, putT, getT, binInt, binStr, binBool, aUn, outA, resA, mapO, resA1, oneOf, w1, w2, w3, bots, cond_true, cond_false, if_true, if_false, ite_true, ite_false, reduceIte, reduceCtorEq, implies_true, Nat.reduceAdd, Nat.reduceSub, AV.int, AV.bool, AV.str, Nat.reduceBEq, Nat.reduceEqDiff, Nat.reduceMul, Nat.reduceLT, Nat.reduceLeDiff, Int.reduceNeg, BEq.rfl, beq_self_eq_true, tabl, cellsOf, fldA, ldA, stA, entAt, partA, takeN, over, leafOk, Value.oneCell', idxA, nilA, cellsEq, fillA, elemsA, pure1, pure2, reps, chkA, tys, Tryd.results50, KX_draw, KX_drawQ, KX_tail, lastO_one, lastO_more, dropL_one, dropL_more, callP_eq, callM_true, e2, e3, e4, e6, e7, e8, d1, d1', d2, d2', coefsA, hx', hy', hwi, hwj, hws, coefC, hr]
      refine ⟨fun h1 => ?_, fun h1 => ⟨fun h2 => ?_, fun h2 => ⟨fun h3 => ?_, fun h3 => ?_⟩⟩⟩
      · rw [if_pos h1] at hm
        exact IH (i + 1, j, o ++ [x], capNew tk' c 2) _ (by first | omega | (simp only; omega)) ⟨rfl, by first | omega | (dsimp only; omega), hj, by simp; omega, hok', by simp only [hm, nth_drop hy, List.append_assoc, List.cons_append, List.nil_append], (by first | rfl | simp only [getT, List.map_append, List.map_cons, List.map_nil, coefC, coefsA]), (by first | rfl | simp only [getT, List.map_append, List.map_cons, List.map_nil, coefC, coefsA]), (by first | rfl | simp only [getT, List.map_append, List.map_cons, List.map_nil, coefC, coefsA]), (by first | rfl | simp only [getT, List.map_append, List.map_cons, List.map_nil, coefC, coefsA]), (by first | rfl | simp only [getT, List.map_append, List.map_cons, List.map_nil, coefC, coefsA]), (by first | rfl | simp only [getT, List.map_append, List.map_cons, List.map_nil, coefC, coefsA]), (by first | rfl | simp only [getT, List.map_append, List.map_cons, List.map_nil, coefC, coefsA])⟩
      · rw [if_neg (by rw [h1]; simp), if_pos h2] at hm
        exact IH (i, j + 1, o ++ [y], capNew tk' c 2) _ (by first | omega | (simp only; omega)) ⟨rfl, hi, by first | omega | (dsimp only; omega), by simp; omega, hok', by simp only [hm, nth_drop hx, List.append_assoc, List.cons_append, List.nil_append], (by first | rfl | simp only [getT, List.map_append, List.map_cons, List.map_nil, coefC, coefsA]), (by first | rfl | simp only [getT, List.map_append, List.map_cons, List.map_nil, coefC, coefsA]), (by first | rfl | simp only [getT, List.map_append, List.map_cons, List.map_nil, coefC, coefsA]), (by first | rfl | simp only [getT, List.map_append, List.map_cons, List.map_nil, coefC, coefsA]), (by first | rfl | simp only [getT, List.map_append, List.map_cons, List.map_nil, coefC, coefsA]), (by first | rfl | simp only [getT, List.map_append, List.map_cons, List.map_nil, coefC, coefsA]), (by first | rfl | simp only [getT, List.map_append, List.map_cons, List.map_nil, coefC, coefsA])⟩
      · have h3' : ¬ x.2 + y.2 = 0 := by simpa using h3
        rw [if_neg (by rw [h1]; simp), if_neg (by rw [h2]; simp), if_neg h3'] at hm
        exact IH (i + 1, j + 1, o ++ [(x.1, x.2 + y.2)], capNew tk' c 2) _ (by first | omega | (simp only; omega)) ⟨rfl, by first | omega | (dsimp only; omega), by first | omega | (dsimp only; omega), by simp; omega, hok', by simp only [hm, List.append_assoc, List.cons_append, List.nil_append], (by first | rfl | simp only [getT, List.map_append, List.map_cons, List.map_nil, coefC, coefsA]), (by first | rfl | simp only [getT, List.map_append, List.map_cons, List.map_nil, coefC, coefsA]), (by first | rfl | simp only [getT, List.map_append, List.map_cons, List.map_nil, coefC, coefsA]), (by first | rfl | simp only [getT, List.map_append, List.map_cons, List.map_nil, coefC, coefsA]), (by first | rfl | simp only [getT, List.map_append, List.map_cons, List.map_nil, coefC, coefsA]), (by first | rfl | simp only [getT, List.map_append, List.map_cons, List.map_nil, coefC, coefsA]), (by first | rfl | simp only [getT, List.map_append, List.map_cons, List.map_nil, coefC, coefsA])⟩
      · have h3' : x.2 + y.2 = 0 := by simpa using h3
        rw [if_neg (by rw [h1]; simp), if_neg (by rw [h2]; simp), if_pos h3'] at hm
        exact IH (i + 1, j + 1, o, c) _ (by first | omega | (simp only; omega)) ⟨rfl, by first | omega | (dsimp only; omega), by first | omega | (dsimp only; omega), by first | omega | (dsimp only; omega), hok, hm, (by first | rfl | simp only [getT, List.map_append, List.map_cons, List.map_nil, coefC, coefsA]), (by first | rfl | simp only [getT, List.map_append, List.map_cons, List.map_nil, coefC, coefsA]), (by first | rfl | simp only [getT, List.map_append, List.map_cons, List.map_nil, coefC, coefsA]), (by first | rfl | simp only [getT, List.map_append, List.map_cons, List.map_nil, coefC, coefsA]), (by first | rfl | simp only [getT, List.map_append, List.map_cons, List.map_nil, coefC, coefsA]), (by first | rfl | simp only [getT, List.map_append, List.map_cons, List.map_nil, coefC, coefsA]), (by first | rfl | simp only [getT, List.map_append, List.map_cons, List.map_nil, coefC, coefsA])⟩
    · have d2 : decide ((j : Int) < (b.length : Int)) = false := by simpa using lb
      have hj2 : j = b.length := by omega
      have d2' : ((j : Int) == (b.length : Int)) = true := by simp; omega
      rw [hj2, List.drop_length, mergeF_right] at hm
      simp (maxSteps := 1000000) +contextual (disch := first | with_reducible assumption | exact ⟨rfl⟩ | exact ⟨rfl, rfl⟩ | (refine _root_.id ?_; kernel_rfl) | omega) only [evs, ext_mv, nth, put, putT, getT, binInt, binStr, binBool, aUn, outA, resA, mapO, resA1, oneOf, w1, w2, w3, bots, cond_true, cond_false, if_true, if_false, ite_true, ite_false, reduceIte, reduceCtorEq, implies_true, Nat.reduceAdd, Nat.reduceSub, AV.int, AV.bool, AV.str, Nat.reduceBEq, Nat.reduceEqDiff, Nat.reduceMul, Nat.reduceLT, Nat.reduceLeDiff, Int.reduceNeg, BEq.rfl, beq_self_eq_true, tabl, cellsOf, fldA, ldA, stA, entAt, partA, takeN, over, leafOk, Value.oneCell', idxA, nilA, cellsEq, fillA, elemsA, pure1, pure2, reps, chkA, tys, Tryd.results50, KX_draw, KX_drawQ, KX_tail, lastO_one, lastO_more, dropL_one, dropL_more, callP_eq, callM_true, e2, e3, e4, e6, e7, e8, d1, d1', d2, d2', coefsA, hx', hwi, coefC, hr]
      exact IH (i + 1, j, o ++ [x], capNew tk' c 2) _ (by first | omega | (simp only; omega)) ⟨rfl, by first | omega | (dsimp only; omega), hj, by simp; omega, hok', by simp only [hj2, hm, List.drop_length, mergeF_right, List.append_assoc, List.cons_append, List.nil_append], (by first | rfl | simp only [getT, List.map_append, List.map_cons, List.map_nil, coefC, coefsA]), (by first | rfl | simp only [getT, List.map_append, List.map_cons, List.map_nil, coefC, coefsA]), (by first | rfl | simp only [getT, List.map_append, List.map_cons, List.map_nil, coefC, coefsA]), (by first | rfl | simp only [getT, List.map_append, List.map_cons, List.map_nil, coefC, coefsA]), (by first | rfl | simp only [getT, List.map_append, List.map_cons, List.map_nil, coefC, coefsA]), (by first | rfl | simp only [getT, List.map_append, List.map_cons, List.map_nil, coefC, coefsA]), (by first | rfl | simp only [getT, List.map_append, List.map_cons, List.map_nil, coefC, coefsA])⟩
  · have d1 : decide ((i : Int) < (a.length : Int)) = false := by simpa using la
    have hi2 : i = a.length := by omega
    have d1' : ((i : Int) == (a.length : Int)) = true := by simp; omega
    rw [hi2, List.drop_length, mergeF_nil] at hm
    by_cases lb : j < b.length
    · have d2 : decide ((j : Int) < (b.length : Int)) = true := by simpa using lb
      have d2' : ((j : Int) == (b.length : Int)) = false := by simp; omega
      obtain ⟨y, hy⟩ := nth_some lb
      have hy' : nth (b.map coefC) j = some (coefC y) := by rw [nth_map, hy]; rfl
      have hwj := wrap_add (i := j) (m := 0) (by omega)
      rw [nth_drop hy] at hm
      simp (maxSteps := 1000000) +contextual (disch := first | with_reducible assumption | exact ⟨rfl⟩ | exact ⟨rfl, rfl⟩ | (refine _root_.id ?_; kernel_rfl) | omega) only [evs, ext_mv, nth, put, putT, getT, binInt, binStr, binBool, aUn, outA, resA, mapO, resA1, oneOf, w1, w2, w3, bots, cond_true, cond_false, if_true, if_false, ite_true, ite_false, reduceIte, reduceCtorEq, implies_true, Nat.reduceAdd, Nat.reduceSub, AV.int, AV.bool, AV.str, Nat.reduceBEq, Nat.reduceEqDiff, Nat.reduceMul, Nat.reduceLT, Nat.reduceLeDiff, Int.reduceNeg, BEq.rfl, beq_self_eq_true, tabl, cellsOf, fldA, ldA, stA, entAt, partA, takeN, over, leafOk, Value.oneCell', idxA, nilA, cellsEq, fillA, elemsA, pure1, pure2, reps, chkA, tys, Tryd.results50, KX_draw, KX_drawQ, KX_tail, lastO_one, lastO_more, dropL_one, dropL_more, callP_eq, callM_true, e2, e3, e4, e6, e7, e8, d1, d1', d2, d2', coefsA, hy', hwj, coefC, hr]
      exact IH (i, j + 1, o ++ [y], capNew tk' c 2) _ (by first | omega | (simp only; omega)) ⟨rfl, hi, by first | omega | (dsimp only; omega), by simp; omega, hok', by simp only [hi2, hm, List.drop_length, mergeF_nil, List.append_assoc, List.cons_append, List.nil_append], (by first | rfl | simp only [getT, List.map_append, List.map_cons, List.map_nil, coefC, coefsA]), (by first | rfl | simp only [getT, List.map_append, List.map_cons, List.map_nil, coefC, coefsA]), (by first | rfl | simp only [getT, List.map_append, List.map_cons, List.map_nil, coefC, coefsA]), (by first | rfl | simp only [getT, List.map_append, List.map_cons, List.map_nil, coefC, coefsA]), (by first | rfl | simp only [getT, List.map_append, List.map_cons, List.map_nil, coefC, coefsA]), (by first | rfl | simp only [getT, List.map_append, List.map_cons, List.map_nil, coefC, coefsA]), (by first | rfl | simp only [getT, List.map_append, List.map_cons, List.map_nil, coefC, coefsA])⟩
    · have d2 : decide ((j : Int) < (b.length : Int)) = false := by simpa using lb
      have hj2 : j = b.length := by omega
      rw [hj2, List.drop_length, List.append_nil] at hm
      have hR := fun S tk k => R11_right S tk k o (n + m) c (by omega)
      simp (maxSteps := 1000000) +contextual (disch := first | with_reducible assumption | exact ⟨rfl⟩ | exact ⟨rfl, rfl⟩ | (refine _root_.id ?_; kernel_rfl) | omega) only [evs, ext_mv, nth, put, putT, getT, binInt, binStr, binBool, aUn, outA, resA, mapO, resA1, oneOf, w1, w2, w3, bots, cond_true, cond_false, if_true, if_false, ite_true, ite_false, reduceIte, reduceCtorEq, implies_true, Nat.reduceAdd, Nat.reduceSub, AV.int, AV.bool, AV.str, Nat.reduceBEq, Nat.reduceEqDiff, Nat.reduceMul, Nat.reduceLT, Nat.reduceLeDiff, Int.reduceNeg, BEq.rfl, beq_self_eq_true, tabl, cellsOf, fldA, ldA, stA, entAt, partA, takeN, over, leafOk, Value.oneCell', idxA, nilA, cellsEq, fillA, elemsA, pure1, pure2, reps, chkA, tys, Tryd.results50, KX_draw, KX_drawQ, KX_tail, lastO_one, lastO_more, dropL_one, dropL_more, callP_eq, callM_true, e2, e3, e4, e6, e7, e8, d1, d2, coefsA, linA, hR]
      rw [hm]
      simp [linA, coefsA]
def mulC (q : Int) (c : ByteArray × Int) : ByteArray × Int := (c.1, (mulS c.2 q).1)
def scaleF (cs : List (ByteArray × Int)) (n q : Int) : (List (ByteArray × Int) × Int) × Bool :=
  if checkF cs n = 0 then
    if q = 0 then (([], 0), true)
    else if inB q = true then (if (mulS n q).2 = true ∧ (cs.all fun c => (mulS c.2 q).2) = true then ((cs.map (mulC q), (mulS n q).1), true) else (([], 0), false))
    else (([], 0), decide (cs = []) && (n == 0))
  else (([], 0), false)
theorem scale_fn (q : Int) (c : ByteArray × Int) (id ep : Nat) (h : entAt S id ep = some [.int q]) : cL Tryd.prog 32 [.agg (coefC c), .ref id ep 0] S tk k = some (.tup [.agg (coefC (mulC q c)), .bool (mulS c.2 q).2], S, tk, k + 2) := by
  refine call_shared Tryd.func32 rfl rfl (by decide +kernel) Tryd.ntmps32 rfl ?_; rw [RK_KX]
  simp (maxSteps := 1000000) +contextual (disch := first | with_reducible assumption | exact ⟨rfl⟩ | exact ⟨rfl, rfl⟩ | (refine _root_.id ?_; kernel_rfl) | omega) only [evs, ext_mv, nth, put, putT, getT, binInt, binStr, binBool, aUn, outA, resA, mapO, resA1, oneOf, w1, w2, w3, bots, cond_true, cond_false, if_true, if_false, ite_true, ite_false, reduceIte, reduceCtorEq, implies_true, Nat.reduceAdd, Nat.reduceSub, AV.int, AV.bool, AV.str, Nat.reduceBEq, Nat.reduceEqDiff, Nat.reduceMul, Nat.reduceLT, Nat.reduceLeDiff, Int.reduceNeg, BEq.rfl, beq_self_eq_true, tabl, cellsOf, fldA, ldA, stA, entAt_new, entAt_old, entAt_old2, List.take_left, List.take_length, partA, takeN, over, leafOk, Value.oneCell', idxA, nilA, cellsEq, fillA, elemsA, pure1, pure2, reps, chkA, tys, Tryd.results32, KX_draw, KX_drawQ, KX_tail, lastO_one, lastO_more, dropL_one, dropL_more, callP_eq, callM_true, coefC, h, num_Mul, mulC]
def eachR (q : Int) : List (ByteArray × Int) → List (ByteArray × Int) → Cap → List Nat → Nat → AV × List Nat × Nat
  | [], acc, c, tk, n => (.tup [.frz (acc.map coefC) c, .bool true], tk, n)
  | x :: r, acc, c, tk, n => if (mulS x.2 q).2 = true then eachR q r (acc ++ [mulC q x]) (capNew tk c 2) (capPut tk c) (n + 4) else (.tup [.frz [] .nilc, .bool false], tk, n + 4)
theorem eachR_ok (q : Int) : ∀ (l acc : List (ByteArray × Int)) (c : Cap) (tk : List Nat) (n : Nat), (l.all fun c => (mulS c.2 q).2) = true → ∃ c' tk' n', eachR q l acc c tk n = (.tup [.frz ((acc ++ l.map (mulC q)).map coefC) c', .bool true], tk', n')
  | [], acc, c, tk, n, _ => ⟨c, tk, n, by simp [eachR]⟩
  | x :: r, acc, c, tk, n, h => by
    simp only [List.all_cons, Bool.and_eq_true] at h
    obtain ⟨c', tk', n', e⟩ := eachR_ok q r (acc ++ [mulC q x]) (capNew tk c 2) (capPut tk c) (n + 4) h.2
    exact ⟨c', tk', n', by rw [eachR, if_pos h.1, e]; simp⟩
theorem eachR_no (q : Int) : ∀ (l acc : List (ByteArray × Int)) (c : Cap) (tk : List Nat) (n : Nat), (l.all fun c => (mulS c.2 q).2) = false → ∃ tk' n', eachR q l acc c tk n = (.tup [.frz [] .nilc, .bool false], tk', n')
  | [], acc, c, tk, n, h => by simp at h
  | x :: r, acc, c, tk, n, h => by
    rw [eachR]
    by_cases hx : (mulS x.2 q).2 = true
    · rw [if_pos hx]
      exact eachR_no q r _ _ _ _ (by simpa [hx] using h)
    · rw [if_neg hx]; exact ⟨_, _, rfl⟩
set_option maxRecDepth 100000 in
theorem each_scale (q : Int) (cs : List (ByteArray × Int)) (id ep : Nat) (hlen : cs.length ≤ 1048576) (h : entAt S id ep = some [.int q]) :
    cL Tryd.prog 31 [coefsA cs, .fn 32 [.ref id ep 0]] S tk k = some ((eachR q cs [] .nilc tk k).1, S, (eachR q cs [] .nilc tk k).2.1, (eachR q cs [] .nilc tk k).2.2) := by
  refine call_shared Tryd.func31 rfl rfl (by decide +kernel) Tryd.ntmps31 rfl ?_; rw [RK_KX]
  simp (maxSteps := 1000000) +contextual (disch := first | with_reducible assumption | exact ⟨rfl⟩ | exact ⟨rfl, rfl⟩ | (refine _root_.id ?_; kernel_rfl) | omega) only [evs, ext_mv, nth, put, putT, getT, binInt, binStr, binBool, aUn, outA, resA, mapO, resA1, oneOf, w1, w2, w3, bots, cond_true, cond_false, if_true, if_false, ite_true, ite_false, reduceIte, reduceCtorEq, implies_true, Nat.reduceAdd, Nat.reduceSub, AV.int, AV.bool, AV.str, Nat.reduceBEq, Nat.reduceEqDiff, Nat.reduceMul, Nat.reduceLT, Nat.reduceLeDiff, Int.reduceNeg, BEq.rfl, beq_self_eq_true, tabl, cellsOf, fldA, ldA, stA, entAt_new, entAt_old, entAt_old2, List.take_left, List.take_length, partA, takeN, over, leafOk, Value.oneCell', idxA, nilA, cellsEq, fillA, elemsA, pure1, pure2, reps, chkA, tys, Tryd.results31, KX_draw, KX_drawQ, KX_tail, lastO_one, lastO_more, dropL_one, dropL_more, callP_eq, callM_true, coefsA]
  refine loopS (P := Tryd.prog) (fun x st => st.T.length = 31 ∧ (x.1 ≤ cs.length) ∧ (x.2.1.length ≤ x.1) ∧ (okCap x.2.2.2.1 x.2.2.1 2 = true) ∧ getT st.T 1 = .fn 32 [.ref id ep 0] ∧ getT st.T 6 = .frz (x.2.1.map coefC) x.2.2.1 ∧ getT st.T 11 = coefsA cs ∧ getT st.T 12 = .int cs.length ∧ getT st.T 13 = .int (x.1 : Nat) ∧ st.S = S ∧ st.tk = x.2.2.2.1 ∧ st.n = x.2.2.2.2) (fun x => cs.length - x.1) (fun x => ((eachR q (cs.drop x.1) x.2.1 x.2.2.1 x.2.2.2.1 x.2.2.2.2).1, S, (eachR q (cs.drop x.1) x.2.1 x.2.2.1 x.2.2.2.1 x.2.2.2.2).2.1, (eachR q (cs.drop x.1) x.2.1 x.2.2.1 x.2.2.2.1 x.2.2.2.2).2.2)) (0, [], .nilc, tk, k) ?_ ?_
  case refine_2 => exact ⟨rfl, Nat.zero_le _, Nat.le_refl _, rfl, rfl, rfl, rfl, rfl, rfl, rfl, rfl, rfl⟩
  rintro ⟨i, o, c, t, m⟩ ⟨T, S', tk', n'⟩ ⟨hl, hi, ho, hok, e1, e6, e11, e12, e13, eS, eT, eN⟩ IH
  simp only at hi ho hok e1 e6 e11 e12 e13 eS eT eN
  subst eS eT eN
  obtain ⟨g, hg, hT⟩ := tab_of hl
  rw [hg] at e1 e6 e11 e12 e13
  subst hT
  clear hg hl
  by_cases hlt : i < cs.length
  · have d1 : decide ((i : Int) < (cs.length : Int)) = true := by simpa using hlt
    obtain ⟨x, hc⟩ := nth_some hlt
    have hc' : nth (cs.map coefC) i = some (coefC x) := by rw [nth_map, hc]; rfl
    have hw := wrap_add (i := i) (m := 0) (by omega)
    have hf := fun e tk k => scale_fn (S' ++ [e]) tk k q x id ep (entAt_old h)
    have hr := rowsOk_map (f := coefC) (sz := 2) (fun _ => rfl) o
    have hn : (o.map coefC).length + 1 ≤ 1048576 := by simp; omega
    have hok' := okCap_new hok
    simp only [coefC] at hf hc'
    rw [nth_drop hc]
    by_cases hx : (mulS x.2 q).2 = true
    · rw [eachR, if_pos hx]
      simp (maxSteps := 1000000) +contextual (disch := first | with_reducible assumption | exact ⟨rfl⟩ | exact ⟨rfl, rfl⟩ | (refine _root_.id ?_; kernel_rfl) | omega) only [evs, ext_mv, nth, put, putT, getT, binInt, binStr, binBool, aUn, outA, resA, mapO, resA1, oneOf, w1, w2, w3, bots, cond_true, cond_false, if_true, if_false, ite_true, ite_false, reduceIte, reduceCtorEq, implies_true, Nat.reduceAdd, Nat.reduceSub, AV.int, AV.bool, AV.str, Nat.reduceBEq, Nat.reduceEqDiff, Nat.reduceMul, Nat.reduceLT, Nat.reduceLeDiff, Int.reduceNeg, BEq.rfl, beq_self_eq_true, tabl, cellsOf, fldA, ldA, stA, entAt_new, entAt_old, entAt_old2, List.take_left, List.take_length, partA, takeN, over, leafOk, Value.oneCell', idxA, nilA, cellsEq, fillA, elemsA, pure1, pure2, reps, chkA, tys, Tryd.results31, KX_draw, KX_drawQ, KX_tail, lastO_one, lastO_more, dropL_one, dropL_more, callP_eq, callM_true, e1, e6, e11, e12, e13, d1, coefsA, hc', hw, hf, coefC, hx]
      exact IH (i + 1, o ++ [mulC q x], capNew tk' c 2, capPut tk' c, n' + 4) _ (by first | omega | (simp only; omega)) ⟨rfl, hlt, by simp; omega, hok', (by first | rfl | simp only [getT, List.map_append, List.map_cons, List.map_nil, coefC, coefsA]), (by first | rfl | simp only [getT, List.map_append, List.map_cons, List.map_nil, coefC, coefsA]), (by first | rfl | simp only [getT, List.map_append, List.map_cons, List.map_nil, coefC, coefsA]), (by first | rfl | simp only [getT, List.map_append, List.map_cons, List.map_nil, coefC, coefsA]), (by first | rfl | simp only [getT, List.map_append, List.map_cons, List.map_nil, coefC, coefsA]), (by first | rfl | simp only [getT, List.map_append, List.map_cons, List.map_nil, coefC, coefsA]), rfl, rfl⟩
    · rw [eachR, if_neg hx]
      have hx' : (mulS x.2 q).2 = false := by simpa using hx
      simp (maxSteps := 1000000) +contextual (disch := first | with_reducible assumption | exact ⟨rfl⟩ | exact ⟨rfl, rfl⟩ | (refine _root_.id ?_; kernel_rfl) | omega) only [evs, ext_mv, nth, put, putT, getT, binInt, binStr, binBool, aUn, outA, resA, mapO, resA1, oneOf, w1, w2, w3, bots, cond_true, cond_false, if_true, if_false, ite_true, ite_false, reduceIte, reduceCtorEq, implies_true, Nat.reduceAdd, Nat.reduceSub, AV.int, AV.bool, AV.str, Nat.reduceBEq, Nat.reduceEqDiff, Nat.reduceMul, Nat.reduceLT, Nat.reduceLeDiff, Int.reduceNeg, BEq.rfl, beq_self_eq_true, tabl, cellsOf, fldA, ldA, stA, entAt_new, entAt_old, entAt_old2, List.take_left, List.take_length, partA, takeN, over, leafOk, Value.oneCell', idxA, nilA, cellsEq, fillA, elemsA, pure1, pure2, reps, chkA, tys, Tryd.results31, KX_draw, KX_drawQ, KX_tail, lastO_one, lastO_more, dropL_one, dropL_more, callP_eq, callM_true, e1, e6, e11, e12, e13, d1, coefsA, hc', hw, hf, coefC, hx']
  · have d1 : decide ((i : Int) < (cs.length : Int)) = false := by simpa using hlt
    have he : i = cs.length := by omega
    simp (maxSteps := 1000000) +contextual (disch := first | with_reducible assumption | exact ⟨rfl⟩ | exact ⟨rfl, rfl⟩ | (refine _root_.id ?_; kernel_rfl) | omega) only [evs, ext_mv, nth, put, putT, getT, binInt, binStr, binBool, aUn, outA, resA, mapO, resA1, oneOf, w1, w2, w3, bots, cond_true, cond_false, if_true, if_false, ite_true, ite_false, reduceIte, reduceCtorEq, implies_true, Nat.reduceAdd, Nat.reduceSub, AV.int, AV.bool, AV.str, Nat.reduceBEq, Nat.reduceEqDiff, Nat.reduceMul, Nat.reduceLT, Nat.reduceLeDiff, Int.reduceNeg, BEq.rfl, beq_self_eq_true, tabl, cellsOf, fldA, ldA, stA, entAt_new, entAt_old, entAt_old2, List.take_left, List.take_length, partA, takeN, over, leafOk, Value.oneCell', idxA, nilA, cellsEq, fillA, elemsA, pure1, pure2, reps, chkA, tys, Tryd.results31, KX_draw, KX_drawQ, KX_tail, lastO_one, lastO_more, dropL_one, dropL_more, callP_eq, callM_true, e1, e6, e11, e12, e13, d1, coefsA]
    rw [he, List.drop_length]; simp [eachR]
end
end Go.Proofs.YtkghgdkkholieaaDoor
/-
  The examples that the laws of the linear forms check: all as said.
-/

namespace Go.Proofs.YtkghgdkkholieaaDoor
open Go
theorem awake_run : evF Tryd.prog drawOk 60 7 [] [] [] 0 = some (.prim (.bool true), [], [], 0) := by kernel_rfl
theorem L11_awake (S : List Ent) (tk : List Nat) (k : Nat) : cL Tryd.prog 7 [] S tk k = some (.bool true, S, tk, k) := cL_closed awake_run rfl rfl S tk k
end Go.Proofs.YtkghgdkkholieaaDoor
/-
  The law LinearValues, as the evaluator sees it: true of every form and every point.
-/


namespace Go.Proofs.YtkghgdkkholieaaDoor
open Go

def smallFrom : Nat → List (ByteArray × Int) → Bool
  | _, [] => true
  | i, c :: r => if decide ((i : Int) ≥ 40) || decide ((c.1.size : Int) > 500) then false else smallFrom (i + 1) r
theorem small_len : ∀ {l : List (ByteArray × Int)} {i : Nat}, smallFrom i l = true → l.length ≤ 40 - i ∨ l = []
  | [], _, _ => .inr rfl
  | c :: r, i, h => by
    simp only [smallFrom] at h
    split at h
    · simp at h
    · rename_i hn
      simp only [Bool.or_eq_true, decide_eq_true_eq, not_or] at hn
      left
      rcases small_len h with h' | h'
      · simp; omega
      · subst h'; simp; omega
section
variable (S : List Ent) (tk : List Nat) (k : Nat)
theorem L11_small (cs : List (ByteArray × Int)) (n : Int) : cL Tryd.prog 6 [linA cs n] S tk k = some (.bool (smallFrom 0 cs), S, tk, k) := by
  refine call_pure Tryd.func6 rfl rfl (by decide +kernel) (by decide +kernel) Tryd.ntmps6 rfl rfl _ _ _ rfl ?_; rw [RK_KX]
  simp (maxSteps := 1000000) +contextual (disch := first | with_reducible assumption | exact ⟨rfl⟩ | exact ⟨rfl, rfl⟩ | (refine _root_.id ?_; kernel_rfl) | omega) only [evs, ext_mv, nth, put, putT, getT, binInt, binStr, binBool, aUn, outA, resA, mapO, resA1, oneOf, w1, w2, w3, bots, cond_true, cond_false, if_true, if_false, ite_true, ite_false, reduceIte, reduceCtorEq, implies_true, Nat.reduceAdd, Nat.reduceSub, AV.int, AV.bool, AV.str, Nat.reduceBEq, Nat.reduceEqDiff, Nat.reduceMul, Nat.reduceLT, Nat.reduceLeDiff, Int.reduceNeg, BEq.rfl, beq_self_eq_true, tabl, cellsOf, fldA, ldA, stA, entAt, partA, takeN, over, leafOk, Value.oneCell', idxA, nilA, cellsEq, fillA, elemsA, pure1, pure2, reps, chkA, tys, Tryd.results6, KX_draw, KX_drawQ, KX_tail, lastO_one, lastO_more, dropL_one, dropL_more, callP_eq, callM_true, linA, coefsA]
  refine loop1 (P := Tryd.prog) (fun i st => st.T.length = 23 ∧ i ≤ cs.length ∧ i ≤ 40 ∧ getT st.T 1 = .ref 0 0 0 ∧ getT st.T 3 = .int (i : Nat) ∧ st.S = [⟨0, [coefsA cs, .int n]⟩]) (fun i => cs.length - i) (fun i => .bool (smallFrom i (cs.drop i))) 0 ?_ ?_
  case refine_2 => exact ⟨rfl, Nat.zero_le _, by omega, rfl, rfl, rfl⟩
  rintro i ⟨T, S', tk', n'⟩ ⟨hl, hi, hi40, e1, e3, rfl⟩ IH
  obtain ⟨g, hg, hT⟩ := tab_of hl
  rw [hg] at e1 e3
  subst hT
  clear hg hl
  by_cases hlt : i < cs.length
  · have d1 : decide ((i : Int) < (cs.length : Int)) = true := by simpa using hlt
    obtain ⟨c, hc⟩ := nth_some hlt
    have hc' : nth (cs.map coefC) i = some (coefC c) := by rw [nth_map, hc]; rfl
    have hw := wrap_add (i := i) (m := 0) (by omega)
    rw [nth_drop hc]
    simp (maxSteps := 1000000) +contextual (disch := first | with_reducible assumption | exact ⟨rfl⟩ | exact ⟨rfl, rfl⟩ | (refine _root_.id ?_; kernel_rfl) | omega) only [evs, ext_mv, nth, put, putT, getT, binInt, binStr, binBool, aUn, outA, resA, mapO, resA1, oneOf, w1, w2, w3, bots, cond_true, cond_false, if_true, if_false, ite_true, ite_false, reduceIte, reduceCtorEq, implies_true, Nat.reduceAdd, Nat.reduceSub, AV.int, AV.bool, AV.str, Nat.reduceBEq, Nat.reduceEqDiff, Nat.reduceMul, Nat.reduceLT, Nat.reduceLeDiff, Int.reduceNeg, BEq.rfl, beq_self_eq_true, tabl, cellsOf, fldA, ldA, stA, entAt, partA, takeN, over, leafOk, Value.oneCell', idxA, nilA, cellsEq, fillA, elemsA, pure1, pure2, reps, chkA, tys, Tryd.results6, KX_draw, KX_drawQ, KX_tail, lastO_one, lastO_more, dropL_one, dropL_more, callP_eq, callM_true, e1, e3, d1, coefsA, hc', hw, coefC]
    refine ⟨fun h1 => by simp only [smallFrom, h1]; rfl, fun h1 => ⟨fun h2 => by simp only [smallFrom, h1, h2]; rfl, fun h2 => ?_⟩⟩
    rw [IH (i + 1) _ (by omega) ⟨rfl, hlt, by simp at h1; omega, rfl, rfl, rfl⟩]
    simp only [smallFrom, h1, h2]; rfl
  · have d1 : decide ((i : Int) < (cs.length : Int)) = false := by simpa using hlt
    have he : i = cs.length := by omega
    simp (maxSteps := 1000000) +contextual (disch := first | with_reducible assumption | exact ⟨rfl⟩ | exact ⟨rfl, rfl⟩ | (refine _root_.id ?_; kernel_rfl) | omega) only [evs, ext_mv, nth, put, putT, getT, binInt, binStr, binBool, aUn, outA, resA, mapO, resA1, oneOf, w1, w2, w3, bots, cond_true, cond_false, if_true, if_false, ite_true, ite_false, reduceIte, reduceCtorEq, implies_true, Nat.reduceAdd, Nat.reduceSub, AV.int, AV.bool, AV.str, Nat.reduceBEq, Nat.reduceEqDiff, Nat.reduceMul, Nat.reduceLT, Nat.reduceLeDiff, Int.reduceNeg, BEq.rfl, beq_self_eq_true, tabl, cellsOf, fldA, ldA, stA, entAt, partA, takeN, over, leafOk, Value.oneCell', idxA, nilA, cellsEq, fillA, elemsA, pure1, pure2, reps, chkA, tys, Tryd.results6, KX_draw, KX_drawQ, KX_tail, lastO_one, lastO_more, dropL_one, dropL_more, callP_eq, callM_true, e1, e3, d1, coefsA]
    rw [he, List.drop_length]; rfl
end
end Go.Proofs.YtkghgdkkholieaaDoor
/-
  Multiples of forms, and when forms are the same, by the program; the law LinearSums.
-/


namespace Go.Proofs.YtkghgdkkholieaaDoor
open Go

section
variable (S : List Ent) (tk : List Nat) (k : Nat)
theorem mulS_no {a b : Int} (h : inB b = false) : mulS a b = (0, false) := by simp [mulS, chk, h]
set_option maxRecDepth 100000 in
theorem linear_Scale (cs : List (ByteArray × Int)) (n q : Int) (hlen : cs.length ≤ 1048576) : cL Tryd.prog 16 [linA cs n, .int q] S tk k = some (.tup [linA (scaleF cs n q).1.1 (scaleF cs n q).1.2, .bool (scaleF cs n q).2], S, tk, k) := by
  have hC := fun S tk k => linear_Check S tk k cs n hlen
  simp only [linA, coefsA] at hC
  refine call_pure Tryd.func16 rfl rfl (by decide +kernel) (by decide +kernel) Tryd.ntmps16 rfl rfl _ _ _ rfl ?_; rw [RK_KX]
  by_cases h0 : checkF cs n = 0
  case neg =>
    have d0 : (checkF cs n != 0) = true := by simpa using h0
    simp (maxSteps := 1000000) +contextual (disch := first | with_reducible assumption | exact ⟨rfl⟩ | exact ⟨rfl, rfl⟩ | (refine _root_.id ?_; kernel_rfl) | omega) only [evs, ext_mv, nth, put, putT, getT, binInt, binStr, binBool, aUn, outA, resA, mapO, resA1, oneOf, w1, w2, w3, bots, cond_true, cond_false, if_true, if_false, ite_true, ite_false, reduceIte, reduceCtorEq, implies_true, Nat.reduceAdd, Nat.reduceSub, AV.int, AV.bool, AV.str, Nat.reduceBEq, Nat.reduceEqDiff, Nat.reduceMul, Nat.reduceLT, Nat.reduceLeDiff, Int.reduceNeg, BEq.rfl, beq_self_eq_true, tabl, cellsOf, fldA, ldA, stA, entAt, partA, takeN, over, leafOk, Value.oneCell', idxA, nilA, cellsEq, fillA, elemsA, pure1, pure2, reps, chkA, tys, Tryd.results16, KX_draw, KX_drawQ, KX_tail, lastO_one, lastO_more, dropL_one, dropL_more, callP_eq, callM_true, linA, coefsA, hC, d0]
    simp [scaleF, h0]
  have d0 : (checkF cs n != 0) = false := by simp [h0]
  by_cases hq : q = 0
  · have d1 : (q == 0) = true := by simpa using hq
    simp (maxSteps := 1000000) +contextual (disch := first | with_reducible assumption | exact ⟨rfl⟩ | exact ⟨rfl, rfl⟩ | (refine _root_.id ?_; kernel_rfl) | omega) only [evs, ext_mv, nth, put, putT, getT, binInt, binStr, binBool, aUn, outA, resA, mapO, resA1, oneOf, w1, w2, w3, bots, cond_true, cond_false, if_true, if_false, ite_true, ite_false, reduceIte, reduceCtorEq, implies_true, Nat.reduceAdd, Nat.reduceSub, AV.int, AV.bool, AV.str, Nat.reduceBEq, Nat.reduceEqDiff, Nat.reduceMul, Nat.reduceLT, Nat.reduceLeDiff, Int.reduceNeg, BEq.rfl, beq_self_eq_true, tabl, cellsOf, fldA, ldA, stA, entAt, partA, takeN, over, leafOk, Value.oneCell', idxA, nilA, cellsEq, fillA, elemsA, pure1, pure2, reps, chkA, tys, Tryd.results16, KX_draw, KX_drawQ, KX_tail, lastO_one, lastO_more, dropL_one, dropL_more, callP_eq, callM_true, linA, coefsA, hC, d0, d1]
    simp [scaleF, h0, hq]
  have d1 : (q == 0) = false := by simpa using hq
  cases hb : inB q with
  | false =>
    by_cases hcs : cs = []
    · subst hcs
      have hz : (((0 : Nat) : Int) == 0) = true := rfl
      simp only [List.map_nil] at hC
      simp (maxSteps := 1000000) +contextual (disch := first | with_reducible assumption | exact ⟨rfl⟩ | exact ⟨rfl, rfl⟩ | (refine _root_.id ?_; kernel_rfl) | omega) only [evs, ext_mv, nth, put, putT, getT, binInt, binStr, binBool, aUn, outA, resA, mapO, resA1, oneOf, w1, w2, w3, bots, cond_true, cond_false, if_true, if_false, ite_true, ite_false, reduceIte, reduceCtorEq, implies_true, Nat.reduceAdd, Nat.reduceSub, AV.int, AV.bool, AV.str, Nat.reduceBEq, Nat.reduceEqDiff, Nat.reduceMul, Nat.reduceLT, Nat.reduceLeDiff, Int.reduceNeg, BEq.rfl, beq_self_eq_true, tabl, cellsOf, fldA, ldA, stA, entAt, partA, takeN, over, leafOk, Value.oneCell', idxA, nilA, cellsEq, fillA, elemsA, pure1, pure2, reps, chkA, tys, Tryd.results16, KX_draw, KX_drawQ, KX_tail, lastO_one, lastO_more, dropL_one, dropL_more, callP_eq, callM_true, linA, coefsA, hC, d0, d1, hb, num_In, List.map_nil, hz]
      simp [scaleF, h0, hq, hb]
    · have hz : ((cs.length : Int) == 0) = false := by
        have : cs.length ≠ 0 := fun h => hcs (List.length_eq_zero_iff.1 h)
        simp; omega
      simp (maxSteps := 1000000) +contextual (disch := first | with_reducible assumption | exact ⟨rfl⟩ | exact ⟨rfl, rfl⟩ | (refine _root_.id ?_; kernel_rfl) | omega) only [evs, ext_mv, nth, put, putT, getT, binInt, binStr, binBool, aUn, outA, resA, mapO, resA1, oneOf, w1, w2, w3, bots, cond_true, cond_false, if_true, if_false, ite_true, ite_false, reduceIte, reduceCtorEq, implies_true, Nat.reduceAdd, Nat.reduceSub, AV.int, AV.bool, AV.str, Nat.reduceBEq, Nat.reduceEqDiff, Nat.reduceMul, Nat.reduceLT, Nat.reduceLeDiff, Int.reduceNeg, BEq.rfl, beq_self_eq_true, tabl, cellsOf, fldA, ldA, stA, entAt, partA, takeN, over, leafOk, Value.oneCell', idxA, nilA, cellsEq, fillA, elemsA, pure1, pure2, reps, chkA, tys, Tryd.results16, KX_draw, KX_drawQ, KX_tail, lastO_one, lastO_more, dropL_one, dropL_more, callP_eq, callM_true, linA, coefsA, hC, d0, d1, hb, num_In, hz]
      simp [scaleF, h0, hq, hb, hcs]
  | true =>
    have hE := fun tk k => each_scale [⟨0, [coefsA cs, .int n]⟩, ⟨1, [.int q]⟩, ⟨2, [.frz [] .nilc, .int 0]⟩] tk k q cs 1 1 hlen rfl
    simp only [coefsA] at hE
    cases hall : cs.all fun c => (mulS c.2 q).2 with
    | true =>
      obtain ⟨c', tk', n', e⟩ := eachR_ok q cs [] .nilc [] 3 hall
      simp only [List.nil_append] at e
      have hE' := hE [] 3
      rw [e] at hE'
      simp (maxSteps := 1000000) +contextual (disch := first | with_reducible assumption | exact ⟨rfl⟩ | exact ⟨rfl, rfl⟩ | (refine _root_.id ?_; kernel_rfl) | omega) only [evs, ext_mv, nth, put, putT, getT, binInt, binStr, binBool, aUn, outA, resA, mapO, resA1, oneOf, w1, w2, w3, bots, cond_true, cond_false, if_true, if_false, ite_true, ite_false, reduceIte, reduceCtorEq, implies_true, Nat.reduceAdd, Nat.reduceSub, AV.int, AV.bool, AV.str, Nat.reduceBEq, Nat.reduceEqDiff, Nat.reduceMul, Nat.reduceLT, Nat.reduceLeDiff, Int.reduceNeg, BEq.rfl, beq_self_eq_true, tabl, cellsOf, fldA, ldA, stA, entAt, partA, takeN, over, leafOk, Value.oneCell', idxA, nilA, cellsEq, fillA, elemsA, pure1, pure2, reps, chkA, tys, Tryd.results16, KX_draw, KX_drawQ, KX_tail, lastO_one, lastO_more, dropL_one, dropL_more, callP_eq, callM_true, linA, coefsA, hC, d0, d1, hb, num_In, num_Mul, hE', capsOk]
      refine ⟨fun h1 => ?_, fun h1 => ?_⟩
      · simp [scaleF, h0, hq, hb, hall, h1]
      · simp [scaleF, h0, hq, hb, hall, h1]
    | false =>
      obtain ⟨tk', n', e⟩ := eachR_no q cs [] .nilc [] 3 hall
      have hE' := hE [] 3
      rw [e] at hE'
      have hs : scaleF cs n q = (([], 0), false) := by simp [scaleF, h0, hq, hb, hall]
      rw [hs]
      simp (maxSteps := 1000000) +contextual (disch := first | with_reducible assumption | exact ⟨rfl⟩ | exact ⟨rfl, rfl⟩ | (refine _root_.id ?_; kernel_rfl) | omega) only [evs, ext_mv, nth, put, putT, getT, binInt, binStr, binBool, aUn, outA, resA, mapO, resA1, oneOf, w1, w2, w3, bots, cond_true, cond_false, if_true, if_false, ite_true, ite_false, reduceIte, reduceCtorEq, implies_true, Nat.reduceAdd, Nat.reduceSub, AV.int, AV.bool, AV.str, Nat.reduceBEq, Nat.reduceEqDiff, Nat.reduceMul, Nat.reduceLT, Nat.reduceLeDiff, Int.reduceNeg, BEq.rfl, beq_self_eq_true, tabl, cellsOf, fldA, ldA, stA, entAt, partA, takeN, over, leafOk, Value.oneCell', idxA, nilA, cellsEq, fillA, elemsA, pure1, pure2, reps, chkA, tys, Tryd.results16, KX_draw, KX_drawQ, KX_tail, lastO_one, lastO_more, dropL_one, dropL_more, callP_eq, callM_true, linA, coefsA, hC, d0, d1, hb, num_In, num_Mul, hE', capsOk]
set_option maxRecDepth 100000 in
theorem R11_Scale (cs : List (ByteArray × Int)) (n q : Int) (hlen : cs.length ≤ 1000000) : cL Tryd.prog 49 [linA cs n, .int q] S tk k = some (.tup [linA (scaleF cs n q).1.1 (scaleF cs n q).1.2, .bool (scaleF cs n q).2], S, tk, k) := by
  have hC := fun S tk k => R11_Check S tk k cs n (by omega)
  simp only [linA, coefsA] at hC
  refine call_pure Tryd.func49 rfl rfl (by decide +kernel) (by decide +kernel) Tryd.ntmps49 rfl rfl _ _ _ rfl ?_; rw [RK_KX]
  by_cases h0 : checkF cs n = 0
  case neg =>
    have d0 : (checkF cs n != 0) = true := by simpa using h0
    simp (maxSteps := 1000000) +contextual (disch := first | with_reducible assumption | exact ⟨rfl⟩ | exact ⟨rfl, rfl⟩ | (refine _root_.id ?_; kernel_rfl) | omega) only [evs, ext_mv, nth, put, putT, getT, binInt, binStr, binBool, aUn, outA, resA, mapO, resA1, oneOf, w1, w2, w3, bots, cond_true, cond_false, if_true, if_false, ite_true, ite_false, reduceIte, reduceCtorEq, implies_true, Nat.reduceAdd, Nat.reduceSub, AV.int, AV.bool, AV.str, Nat.reduceBEq, Nat.reduceEqDiff, Nat.reduceMul, Nat.reduceLT, Nat.reduceLeDiff, Int.reduceNeg, BEq.rfl, beq_self_eq_true, tabl, cellsOf, fldA, ldA, stA, entAt, partA, takeN, over, leafOk, Value.oneCell', idxA, nilA, cellsEq, fillA, elemsA, pure1, pure2, reps, chkA, tys, Tryd.results49, KX_draw, KX_drawQ, KX_tail, lastO_one, lastO_more, dropL_one, dropL_more, callP_eq, callM_true, linA, coefsA, hC, d0]
    simp [scaleF, h0]
  have d0 : (checkF cs n != 0) = false := by simp [h0]
  by_cases hq : q = 0
  · have d1 : (q == 0) = true := by simpa using hq
    simp (maxSteps := 1000000) +contextual (disch := first | with_reducible assumption | exact ⟨rfl⟩ | exact ⟨rfl, rfl⟩ | (refine _root_.id ?_; kernel_rfl) | omega) only [evs, ext_mv, nth, put, putT, getT, binInt, binStr, binBool, aUn, outA, resA, mapO, resA1, oneOf, w1, w2, w3, bots, cond_true, cond_false, if_true, if_false, ite_true, ite_false, reduceIte, reduceCtorEq, implies_true, Nat.reduceAdd, Nat.reduceSub, AV.int, AV.bool, AV.str, Nat.reduceBEq, Nat.reduceEqDiff, Nat.reduceMul, Nat.reduceLT, Nat.reduceLeDiff, Int.reduceNeg, BEq.rfl, beq_self_eq_true, tabl, cellsOf, fldA, ldA, stA, entAt, partA, takeN, over, leafOk, Value.oneCell', idxA, nilA, cellsEq, fillA, elemsA, pure1, pure2, reps, chkA, tys, Tryd.results49, KX_draw, KX_drawQ, KX_tail, lastO_one, lastO_more, dropL_one, dropL_more, callP_eq, callM_true, linA, coefsA, hC, d0, d1]
    simp [scaleF, h0, hq]
  have d1 : (q == 0) = false := by simpa using hq
  simp (maxSteps := 1000000) +contextual (disch := first | with_reducible assumption | exact ⟨rfl⟩ | exact ⟨rfl, rfl⟩ | (refine _root_.id ?_; kernel_rfl) | omega) only [evs, ext_mv, nth, put, putT, getT, binInt, binStr, binBool, aUn, outA, resA, mapO, resA1, oneOf, w1, w2, w3, bots, cond_true, cond_false, if_true, if_false, ite_true, ite_false, reduceIte, reduceCtorEq, implies_true, Nat.reduceAdd, Nat.reduceSub, AV.int, AV.bool, AV.str, Nat.reduceBEq, Nat.reduceEqDiff, Nat.reduceMul, Nat.reduceLT, Nat.reduceLeDiff, Int.reduceNeg, BEq.rfl, beq_self_eq_true, tabl, cellsOf, fldA, ldA, stA, entAt, partA, takeN, over, leafOk, Value.oneCell', idxA, nilA, cellsEq, fillA, elemsA, pure1, pure2, reps, chkA, tys, Tryd.results49, KX_draw, KX_drawQ, KX_tail, lastO_one, lastO_more, dropL_one, dropL_more, callP_eq, callM_true, linA, coefsA, hC, d0, d1]
  refine loop1 (P := Tryd.prog) (fun x st => st.T.length = 70 ∧ (x.1 ≤ cs.length) ∧ (okCap st.tk x.2 2 = true) ∧ (((cs.take x.1).all fun y => (mulS y.2 q).2) = true) ∧ getT st.T 1 = .int q ∧ getT st.T 2 = .ref 0 0 0 ∧ getT st.T 4 = .ref 1 1 0 ∧ getT st.T 6 = .ref 2 2 0 ∧ getT st.T 7 = .int (x.1 : Nat) ∧ st.S = [⟨0, [coefsA cs, .int n]⟩, ⟨1, [.frz [] .nilc, .int 0]⟩, ⟨2, [.frz (((cs.take x.1).map (mulC q)).map coefC) x.2, .int 0]⟩]) (fun x => cs.length - x.1) (fun x => .tup [linA (scaleF cs n q).1.1 (scaleF cs n q).1.2, .bool (scaleF cs n q).2]) (0, .nilc) ?_ ?_
  case refine_2 => exact ⟨rfl, Nat.zero_le _, rfl, rfl, rfl, rfl, rfl, rfl, rfl, rfl⟩
  rintro ⟨i, c⟩ ⟨T, S', tk', n'⟩ ⟨hl, hi, hok, hall, e1, e2, e4, e6, e7, eS⟩ IH
  simp only at hi hok hall e1 e2 e4 e6 e7 eS
  subst eS
  obtain ⟨g, hg, hT⟩ := tab_of hl
  rw [hg] at e1 e2 e4 e6 e7
  subst hT
  clear hg hl
  by_cases hlt : i < cs.length
  · have d1 : decide ((i : Int) < (cs.length : Int)) = true := by simpa using hlt
    obtain ⟨x, hc⟩ := nth_some hlt
    have hc' : nth (cs.map coefC) i = some (coefC x) := by rw [nth_map, hc]; rfl
    have hw := wrap_add (i := i) (m := 0) (by omega)
    have hr := rowsOk_map (f := coefC) (sz := 2) (fun _ => rfl) ((cs.take i).map (mulC q))
    have hn : (((cs.take i).map (mulC q)).map coefC).length + 1 ≤ 1048576 := by simp; omega
    have hok' := okCap_new hok
    simp only [coefC] at hc'
    by_cases hx : (mulS x.2 q).2 = true
    · simp (maxSteps := 1000000) +contextual (disch := first | with_reducible assumption | exact ⟨rfl⟩ | exact ⟨rfl, rfl⟩ | (refine _root_.id ?_; kernel_rfl) | omega) only [evs, ext_mv, nth, put, putT, getT, binInt, binStr, binBool, aUn, outA, resA, mapO, resA1, oneOf, w1, w2, w3, bots, cond_true, cond_false, if_true, if_false, ite_true, ite_false, reduceIte, reduceCtorEq, implies_true, Nat.reduceAdd, Nat.reduceSub, AV.int, AV.bool, AV.str, Nat.reduceBEq, Nat.reduceEqDiff, Nat.reduceMul, Nat.reduceLT, Nat.reduceLeDiff, Int.reduceNeg, BEq.rfl, beq_self_eq_true, tabl, cellsOf, fldA, ldA, stA, entAt, partA, takeN, over, leafOk, Value.oneCell', idxA, nilA, cellsEq, fillA, elemsA, pure1, pure2, reps, chkA, tys, Tryd.results49, KX_draw, KX_drawQ, KX_tail, lastO_one, lastO_more, dropL_one, dropL_more, callP_eq, callM_true, e1, e2, e4, e6, e7, d1, coefsA, hc', hw, coefC, hx, R01_Mul, hr]
      exact IH (i + 1, capNew tk' c 2) _ (by first | omega | (simp only; omega)) ⟨rfl, hlt, hok', by rw [take_succ_nth hc, List.all_append, hall]; simp [hx], (by first | rfl | simp only [getT, List.map_append, List.map_cons, List.map_nil, coefC, coefsA]), (by first | rfl | simp only [getT, List.map_append, List.map_cons, List.map_nil, coefC, coefsA]), (by first | rfl | simp only [getT, List.map_append, List.map_cons, List.map_nil, coefC, coefsA]), (by first | rfl | simp only [getT, List.map_append, List.map_cons, List.map_nil, coefC, coefsA]), (by first | rfl | simp only [getT, List.map_append, List.map_cons, List.map_nil, coefC, coefsA]), by simp only [take_succ_nth hc, List.map_append, List.map_cons, List.map_nil, coefC, coefsA, mulC]⟩
    · have hx' : (mulS x.2 q).2 = false := by simpa using hx
      have hs : scaleF cs n q = (([], 0), false) := by
        have hcs : cs ≠ [] := by rintro rfl; simp at hlt
        have ha : ¬ (cs.all fun c => (mulS c.2 q).2) = true := fun h => by
          have := List.all_eq_true.1 h x (by rw [nth_get] at hc; exact List.mem_of_getElem? hc)
          rw [hx'] at this; simp at this
        simp only [scaleF, h0, hq, if_true, if_false, ha, and_false, hcs]
        cases inB q <;> simp
      rw [hs]
      simp (maxSteps := 1000000) +contextual (disch := first | with_reducible assumption | exact ⟨rfl⟩ | exact ⟨rfl, rfl⟩ | (refine _root_.id ?_; kernel_rfl) | omega) only [evs, ext_mv, nth, put, putT, getT, binInt, binStr, binBool, aUn, outA, resA, mapO, resA1, oneOf, w1, w2, w3, bots, cond_true, cond_false, if_true, if_false, ite_true, ite_false, reduceIte, reduceCtorEq, implies_true, Nat.reduceAdd, Nat.reduceSub, AV.int, AV.bool, AV.str, Nat.reduceBEq, Nat.reduceEqDiff, Nat.reduceMul, Nat.reduceLT, Nat.reduceLeDiff, Int.reduceNeg, BEq.rfl, beq_self_eq_true, tabl, cellsOf, fldA, ldA, stA, entAt, partA, takeN, over, leafOk, Value.oneCell', idxA, nilA, cellsEq, fillA, elemsA, pure1, pure2, reps, chkA, tys, Tryd.results49, KX_draw, KX_drawQ, KX_tail, lastO_one, lastO_more, dropL_one, dropL_more, callP_eq, callM_true, e1, e2, e4, e6, e7, d1, coefsA, hc', hw, coefC, hx', R01_Mul, hr, linA, List.map_nil]
  · have d1 : decide ((i : Int) < (cs.length : Int)) = false := by simpa using hlt
    have he : i = cs.length := by omega
    rw [he, List.take_length] at hall
    by_cases hn0 : n = 0
    · have d2 : (n != 0) = false := by simp [hn0]
      simp (maxSteps := 1000000) +contextual (disch := first | with_reducible assumption | exact ⟨rfl⟩ | exact ⟨rfl, rfl⟩ | (refine _root_.id ?_; kernel_rfl) | omega) only [evs, ext_mv, nth, put, putT, getT, binInt, binStr, binBool, aUn, outA, resA, mapO, resA1, oneOf, w1, w2, w3, bots, cond_true, cond_false, if_true, if_false, ite_true, ite_false, reduceIte, reduceCtorEq, implies_true, Nat.reduceAdd, Nat.reduceSub, AV.int, AV.bool, AV.str, Nat.reduceBEq, Nat.reduceEqDiff, Nat.reduceMul, Nat.reduceLT, Nat.reduceLeDiff, Int.reduceNeg, BEq.rfl, beq_self_eq_true, tabl, cellsOf, fldA, ldA, stA, entAt, partA, takeN, over, leafOk, Value.oneCell', idxA, nilA, cellsEq, fillA, elemsA, pure1, pure2, reps, chkA, tys, Tryd.results49, KX_draw, KX_drawQ, KX_tail, lastO_one, lastO_more, dropL_one, dropL_more, callP_eq, callM_true, e1, e2, e4, e6, e7, d1, d2, coefsA, linA]
      rw [he, List.take_length]
      subst hn0
      cases hb : inB q with
      | true =>
        have hm : mulS 0 q = (0, true) := by unfold mulS chk; rw [hb]; simp [inB]
        simp [scaleF, h0, hq, hb, hall, hm]
      | false =>
        cases cs with
        | nil => simp [scaleF, h0, hq, hb]
        | cons c cs => simp [mulS_no hb] at hall
    · have d2 : (n != 0) = true := by simpa using hn0
      simp (maxSteps := 1000000) +contextual (disch := first | with_reducible assumption | exact ⟨rfl⟩ | exact ⟨rfl, rfl⟩ | (refine _root_.id ?_; kernel_rfl) | omega) only [evs, ext_mv, nth, put, putT, getT, binInt, binStr, binBool, aUn, outA, resA, mapO, resA1, oneOf, w1, w2, w3, bots, cond_true, cond_false, if_true, if_false, ite_true, ite_false, reduceIte, reduceCtorEq, implies_true, Nat.reduceAdd, Nat.reduceSub, AV.int, AV.bool, AV.str, Nat.reduceBEq, Nat.reduceEqDiff, Nat.reduceMul, Nat.reduceLT, Nat.reduceLeDiff, Int.reduceNeg, BEq.rfl, beq_self_eq_true, tabl, cellsOf, fldA, ldA, stA, entAt, partA, takeN, over, leafOk, Value.oneCell', idxA, nilA, cellsEq, fillA, elemsA, pure1, pure2, reps, chkA, tys, Tryd.results49, KX_draw, KX_drawQ, KX_tail, lastO_one, lastO_more, dropL_one, dropL_more, callP_eq, callM_true, e1, e2, e4, e6, e7, d1, d2, coefsA, linA, R01_Mul]
      rw [he, List.take_length]
      cases hb : inB q with
      | true =>
        refine ⟨fun h1 => ?_, fun h1 => ?_⟩
        · simp [scaleF, h0, hq, hb, hall, h1]
        · simp [scaleF, h0, hq, hb, hall, h1]
      | false =>
        rw [mulS_no hb]
        simp [scaleF, h0, hq, hb, hn0]
theorem sameF_if (cs ds : List (ByteArray × Int)) (n m : Int) : sameF cs n ds m = if cs.length = ds.length then (if n = m then eqL cs ds else false) else false := by
  unfold sameF
  by_cases h : cs.length = ds.length
  · have h' : ((cs.length : Int) == ds.length) = true := by simp; omega
    rw [if_pos h', if_pos h]
    by_cases h2 : n = m <;> simp [h2]
  · have h' : ¬ ((cs.length : Int) == ds.length) = true := by simp; omega
    rw [if_neg h', if_neg h]
theorem eqL_same : ∀ l : List (ByteArray × Int), eqL l l = true
  | [] => rfl
  | c :: r => by simp [eqL, eqC, sEq, eqL_same r]
theorem sameF_self (l : List (ByteArray × Int)) (n : Int) : sameF l n l n = true := by simp [sameF, eqL_same]
theorem scaleF_len (cs : List (ByteArray × Int)) (n q : Int) : (scaleF cs n q).1.1.length ≤ cs.length := by
  unfold scaleF
  split
  · split
    · simp
    · split
      · split <;> simp
      · simp
  · simp
theorem rightF_len (cs : List (ByteArray × Int)) (n : Int) : (rightF cs n).1.1.length ≤ cs.length := by
  unfold rightF; split <;> simp
theorem addL_len (a b : List (ByteArray × Int)) (n m : Int) : (addL a n b m).1.1.length ≤ a.length + b.length := by
  unfold addL
  split
  · exact Nat.le_trans (rightF_len _ _) (mergeF_len a b)
  · simp
end
end Go.Proofs.YtkghgdkkholieaaDoor
/-
  The names, by the program: bytes, words, names, titles, core names.
-/

namespace Go.Proofs.YtkghgdkkholieaaDoor
open Go
/-- the byte at a place -/
theorem bsL_len (s : ByteArray) : (bsL s).length = s.size := rfl
theorem at_bs {s : ByteArray} {i : Nat} {b : UInt8} (h : nth (bsL s) i = some b) : s[i]? = some b := by
  rw [nth_get] at h
  have hl : i < (bsL s).length := (List.getElem?_eq_some_iff.1 h).1
  have hs : i < s.size := by rw [← bsL_len]; exact hl
  rw [getElem?_pos s i hs]
  rw [List.getElem?_eq_getElem hl] at h
  rw [← h]
  simp [bsL, ByteArray.getElem_eq_getElem_data]
theorem bs_at {s : ByteArray} {i : Nat} (h : i < s.size) : ∃ b, nth (bsL s) i = some b := nth_some (by rw [bsL_len]; exact h)
theorem sIx {s : ByteArray} {i : Nat} {b : UInt8} (h : nth (bsL s) i = some b) : strIdx true (.prim (.string s)) (some i) = some (.prim (.int .u8 b.toNat)) := by
  unfold strIdx; simp only [if_true]; rw [at_bs h]; rfl
section
variable (S : List Ent) (tk : List Nat) (k : Nat)
theorem names_small (b : UInt8) : cL Tryd.prog 75 [.prim (.int .u8 b.toNat)] S tk k = some (.bool (smallB b), S, tk, k) := by
  refine call_pure Tryd.func75 rfl rfl (by decide +kernel) (by decide +kernel) Tryd.ntmps75 rfl rfl _ _ _ rfl ?_; rw [RK_KX]
  simp +contextual only [evs, ext_mv, nth, put, putT, getT, binInt, binStr, binBool, aUn, outA, resA, mapO, resA1, oneOf, w1, w2, w3, bots, cond_true, cond_false, if_true, if_false, ite_true, ite_false, reduceIte, reduceCtorEq, implies_true, Nat.reduceAdd, Nat.reduceSub, AV.int, AV.bool, AV.str, Nat.reduceBEq, Nat.reduceEqDiff, Nat.reduceMul, Nat.reduceLT, Nat.reduceLeDiff, Int.reduceNeg, BEq.rfl, beq_self_eq_true, tabl, cellsOf, fldA, ldA, stA, entAt, partA, takeN, over, leafOk, Value.oneCell', idxA, nilA, cellsEq, fillA, elemsA, pure1, pure2, reps, chkA, tys, Tryd.results75]
  rw [show decide ((97 : Int) ≤ (b.toNat : Int)) = decide (97 ≤ b.toNat) from decide_eq_decide.2 (by omega), show decide ((b.toNat : Int) ≤ (122 : Int)) = decide (b.toNat ≤ 122) from decide_eq_decide.2 (by omega)]
  unfold smallB
  cases decide (97 ≤ b.toNat) <;> simp
theorem names_capital (b : UInt8) : cL Tryd.prog 78 [.prim (.int .u8 b.toNat)] S tk k = some (.bool (capB b), S, tk, k) := by
  refine call_pure Tryd.func78 rfl rfl (by decide +kernel) (by decide +kernel) Tryd.ntmps78 rfl rfl _ _ _ rfl ?_; rw [RK_KX]
  simp +contextual only [evs, ext_mv, nth, put, putT, getT, binInt, binStr, binBool, aUn, outA, resA, mapO, resA1, oneOf, w1, w2, w3, bots, cond_true, cond_false, if_true, if_false, ite_true, ite_false, reduceIte, reduceCtorEq, implies_true, Nat.reduceAdd, Nat.reduceSub, AV.int, AV.bool, AV.str, Nat.reduceBEq, Nat.reduceEqDiff, Nat.reduceMul, Nat.reduceLT, Nat.reduceLeDiff, Int.reduceNeg, BEq.rfl, beq_self_eq_true, tabl, cellsOf, fldA, ldA, stA, entAt, partA, takeN, over, leafOk, Value.oneCell', idxA, nilA, cellsEq, fillA, elemsA, pure1, pure2, reps, chkA, tys, Tryd.results78]
  rw [show decide ((65 : Int) ≤ (b.toNat : Int)) = decide (65 ≤ b.toNat) from decide_eq_decide.2 (by omega), show decide ((b.toNat : Int) ≤ (90 : Int)) = decide (b.toNat ≤ 90) from decide_eq_decide.2 (by omega)]
  unfold capB
  cases decide (65 ≤ b.toNat) <;> simp
theorem names_digit (b : UInt8) : cL Tryd.prog 77 [.prim (.int .u8 b.toNat)] S tk k = some (.bool (digB b), S, tk, k) := by
  refine call_pure Tryd.func77 rfl rfl (by decide +kernel) (by decide +kernel) Tryd.ntmps77 rfl rfl _ _ _ rfl ?_; rw [RK_KX]
  simp +contextual only [evs, ext_mv, nth, put, putT, getT, binInt, binStr, binBool, aUn, outA, resA, mapO, resA1, oneOf, w1, w2, w3, bots, cond_true, cond_false, if_true, if_false, ite_true, ite_false, reduceIte, reduceCtorEq, implies_true, Nat.reduceAdd, Nat.reduceSub, AV.int, AV.bool, AV.str, Nat.reduceBEq, Nat.reduceEqDiff, Nat.reduceMul, Nat.reduceLT, Nat.reduceLeDiff, Int.reduceNeg, BEq.rfl, beq_self_eq_true, tabl, cellsOf, fldA, ldA, stA, entAt, partA, takeN, over, leafOk, Value.oneCell', idxA, nilA, cellsEq, fillA, elemsA, pure1, pure2, reps, chkA, tys, Tryd.results77]
  rw [show decide ((48 : Int) ≤ (b.toNat : Int)) = decide (48 ≤ b.toNat) from decide_eq_decide.2 (by omega), show decide ((b.toNat : Int) ≤ (57 : Int)) = decide (b.toNat ≤ 57) from decide_eq_decide.2 (by omega)]
  unfold digB
  cases decide (48 ≤ b.toNat) <;> simp
theorem names_sized (s : ByteArray) : cL Tryd.prog 71 [.str s] S tk k = some (.bool (sizedF s), S, tk, k) := by
  refine call_pure Tryd.func71 rfl rfl (by decide +kernel) (by decide +kernel) Tryd.ntmps71 rfl rfl _ _ _ rfl ?_; rw [RK_KX]
  simp +contextual only [evs, ext_mv, nth, put, putT, getT, binInt, binStr, binBool, aUn, outA, resA, mapO, resA1, oneOf, w1, w2, w3, bots, cond_true, cond_false, if_true, if_false, ite_true, ite_false, reduceIte, reduceCtorEq, implies_true, Nat.reduceAdd, Nat.reduceSub, AV.int, AV.bool, AV.str, Nat.reduceBEq, Nat.reduceEqDiff, Nat.reduceMul, Nat.reduceLT, Nat.reduceLeDiff, Int.reduceNeg, BEq.rfl, beq_self_eq_true, tabl, cellsOf, fldA, ldA, stA, entAt, partA, takeN, over, leafOk, Value.oneCell', idxA, nilA, cellsEq, fillA, elemsA, pure1, pure2, reps, chkA, tys, Tryd.results71]
  rw [show decide ((s.size : Int) ≥ 1) = decide (1 ≤ s.size) from decide_eq_decide.2 (by omega), show decide ((s.size : Int) ≤ (24 : Int)) = decide (s.size ≤ 24) from decide_eq_decide.2 (by omega)]
  unfold sizedF
  cases decide (1 ≤ s.size) <;> simp
theorem names_alphanumeric (s : ByteArray) (hs : s.size ≤ 1048576) : cL Tryd.prog 72 [.str s] S tk k = some (.bool ((bsL s).all alnB), S, tk, k) := by
  refine call_pure Tryd.func72 rfl rfl (by decide +kernel) (by decide +kernel) Tryd.ntmps72 rfl rfl _ _ _ rfl ?_; rw [RK_KX]
  simp (maxSteps := 1000000) +contextual (disch := first | with_reducible assumption | exact ⟨rfl⟩ | exact ⟨rfl, rfl⟩ | (refine _root_.id ?_; kernel_rfl) | omega) only [evs, ext_mv, nth, put, putT, getT, binInt, binStr, binBool, aUn, outA, resA, mapO, resA1, oneOf, w1, w2, w3, bots, cond_true, cond_false, if_true, if_false, ite_true, ite_false, reduceIte, reduceCtorEq, implies_true, Nat.reduceAdd, Nat.reduceSub, AV.int, AV.bool, AV.str, Nat.reduceBEq, Nat.reduceEqDiff, Nat.reduceMul, Nat.reduceLT, Nat.reduceLeDiff, Int.reduceNeg, BEq.rfl, beq_self_eq_true, tabl, cellsOf, fldA, ldA, stA, entAt, partA, takeN, over, leafOk, Value.oneCell', idxA, nilA, cellsEq, fillA, elemsA, pure1, pure2, reps, chkA, tys, Tryd.results72, KX_draw, KX_drawQ, KX_tail, lastO_one, lastO_more, dropL_one, dropL_more, callP_eq, callM_true]
  refine loop1 (P := Tryd.prog) (fun x st => st.T.length = 29 ∧ (x ≤ s.size) ∧ ((bsL s).all alnB = ((bsL s).drop x).all alnB) ∧ getT st.T 0 = .str s ∧ getT st.T 3 = .int (x : Nat) ∧ st.S = []) (fun x => s.size - x) (fun x => .bool ((bsL s).all alnB)) (0) ?_ ?_
  case refine_2 => exact ⟨rfl, Nat.zero_le _, rfl, rfl, rfl, rfl⟩
  rintro i ⟨T, S', tk', n'⟩ ⟨hl, hi, hA, e0, e3, eS⟩ IH
  subst eS
  obtain ⟨g, hg, hT⟩ := tab_of hl
  rw [hg] at e0 e3
  subst hT
  clear hg hl
  by_cases la : i < s.size
  · have d1 : decide ((i : Int) < (s.size : Int)) = true := by simpa using la
    obtain ⟨b, hb⟩ := bs_at la
    have hb' := sIx hb
    have hw := wrap_add (i := i) (m := 0) (by omega)
    rw [nth_drop hb] at hA
    simp only [List.all_cons, alnB] at hA
    have n1 := fun S tk k => names_small S tk k b
    have n2 := fun S tk k => names_capital S tk k b
    have n3 := fun S tk k => names_digit S tk k b
    cases q1 : smallB b <;> cases q2 : capB b <;> cases q3 : digB b <;> simp only [q1, q2, q3, Bool.or_true, Bool.true_or, Bool.or_false, Bool.false_and, Bool.true_and] at n1 n2 n3 hA
    case false.false.false =>
      simp (maxSteps := 1000000) +contextual (disch := first | with_reducible assumption | exact ⟨rfl⟩ | exact ⟨rfl, rfl⟩ | (refine _root_.id ?_; kernel_rfl) | omega) only [evs, ext_mv, nth, put, putT, getT, binInt, binStr, binBool, aUn, outA, resA, mapO, resA1, oneOf, w1, w2, w3, bots, cond_true, cond_false, if_true, if_false, ite_true, ite_false, reduceIte, reduceCtorEq, implies_true, Nat.reduceAdd, Nat.reduceSub, AV.int, AV.bool, AV.str, Nat.reduceBEq, Nat.reduceEqDiff, Nat.reduceMul, Nat.reduceLT, Nat.reduceLeDiff, Int.reduceNeg, BEq.rfl, beq_self_eq_true, tabl, cellsOf, fldA, ldA, stA, entAt, partA, takeN, over, leafOk, Value.oneCell', idxA, nilA, cellsEq, fillA, elemsA, pure1, pure2, reps, chkA, tys, Tryd.results72, KX_draw, KX_drawQ, KX_tail, lastO_one, lastO_more, dropL_one, dropL_more, callP_eq, callM_true, e0, e3, d1, hb', hw, n1, n2, n3]
      rw [hA]
    all_goals
      simp (maxSteps := 1000000) +contextual (disch := first | with_reducible assumption | exact ⟨rfl⟩ | exact ⟨rfl, rfl⟩ | (refine _root_.id ?_; kernel_rfl) | omega) only [evs, ext_mv, nth, put, putT, getT, binInt, binStr, binBool, aUn, outA, resA, mapO, resA1, oneOf, w1, w2, w3, bots, cond_true, cond_false, if_true, if_false, ite_true, ite_false, reduceIte, reduceCtorEq, implies_true, Nat.reduceAdd, Nat.reduceSub, AV.int, AV.bool, AV.str, Nat.reduceBEq, Nat.reduceEqDiff, Nat.reduceMul, Nat.reduceLT, Nat.reduceLeDiff, Int.reduceNeg, BEq.rfl, beq_self_eq_true, tabl, cellsOf, fldA, ldA, stA, entAt, partA, takeN, over, leafOk, Value.oneCell', idxA, nilA, cellsEq, fillA, elemsA, pure1, pure2, reps, chkA, tys, Tryd.results72, KX_draw, KX_drawQ, KX_tail, lastO_one, lastO_more, dropL_one, dropL_more, callP_eq, callM_true, e0, e3, d1, hb', hw, n1, n2, n3]
      exact IH (i + 1) _ (by omega) ⟨rfl, by omega, hA, rfl, rfl, rfl⟩
  · have d1 : decide ((i : Int) < (s.size : Int)) = false := by simpa using la
    have he : i = s.size := by omega
    simp (maxSteps := 1000000) +contextual (disch := first | with_reducible assumption | exact ⟨rfl⟩ | exact ⟨rfl, rfl⟩ | (refine _root_.id ?_; kernel_rfl) | omega) only [evs, ext_mv, nth, put, putT, getT, binInt, binStr, binBool, aUn, outA, resA, mapO, resA1, oneOf, w1, w2, w3, bots, cond_true, cond_false, if_true, if_false, ite_true, ite_false, reduceIte, reduceCtorEq, implies_true, Nat.reduceAdd, Nat.reduceSub, AV.int, AV.bool, AV.str, Nat.reduceBEq, Nat.reduceEqDiff, Nat.reduceMul, Nat.reduceLT, Nat.reduceLeDiff, Int.reduceNeg, BEq.rfl, beq_self_eq_true, tabl, cellsOf, fldA, ldA, stA, entAt, partA, takeN, over, leafOk, Value.oneCell', idxA, nilA, cellsEq, fillA, elemsA, pure1, pure2, reps, chkA, tys, Tryd.results72, KX_draw, KX_drawQ, KX_tail, lastO_one, lastO_more, dropL_one, dropL_more, callP_eq, callM_true, e0, e3, d1]
    rw [hA, he, ← bsL_len, List.drop_length]; rfl
def wordG (i : Nat) (l : List UInt8) : Bool := if i = 0 then wordF l else l.all lowB
theorem names_word (s : ByteArray) (hs : s.size ≤ 1048576) : cL Tryd.prog 73 [.str s] S tk k = some (.bool (wordF (bsL s)), S, tk, k) := by
  generalize hR : wordF (bsL s) = R
  refine call_pure Tryd.func73 rfl rfl (by decide +kernel) (by decide +kernel) Tryd.ntmps73 rfl rfl _ _ _ rfl ?_; rw [RK_KX]
  simp (maxSteps := 1000000) +contextual (disch := first | with_reducible assumption | exact ⟨rfl⟩ | exact ⟨rfl, rfl⟩ | (refine _root_.id ?_; kernel_rfl) | omega) only [evs, ext_mv, nth, put, putT, getT, binInt, binStr, binBool, aUn, outA, resA, mapO, resA1, oneOf, w1, w2, w3, bots, cond_true, cond_false, if_true, if_false, ite_true, ite_false, reduceIte, reduceCtorEq, implies_true, Nat.reduceAdd, Nat.reduceSub, AV.int, AV.bool, AV.str, Nat.reduceBEq, Nat.reduceEqDiff, Nat.reduceMul, Nat.reduceLT, Nat.reduceLeDiff, Int.reduceNeg, BEq.rfl, beq_self_eq_true, tabl, cellsOf, fldA, ldA, stA, entAt, partA, takeN, over, leafOk, Value.oneCell', idxA, nilA, cellsEq, fillA, elemsA, pure1, pure2, reps, chkA, tys, Tryd.results73, KX_draw, KX_drawQ, KX_tail, lastO_one, lastO_more, dropL_one, dropL_more, callP_eq, callM_true]
  refine loop1 (P := Tryd.prog) (fun x st => st.T.length = 32 ∧ (x ≤ s.size) ∧ (R = wordG x ((bsL s).drop x)) ∧ getT st.T 0 = .str s ∧ getT st.T 3 = .int (x : Nat) ∧ st.S = []) (fun x => s.size - x) (fun x => .bool R) (0) ?_ ?_
  case refine_2 => exact ⟨rfl, Nat.zero_le _, hR.symm, rfl, rfl, rfl⟩
  rintro i ⟨T, S', tk', n'⟩ ⟨hl, hi, hA, e0, e3, eS⟩ IH
  subst eS
  obtain ⟨g, hg, hT⟩ := tab_of hl
  rw [hg] at e0 e3
  subst hT
  clear hg hl
  by_cases la : i < s.size
  · have d1 : decide ((i : Int) < (s.size : Int)) = true := by simpa using la
    obtain ⟨b, hb⟩ := bs_at la
    have hb' := sIx hb
    have hw := wrap_add (i := i) (m := 0) (by omega)
    rw [nth_drop hb] at hA
    have n1 := fun S tk k => names_small S tk k b
    have n3 := fun S tk k => names_digit S tk k b
    have e95 : (((b.toNat : Nat) : Int) != 95) = !decide (b.toNat = 95) := by
      by_cases h : b.toNat = 95 <;> simp [h] <;> omega
    rcases i with _ | j
    · simp only [wordG, if_true, wordF] at hA
      have d2 : ((((0 : Nat) : Int)) == 0) = true := rfl
      cases q1 : smallB b <;> simp only [q1, Bool.false_and, Bool.true_and] at n1 hA
      · simp (maxSteps := 1000000) +contextual (disch := first | with_reducible assumption | exact ⟨rfl⟩ | exact ⟨rfl, rfl⟩ | (refine _root_.id ?_; kernel_rfl) | omega) only [evs, ext_mv, nth, put, putT, getT, binInt, binStr, binBool, aUn, outA, resA, mapO, resA1, oneOf, w1, w2, w3, bots, cond_true, cond_false, if_true, if_false, ite_true, ite_false, reduceIte, reduceCtorEq, implies_true, Nat.reduceAdd, Nat.reduceSub, AV.int, AV.bool, AV.str, Nat.reduceBEq, Nat.reduceEqDiff, Nat.reduceMul, Nat.reduceLT, Nat.reduceLeDiff, Int.reduceNeg, BEq.rfl, beq_self_eq_true, tabl, cellsOf, fldA, ldA, stA, entAt, partA, takeN, over, leafOk, Value.oneCell', idxA, nilA, cellsEq, fillA, elemsA, pure1, pure2, reps, chkA, tys, Tryd.results73, KX_draw, KX_drawQ, KX_tail, lastO_one, lastO_more, dropL_one, dropL_more, callP_eq, callM_true, e0, e3, d1, hb', hw, n1, n3, d2]
        rw [hA]
      · simp (maxSteps := 1000000) +contextual (disch := first | with_reducible assumption | exact ⟨rfl⟩ | exact ⟨rfl, rfl⟩ | (refine _root_.id ?_; kernel_rfl) | omega) only [evs, ext_mv, nth, put, putT, getT, binInt, binStr, binBool, aUn, outA, resA, mapO, resA1, oneOf, w1, w2, w3, bots, cond_true, cond_false, if_true, if_false, ite_true, ite_false, reduceIte, reduceCtorEq, implies_true, Nat.reduceAdd, Nat.reduceSub, AV.int, AV.bool, AV.str, Nat.reduceBEq, Nat.reduceEqDiff, Nat.reduceMul, Nat.reduceLT, Nat.reduceLeDiff, Int.reduceNeg, BEq.rfl, beq_self_eq_true, tabl, cellsOf, fldA, ldA, stA, entAt, partA, takeN, over, leafOk, Value.oneCell', idxA, nilA, cellsEq, fillA, elemsA, pure1, pure2, reps, chkA, tys, Tryd.results73, KX_draw, KX_drawQ, KX_tail, lastO_one, lastO_more, dropL_one, dropL_more, callP_eq, callM_true, e0, e3, d1, hb', hw, n1, n3, d2]
        refine IH 1 _ (by omega) ⟨rfl, by omega, ?_, rfl, rfl, rfl⟩
        rw [hA]; rfl
    · have d2 : ((((j + 1 : Nat) : Int)) == 0) = false := by simp; omega
      simp only [wordG, Nat.add_eq_zero_iff, Nat.one_ne_zero, and_false, if_false, List.all_cons, lowB] at hA
      cases q1 : smallB b <;> cases q3 : digB b <;> cases q2 : decide (b.toNat = 95) <;> simp only [q1, q2, q3, Bool.or_true, Bool.true_or, Bool.or_false, Bool.false_and, Bool.true_and, Bool.not_true, Bool.not_false] at n1 n3 e95 hA
      case false.false.false =>
        simp (maxSteps := 1000000) +contextual (disch := first | with_reducible assumption | exact ⟨rfl⟩ | exact ⟨rfl, rfl⟩ | (refine _root_.id ?_; kernel_rfl) | omega) only [evs, ext_mv, nth, put, putT, getT, binInt, binStr, binBool, aUn, outA, resA, mapO, resA1, oneOf, w1, w2, w3, bots, cond_true, cond_false, if_true, if_false, ite_true, ite_false, reduceIte, reduceCtorEq, implies_true, Nat.reduceAdd, Nat.reduceSub, AV.int, AV.bool, AV.str, Nat.reduceBEq, Nat.reduceEqDiff, Nat.reduceMul, Nat.reduceLT, Nat.reduceLeDiff, Int.reduceNeg, BEq.rfl, beq_self_eq_true, tabl, cellsOf, fldA, ldA, stA, entAt, partA, takeN, over, leafOk, Value.oneCell', idxA, nilA, cellsEq, fillA, elemsA, pure1, pure2, reps, chkA, tys, Tryd.results73, KX_draw, KX_drawQ, KX_tail, lastO_one, lastO_more, dropL_one, dropL_more, callP_eq, callM_true, e0, e3, d1, hb', hw, n1, n3, d2, e95]
        rw [hA]
      all_goals
        simp (maxSteps := 1000000) +contextual (disch := first | with_reducible assumption | exact ⟨rfl⟩ | exact ⟨rfl, rfl⟩ | (refine _root_.id ?_; kernel_rfl) | omega) only [evs, ext_mv, nth, put, putT, getT, binInt, binStr, binBool, aUn, outA, resA, mapO, resA1, oneOf, w1, w2, w3, bots, cond_true, cond_false, if_true, if_false, ite_true, ite_false, reduceIte, reduceCtorEq, implies_true, Nat.reduceAdd, Nat.reduceSub, AV.int, AV.bool, AV.str, Nat.reduceBEq, Nat.reduceEqDiff, Nat.reduceMul, Nat.reduceLT, Nat.reduceLeDiff, Int.reduceNeg, BEq.rfl, beq_self_eq_true, tabl, cellsOf, fldA, ldA, stA, entAt, partA, takeN, over, leafOk, Value.oneCell', idxA, nilA, cellsEq, fillA, elemsA, pure1, pure2, reps, chkA, tys, Tryd.results73, KX_draw, KX_drawQ, KX_tail, lastO_one, lastO_more, dropL_one, dropL_more, callP_eq, callM_true, e0, e3, d1, hb', hw, n1, n3, d2, e95]
        refine IH (j + 1 + 1) _ (by omega) ⟨rfl, by omega, ?_, rfl, rfl, rfl⟩
        rw [hA]; rfl
  · have d1 : decide ((i : Int) < (s.size : Int)) = false := by simpa using la
    have he : i = s.size := by omega
    simp (maxSteps := 1000000) +contextual (disch := first | with_reducible assumption | exact ⟨rfl⟩ | exact ⟨rfl, rfl⟩ | (refine _root_.id ?_; kernel_rfl) | omega) only [evs, ext_mv, nth, put, putT, getT, binInt, binStr, binBool, aUn, outA, resA, mapO, resA1, oneOf, w1, w2, w3, bots, cond_true, cond_false, if_true, if_false, ite_true, ite_false, reduceIte, reduceCtorEq, implies_true, Nat.reduceAdd, Nat.reduceSub, AV.int, AV.bool, AV.str, Nat.reduceBEq, Nat.reduceEqDiff, Nat.reduceMul, Nat.reduceLT, Nat.reduceLeDiff, Int.reduceNeg, BEq.rfl, beq_self_eq_true, tabl, cellsOf, fldA, ldA, stA, entAt, partA, takeN, over, leafOk, Value.oneCell', idxA, nilA, cellsEq, fillA, elemsA, pure1, pure2, reps, chkA, tys, Tryd.results73, KX_draw, KX_drawQ, KX_tail, lastO_one, lastO_more, dropL_one, dropL_more, callP_eq, callM_true, e0, e3, d1]
    rw [hA, he, ← bsL_len, List.drop_length]
    unfold wordG wordF
    split <;> rfl
theorem head_at {s : ByteArray} {b : UInt8} {f : UInt8 → Bool} (h : nth (bsL s) 0 = some b) : headB f (bsL s) = f b := by
  cases hl : bsL s with
  | nil => rw [hl] at h; simp [nth] at h
  | cons x l => rw [hl] at h; simp only [nth, Option.some.injEq] at h; subst h; rfl
theorem names_name (s : ByteArray) : cL Tryd.prog 69 [.str s] S tk k = some (.bool (nameF s), S, tk, k) := by
  refine call_pure Tryd.func69 rfl rfl (by decide +kernel) (by decide +kernel) Tryd.ntmps69 rfl rfl _ _ _ rfl ?_; rw [RK_KX]
  have c1 := fun S tk k => names_sized S tk k s
  have c2 := fun S tk k => names_Keyword S tk k s
  cases hz : sizedF s with
  | false =>
    rw [hz] at c1
    simp (maxSteps := 1000000) +contextual (disch := first | with_reducible assumption | exact ⟨rfl⟩ | exact ⟨rfl, rfl⟩ | (refine _root_.id ?_; kernel_rfl) | omega) only [evs, ext_mv, nth, put, putT, getT, binInt, binStr, binBool, aUn, outA, resA, mapO, resA1, oneOf, w1, w2, w3, bots, cond_true, cond_false, if_true, if_false, ite_true, ite_false, reduceIte, reduceCtorEq, implies_true, Nat.reduceAdd, Nat.reduceSub, AV.int, AV.bool, AV.str, Nat.reduceBEq, Nat.reduceEqDiff, Nat.reduceMul, Nat.reduceLT, Nat.reduceLeDiff, Int.reduceNeg, BEq.rfl, beq_self_eq_true, tabl, cellsOf, fldA, ldA, stA, entAt, partA, takeN, over, leafOk, Value.oneCell', idxA, nilA, cellsEq, fillA, elemsA, pure1, pure2, reps, chkA, tys, Tryd.results69, KX_draw, KX_drawQ, KX_tail, lastO_one, lastO_more, dropL_one, dropL_more, callP_eq, callM_true, c1, c2]
    simp [nameF, hz]
  | true =>
    have hsz : 1 ≤ s.size ∧ s.size ≤ 24 := by simpa [sizedF] using hz
    obtain ⟨b, hb⟩ := bs_at (show 0 < s.size by omega)
    have hb' := sIx hb
    have c3 := fun S tk k => names_small S tk k b
    rw [hz] at c1
    have hN : nameF s = (smallB b && !kwF s && (bsL s).all lowB) := by simp [nameF, hz, head_at hb]
    cases hq : smallB b with
    | false =>
      rw [hq] at c3 hN
      simp (maxSteps := 1000000) +contextual (disch := first | with_reducible assumption | exact ⟨rfl⟩ | exact ⟨rfl, rfl⟩ | (refine _root_.id ?_; kernel_rfl) | omega) only [evs, ext_mv, nth, put, putT, getT, binInt, binStr, binBool, aUn, outA, resA, mapO, resA1, oneOf, w1, w2, w3, bots, cond_true, cond_false, if_true, if_false, ite_true, ite_false, reduceIte, reduceCtorEq, implies_true, Nat.reduceAdd, Nat.reduceSub, AV.int, AV.bool, AV.str, Nat.reduceBEq, Nat.reduceEqDiff, Nat.reduceMul, Nat.reduceLT, Nat.reduceLeDiff, Int.reduceNeg, BEq.rfl, beq_self_eq_true, tabl, cellsOf, fldA, ldA, stA, entAt, partA, takeN, over, leafOk, Value.oneCell', idxA, nilA, cellsEq, fillA, elemsA, pure1, pure2, reps, chkA, tys, Tryd.results69, KX_draw, KX_drawQ, KX_tail, lastO_one, lastO_more, dropL_one, dropL_more, callP_eq, callM_true, c1, c2, c3, hb']
      rw [hN]; rfl
    | true =>
      rw [hq] at c3 hN
      cases hk : kwF s with
      | true =>
        rw [hk] at c2 hN
        simp (maxSteps := 1000000) +contextual (disch := first | with_reducible assumption | exact ⟨rfl⟩ | exact ⟨rfl, rfl⟩ | (refine _root_.id ?_; kernel_rfl) | omega) only [evs, ext_mv, nth, put, putT, getT, binInt, binStr, binBool, aUn, outA, resA, mapO, resA1, oneOf, w1, w2, w3, bots, cond_true, cond_false, if_true, if_false, ite_true, ite_false, reduceIte, reduceCtorEq, implies_true, Nat.reduceAdd, Nat.reduceSub, AV.int, AV.bool, AV.str, Nat.reduceBEq, Nat.reduceEqDiff, Nat.reduceMul, Nat.reduceLT, Nat.reduceLeDiff, Int.reduceNeg, BEq.rfl, beq_self_eq_true, tabl, cellsOf, fldA, ldA, stA, entAt, partA, takeN, over, leafOk, Value.oneCell', idxA, nilA, cellsEq, fillA, elemsA, pure1, pure2, reps, chkA, tys, Tryd.results69, KX_draw, KX_drawQ, KX_tail, lastO_one, lastO_more, dropL_one, dropL_more, callP_eq, callM_true, c1, c2, c3, hb']
        rw [hN]; rfl
      | false =>
        rw [hk] at c2 hN
        simp (maxSteps := 1000000) +contextual (disch := first | with_reducible assumption | exact ⟨rfl⟩ | exact ⟨rfl, rfl⟩ | (refine _root_.id ?_; kernel_rfl) | omega) only [evs, ext_mv, nth, put, putT, getT, binInt, binStr, binBool, aUn, outA, resA, mapO, resA1, oneOf, w1, w2, w3, bots, cond_true, cond_false, if_true, if_false, ite_true, ite_false, reduceIte, reduceCtorEq, implies_true, Nat.reduceAdd, Nat.reduceSub, AV.int, AV.bool, AV.str, Nat.reduceBEq, Nat.reduceEqDiff, Nat.reduceMul, Nat.reduceLT, Nat.reduceLeDiff, Int.reduceNeg, BEq.rfl, beq_self_eq_true, tabl, cellsOf, fldA, ldA, stA, entAt, partA, takeN, over, leafOk, Value.oneCell', idxA, nilA, cellsEq, fillA, elemsA, pure1, pure2, reps, chkA, tys, Tryd.results69, KX_draw, KX_drawQ, KX_tail, lastO_one, lastO_more, dropL_one, dropL_more, callP_eq, callM_true, c1, c2, c3, hb']
        have hN1 : nameF s = ((bsL s).drop 1).all lowB := by
          rw [hN]
          have : (bsL s) = b :: (bsL s).drop 1 := by simpa using nth_drop hb
          rw [this]; simp [lowB, hq]
        clear hb' c1 c2 c3 hN hb
        refine loop1 (P := Tryd.prog) (fun x st => st.T.length = 41 ∧ (1 ≤ x) ∧ (x ≤ s.size) ∧ (nameF s = ((bsL s).drop x).all lowB) ∧ getT st.T 0 = .str s ∧ getT st.T 3 = .int (x : Nat) ∧ st.S = []) (fun x => s.size - x) (fun x => .bool (nameF s)) (1) ?_ ?_
        case refine_2 => exact ⟨rfl, Nat.le_refl _, hsz.1, hN1, rfl, rfl, rfl⟩
        rintro i ⟨T, S', tk', n'⟩ ⟨hl, h1, hi, hA, e0, e3, eS⟩ IH
        subst eS
        obtain ⟨g, hg, hT⟩ := tab_of hl
        rw [hg] at e0 e3
        subst hT
        clear hg hl
        by_cases la : i < s.size
        · have d1 : decide ((i : Int) < (s.size : Int)) = true := by simpa using la
          obtain ⟨b, hb⟩ := bs_at la
          have hb' := sIx hb
          have hw := wrap_add (i := i) (m := 0) (by omega)
          rw [nth_drop hb] at hA
          have n1 := fun S tk k => names_small S tk k b
          have n3 := fun S tk k => names_digit S tk k b
          have e95 : (((b.toNat : Nat) : Int) != 95) = !decide (b.toNat = 95) := by
            by_cases h : b.toNat = 95 <;> simp [h] <;> omega
          simp only [List.all_cons, lowB] at hA
          cases q1 : smallB b <;> cases q3 : digB b <;> cases q2 : decide (b.toNat = 95) <;> simp only [q1, q2, q3, Bool.or_true, Bool.true_or, Bool.or_false, Bool.false_and, Bool.true_and, Bool.not_true, Bool.not_false] at n1 n3 e95 hA
          case false.false.false =>
            simp (maxSteps := 1000000) +contextual (disch := first | with_reducible assumption | exact ⟨rfl⟩ | exact ⟨rfl, rfl⟩ | (refine _root_.id ?_; kernel_rfl) | omega) only [evs, ext_mv, nth, put, putT, getT, binInt, binStr, binBool, aUn, outA, resA, mapO, resA1, oneOf, w1, w2, w3, bots, cond_true, cond_false, if_true, if_false, ite_true, ite_false, reduceIte, reduceCtorEq, implies_true, Nat.reduceAdd, Nat.reduceSub, AV.int, AV.bool, AV.str, Nat.reduceBEq, Nat.reduceEqDiff, Nat.reduceMul, Nat.reduceLT, Nat.reduceLeDiff, Int.reduceNeg, BEq.rfl, beq_self_eq_true, tabl, cellsOf, fldA, ldA, stA, entAt, partA, takeN, over, leafOk, Value.oneCell', idxA, nilA, cellsEq, fillA, elemsA, pure1, pure2, reps, chkA, tys, Tryd.results69, KX_draw, KX_drawQ, KX_tail, lastO_one, lastO_more, dropL_one, dropL_more, callP_eq, callM_true, e0, e3, d1, hb', hw, n1, n3, e95]
            rw [hA]
          all_goals
            simp (maxSteps := 1000000) +contextual (disch := first | with_reducible assumption | exact ⟨rfl⟩ | exact ⟨rfl, rfl⟩ | (refine _root_.id ?_; kernel_rfl) | omega) only [evs, ext_mv, nth, put, putT, getT, binInt, binStr, binBool, aUn, outA, resA, mapO, resA1, oneOf, w1, w2, w3, bots, cond_true, cond_false, if_true, if_false, ite_true, ite_false, reduceIte, reduceCtorEq, implies_true, Nat.reduceAdd, Nat.reduceSub, AV.int, AV.bool, AV.str, Nat.reduceBEq, Nat.reduceEqDiff, Nat.reduceMul, Nat.reduceLT, Nat.reduceLeDiff, Int.reduceNeg, BEq.rfl, beq_self_eq_true, tabl, cellsOf, fldA, ldA, stA, entAt, partA, takeN, over, leafOk, Value.oneCell', idxA, nilA, cellsEq, fillA, elemsA, pure1, pure2, reps, chkA, tys, Tryd.results69, KX_draw, KX_drawQ, KX_tail, lastO_one, lastO_more, dropL_one, dropL_more, callP_eq, callM_true, e0, e3, d1, hb', hw, n1, n3, e95]
            exact IH (i + 1) _ (by omega) ⟨rfl, by omega, by omega, hA, rfl, rfl, rfl⟩
        · have d1 : decide ((i : Int) < (s.size : Int)) = false := by simpa using la
          have he : i = s.size := by omega
          simp (maxSteps := 1000000) +contextual (disch := first | with_reducible assumption | exact ⟨rfl⟩ | exact ⟨rfl, rfl⟩ | (refine _root_.id ?_; kernel_rfl) | omega) only [evs, ext_mv, nth, put, putT, getT, binInt, binStr, binBool, aUn, outA, resA, mapO, resA1, oneOf, w1, w2, w3, bots, cond_true, cond_false, if_true, if_false, ite_true, ite_false, reduceIte, reduceCtorEq, implies_true, Nat.reduceAdd, Nat.reduceSub, AV.int, AV.bool, AV.str, Nat.reduceBEq, Nat.reduceEqDiff, Nat.reduceMul, Nat.reduceLT, Nat.reduceLeDiff, Int.reduceNeg, BEq.rfl, beq_self_eq_true, tabl, cellsOf, fldA, ldA, stA, entAt, partA, takeN, over, leafOk, Value.oneCell', idxA, nilA, cellsEq, fillA, elemsA, pure1, pure2, reps, chkA, tys, Tryd.results69, KX_draw, KX_drawQ, KX_tail, lastO_one, lastO_more, dropL_one, dropL_more, callP_eq, callM_true, e0, e3, d1]
          rw [hA, he, ← bsL_len, List.drop_length]; rfl
end
end Go.Proofs.YtkghgdkkholieaaDoor
/-
  Titles, the parts of a core name, core names, by the program.
-/

namespace Go.Proofs.YtkghgdkkholieaaDoor
open Go
theorem extract_ofL (s : ByteArray) (a b : Nat) : s.extract a b = ofL (((bsL s).take b).drop a) := by
  apply ByteArray.ext
  simp only [ofL, bsL, ByteArray.data_extract]
  apply Array.ext'
  simp [List.drop_take]
theorem bsL_ofL (l : List UInt8) : bsL (ofL l) = l := by simp [bsL, ofL]
theorem ofL_bsL (s : ByteArray) : ofL (bsL s) = s := by apply ByteArray.ext; simp [ofL, bsL]
theorem size_ofL (l : List UInt8) : (ofL l).size = l.length := by rw [← bsL_len, bsL_ofL]
/-- what stands before the first point, what stands behind it -/
def cutL : List UInt8 → List UInt8 × List UInt8 × Bool
  | [] => ([], [], false)
  | b :: r => if b.toNat = 46 then ([], r, true) else (b :: (cutL r).1, (cutL r).2.1, (cutL r).2.2)
theorem segs_cut : ∀ l : List UInt8, segsL l = (cutL l).1 :: (if (cutL l).2.2 = true then segsL (cutL l).2.1 else [])
  | [] => rfl
  | b :: r => by
    simp only [segsL, cutL]
    by_cases h : b.toNat = 46
    · simp [h]
    · rw [segs_cut r]; simp [h]
theorem cut_len : ∀ l : List UInt8, (cutL l).1.length ≤ l.length ∧ ((cutL l).2.2 = true → (cutL l).2.1.length < l.length)
  | [] => by simp [cutL]
  | b :: r => by
    have ih := cut_len r
    simp only [cutL]
    by_cases h : b.toNat = 46
    · simp [h]
    · simp only [if_neg h, List.length_cons]
      exact ⟨by omega, fun h1 => by have := ih.2 h1; omega⟩
theorem cut_rest : ∀ l : List UInt8, (cutL l).2.2 = false → (cutL l).1 = l ∧ (cutL l).2.1 = []
  | [] => fun _ => ⟨rfl, rfl⟩
  | b :: r => by
    have ih := cut_rest r
    simp only [cutL]
    by_cases h : b.toNat = 46
    · simp [h]
    · simp only [if_neg h]
      exact fun h1 => ⟨by rw [(ih h1).1], (ih h1).2⟩
/-- as far as the place i no point was found -/
theorem cut_at : ∀ (l : List UInt8) (i : Nat) (b : UInt8), nth l i = some b → (∀ j c, j < i → nth l j = some c → c.toNat ≠ 46) → b.toNat = 46 → cutL l = (l.take i, l.drop (i + 1), true)
  | x :: l, 0, b, h, _, hb => by simp only [nth, Option.some.injEq] at h; subst h; simp [cutL, hb]
  | x :: l, i + 1, b, h, hn, hb => by
    have h0 := hn 0 x (by omega) rfl
    have := cut_at l i b h (fun j c hj hc => hn (j + 1) c (by omega) hc) hb
    simp [cutL, h0, this]
  | [], _, _, h, _, _ => by simp [nth] at h
theorem cut_none : ∀ (l : List UInt8), (∀ j c, nth l j = some c → c.toNat ≠ 46) → cutL l = (l, [], false)
  | [], _ => rfl
  | x :: l, hn => by
    have h0 := hn 0 x rfl
    have := cut_none l (fun j c hc => hn (j + 1) c hc)
    simp [cutL, h0, this]
theorem isS : isStr Tryd.prog 9 = true := by kernel_rfl
theorem slice_to (s : ByteArray) (i : Nat) (h : i ≤ s.size) : sliceA Tryd.prog 9 (.prim (.string s)) none (some (.prim (.int .i64 (i : Int)))) none = some (.str (s.extract 0 i)) := by
  simp [sliceA, isS, bound, intN, h]
theorem slice_from (s : ByteArray) (i : Nat) (h : i ≤ s.size) : sliceA Tryd.prog 9 (.prim (.string s)) (some (.prim (.int .i64 (i : Int)))) none none = some (.str (s.extract i s.size)) := by
  simp [sliceA, isS, bound, intN, h]
section
variable (S : List Ent) (tk : List Nat) (k : Nat)
theorem names_title (s : ByteArray) : cL Tryd.prog 70 [.str s] S tk k = some (.bool (titleF s), S, tk, k) := by
  refine call_pure Tryd.func70 rfl rfl (by decide +kernel) (by decide +kernel) Tryd.ntmps70 rfl rfl _ _ _ rfl ?_; rw [RK_KX]
  have c1 := fun S tk k => names_sized S tk k s
  cases hz : sizedF s with
  | false =>
    rw [hz] at c1
    simp (maxSteps := 1000000) +contextual (disch := first | with_reducible assumption | exact ⟨rfl⟩ | exact ⟨rfl, rfl⟩ | (refine _root_.id ?_; kernel_rfl) | omega) only [evs, ext_mv, nth, put, putT, getT, binInt, binStr, binBool, aUn, outA, resA, mapO, resA1, oneOf, w1, w2, w3, bots, cond_true, cond_false, if_true, if_false, ite_true, ite_false, reduceIte, reduceCtorEq, implies_true, Nat.reduceAdd, Nat.reduceSub, AV.int, AV.bool, AV.str, Nat.reduceBEq, Nat.reduceEqDiff, Nat.reduceMul, Nat.reduceLT, Nat.reduceLeDiff, Int.reduceNeg, BEq.rfl, beq_self_eq_true, tabl, cellsOf, fldA, ldA, stA, entAt, partA, takeN, over, leafOk, Value.oneCell', idxA, nilA, cellsEq, fillA, elemsA, pure1, pure2, reps, chkA, tys, Tryd.results70, KX_draw, KX_drawQ, KX_tail, lastO_one, lastO_more, dropL_one, dropL_more, callP_eq, callM_true, c1]
    simp [titleF, hz]
  | true =>
    have hsz : 1 ≤ s.size ∧ s.size ≤ 24 := by simpa [sizedF] using hz
    obtain ⟨b, hb⟩ := bs_at (show 0 < s.size by omega)
    have hb' := sIx hb
    have c3 := fun S tk k => names_capital S tk k b
    have c4 := fun S tk k => names_alphanumeric S tk k s (by omega)
    rw [hz] at c1
    have hN : titleF s = (capB b && (bsL s).all alnB && !(sEq s bInt || sEq s bBool || sEq s bCell || sEq s bFun)) := by simp [titleF, hz, head_at hb]
    rw [hN]
    cases hq : capB b <;> cases hk : (bsL s).all alnB <;> rw [hq] at c3 <;> rw [hk] at c4
    case true.true =>
      simp (maxSteps := 1000000) +contextual (disch := first | with_reducible assumption | exact ⟨rfl⟩ | exact ⟨rfl, rfl⟩ | (refine _root_.id ?_; kernel_rfl) | omega) only [evs, ext_mv, nth, put, putT, getT, binInt, binStr, binBool, aUn, outA, resA, mapO, resA1, oneOf, w1, w2, w3, bots, cond_true, cond_false, if_true, if_false, ite_true, ite_false, reduceIte, reduceCtorEq, implies_true, Nat.reduceAdd, Nat.reduceSub, AV.int, AV.bool, AV.str, Nat.reduceBEq, Nat.reduceEqDiff, Nat.reduceMul, Nat.reduceLT, Nat.reduceLeDiff, Int.reduceNeg, BEq.rfl, beq_self_eq_true, tabl, cellsOf, fldA, ldA, stA, entAt, partA, takeN, over, leafOk, Value.oneCell', idxA, nilA, cellsEq, fillA, elemsA, pure1, pure2, reps, chkA, tys, Tryd.results70, KX_draw, KX_drawQ, KX_tail, lastO_one, lastO_more, dropL_one, dropL_more, callP_eq, callM_true, c1, c3, c4, hb']
      unfold bInt bBool bCell bFun
      generalize sEq s ⟨#[73, 110, 116]⟩ = q1
      generalize sEq s ⟨#[66, 111, 111, 108]⟩ = q2
      generalize sEq s ⟨#[67, 101, 108, 108]⟩ = q3
      generalize sEq s ⟨#[70, 117, 110]⟩ = q4
      cases q1 <;> cases q2 <;> cases q3 <;> cases q4 <;> simp
    all_goals
      simp (maxSteps := 1000000) +contextual (disch := first | with_reducible assumption | exact ⟨rfl⟩ | exact ⟨rfl, rfl⟩ | (refine _root_.id ?_; kernel_rfl) | omega) only [evs, ext_mv, nth, put, putT, getT, binInt, binStr, binBool, aUn, outA, resA, mapO, resA1, oneOf, w1, w2, w3, bots, cond_true, cond_false, if_true, if_false, ite_true, ite_false, reduceIte, reduceCtorEq, implies_true, Nat.reduceAdd, Nat.reduceSub, AV.int, AV.bool, AV.str, Nat.reduceBEq, Nat.reduceEqDiff, Nat.reduceMul, Nat.reduceLT, Nat.reduceLeDiff, Int.reduceNeg, BEq.rfl, beq_self_eq_true, tabl, cellsOf, fldA, ldA, stA, entAt, partA, takeN, over, leafOk, Value.oneCell', idxA, nilA, cellsEq, fillA, elemsA, pure1, pure2, reps, chkA, tys, Tryd.results70, KX_draw, KX_drawQ, KX_tail, lastO_one, lastO_more, dropL_one, dropL_more, callP_eq, callM_true, c1, c3, c4, hb']
theorem names_cut (s : ByteArray) (hs : s.size ≤ 1048576) : cL Tryd.prog 68 [.str s] S tk k = some (.tup [.str (ofL (cutL (bsL s)).1), .str (ofL (cutL (bsL s)).2.1), .bool (cutL (bsL s)).2.2], S, tk, k) := by
  refine call_pure Tryd.func68 rfl rfl (by decide +kernel) (by decide +kernel) Tryd.ntmps68 rfl rfl _ _ _ rfl ?_; rw [RK_KX]
  simp (maxSteps := 1000000) +contextual (disch := first | with_reducible assumption | exact ⟨rfl⟩ | exact ⟨rfl, rfl⟩ | (refine _root_.id ?_; kernel_rfl) | omega) only [evs, ext_mv, nth, put, putT, getT, binInt, binStr, binBool, aUn, outA, resA, mapO, resA1, oneOf, w1, w2, w3, bots, cond_true, cond_false, if_true, if_false, ite_true, ite_false, reduceIte, reduceCtorEq, implies_true, Nat.reduceAdd, Nat.reduceSub, AV.int, AV.bool, AV.str, Nat.reduceBEq, Nat.reduceEqDiff, Nat.reduceMul, Nat.reduceLT, Nat.reduceLeDiff, Int.reduceNeg, BEq.rfl, beq_self_eq_true, tabl, cellsOf, fldA, ldA, stA, entAt, partA, takeN, over, leafOk, Value.oneCell', idxA, nilA, cellsEq, fillA, elemsA, pure1, pure2, reps, chkA, tys, Tryd.results68, KX_draw, KX_drawQ, KX_tail, lastO_one, lastO_more, dropL_one, dropL_more, callP_eq, callM_true]
  refine loop1 (P := Tryd.prog) (fun x st => st.T.length = 24 ∧ (x ≤ s.size) ∧ (∀ j c, j < x → nth (bsL s) j = some c → c.toNat ≠ 46) ∧ getT st.T 0 = .str s ∧ getT st.T 5 = .int (x : Nat) ∧ st.S = []) (fun x => s.size - x) (fun x => .tup [.str (ofL (cutL (bsL s)).1), .str (ofL (cutL (bsL s)).2.1), .bool (cutL (bsL s)).2.2]) (0) ?_ ?_
  case refine_2 => exact ⟨rfl, Nat.zero_le _, fun j c h => by omega, rfl, rfl, rfl⟩
  rintro i ⟨T, S', tk', n'⟩ ⟨hl, hi, hA, e0, e5, eS⟩ IH
  subst eS
  obtain ⟨g, hg, hT⟩ := tab_of hl
  rw [hg] at e0 e5
  subst hT
  clear hg hl
  by_cases la : i < s.size
  · have d1 : decide ((i : Int) < (s.size : Int)) = true := by simpa using la
    obtain ⟨b, hb⟩ := bs_at la
    have hb' := sIx hb
    have hw := wrap_add (i := i) (m := 0) (by omega)
    by_cases h46 : b.toNat = 46
    · have d2 : (((b.toNat : Nat) : Int) == 46) = true := by rw [h46]; rfl
      have hcut := cut_at (bsL s) i b hb hA h46
      rw [hcut]
      clear IH
      have s1 := slice_to s i hi
      have s2 := slice_from s (i + 1) la
      have x1 : s.extract 0 i = ofL ((bsL s).take i) := by rw [extract_ofL]; rfl
      have x2 : s.extract (i + 1) s.size = ofL ((bsL s).drop (i + 1)) := by rw [extract_ofL, ← bsL_len, List.take_length]
      rw [x1] at s1
      rw [x2] at s2
      simp (maxSteps := 1000000) +contextual (disch := first | with_reducible assumption | exact ⟨rfl⟩ | exact ⟨rfl, rfl⟩ | (refine _root_.id ?_; kernel_rfl) | omega) only [evs, ext_mv, nth, put, putT, getT, binInt, binStr, binBool, aUn, outA, resA, mapO, resA1, oneOf, w1, w2, w3, bots, cond_true, cond_false, if_true, if_false, ite_true, ite_false, reduceIte, reduceCtorEq, implies_true, Nat.reduceAdd, Nat.reduceSub, AV.int, AV.bool, AV.str, Nat.reduceBEq, Nat.reduceEqDiff, Nat.reduceMul, Nat.reduceLT, Nat.reduceLeDiff, Int.reduceNeg, BEq.rfl, beq_self_eq_true, tabl, cellsOf, fldA, ldA, stA, entAt, partA, takeN, over, leafOk, Value.oneCell', idxA, nilA, cellsEq, fillA, elemsA, pure1, pure2, reps, chkA, tys, Tryd.results68, KX_draw, KX_drawQ, KX_tail, lastO_one, lastO_more, dropL_one, dropL_more, callP_eq, callM_true, e0, e5, d1, d2, hb', hw, s1, s2]
    · have d2 : (((b.toNat : Nat) : Int) == 46) = false := by simp; omega
      simp (maxSteps := 1000000) +contextual (disch := first | with_reducible assumption | exact ⟨rfl⟩ | exact ⟨rfl, rfl⟩ | (refine _root_.id ?_; kernel_rfl) | omega) only [evs, ext_mv, nth, put, putT, getT, binInt, binStr, binBool, aUn, outA, resA, mapO, resA1, oneOf, w1, w2, w3, bots, cond_true, cond_false, if_true, if_false, ite_true, ite_false, reduceIte, reduceCtorEq, implies_true, Nat.reduceAdd, Nat.reduceSub, AV.int, AV.bool, AV.str, Nat.reduceBEq, Nat.reduceEqDiff, Nat.reduceMul, Nat.reduceLT, Nat.reduceLeDiff, Int.reduceNeg, BEq.rfl, beq_self_eq_true, tabl, cellsOf, fldA, ldA, stA, entAt, partA, takeN, over, leafOk, Value.oneCell', idxA, nilA, cellsEq, fillA, elemsA, pure1, pure2, reps, chkA, tys, Tryd.results68, KX_draw, KX_drawQ, KX_tail, lastO_one, lastO_more, dropL_one, dropL_more, callP_eq, callM_true, e0, e5, d1, d2, hb', hw]
      refine IH (i + 1) _ (by omega) ⟨rfl, by omega, fun j c hj hc => ?_, rfl, rfl, rfl⟩
      by_cases hji : j = i
      · subst hji; rw [hb] at hc; cases hc; exact h46
      · exact hA j c (by omega) hc
  · have d1 : decide ((i : Int) < (s.size : Int)) = false := by simpa using la
    have he : i = s.size := by omega
    have hcut := cut_none (bsL s) (fun j c hc => hA j c (by
      rw [nth_get] at hc
      have := (List.getElem?_eq_some_iff.1 hc).1
      rw [bsL_len] at this; omega) hc)
    rw [hcut]
    simp only [ofL_bsL]
    simp (maxSteps := 1000000) +contextual (disch := first | with_reducible assumption | exact ⟨rfl⟩ | exact ⟨rfl, rfl⟩ | (refine _root_.id ?_; kernel_rfl) | omega) only [evs, ext_mv, nth, put, putT, getT, binInt, binStr, binBool, aUn, outA, resA, mapO, resA1, oneOf, w1, w2, w3, bots, cond_true, cond_false, if_true, if_false, ite_true, ite_false, reduceIte, reduceCtorEq, implies_true, Nat.reduceAdd, Nat.reduceSub, AV.int, AV.bool, AV.str, Nat.reduceBEq, Nat.reduceEqDiff, Nat.reduceMul, Nat.reduceLT, Nat.reduceLeDiff, Int.reduceNeg, BEq.rfl, beq_self_eq_true, tabl, cellsOf, fldA, ldA, stA, entAt, partA, takeN, over, leafOk, Value.oneCell', idxA, nilA, cellsEq, fillA, elemsA, pure1, pure2, reps, chkA, tys, Tryd.results68, KX_draw, KX_drawQ, KX_tail, lastO_one, lastO_more, dropL_one, dropL_more, callP_eq, callM_true, e0, e5, d1]
    rfl
theorem segs_ne (l : List UInt8) : (segsL l).isEmpty = false := by rw [segs_cut]; rfl
def restF (l : List UInt8) (m : Bool) : Bool := (if m = true then (segsL l).map ofL else []).all partF
theorem rest_step (l : List UInt8) : restF l true = (partF (ofL (cutL l).1) && restF (cutL l).2.1 (cutL l).2.2) := by
  unfold restF
  rw [if_pos rfl, segs_cut l]
  cases (cutL l).2.2 <;> simp
theorem core_eq {s : ByteArray} (h : s.size ≤ 120) : coreF s = ((nameF (ofL (cutL (bsL s)).1) || titleF (ofL (cutL (bsL s)).1) || (sEq (ofL (cutL (bsL s)).1) bV && (cutL (bsL s)).2.2)) && restF (cutL (bsL s)).2.1 (cutL (bsL s)).2.2) := by
  unfold coreF segsF restF
  rw [segs_cut (bsL s)]
  have : decide (s.size ≤ 120) = true := by simpa using h
  rw [this]
  cases (cutL (bsL s)).2.2 <;> simp [coreL, segs_ne]
theorem part_word (s : ByteArray) : partF s = (sizedF s && ((bsL s).all alnB || wordF (bsL s))) := rfl
set_option maxHeartbeats 4000000 in
theorem names_Core (s : ByteArray) : cL Tryd.prog 62 [.str s] S tk k = some (.int (if coreF s = true then 0 else 3), S, tk, k) := by
  refine call_pure Tryd.func62 rfl rfl (by decide +kernel) (by decide +kernel) Tryd.ntmps62 rfl rfl _ _ _ rfl ?_; rw [RK_KX]
  by_cases h120 : s.size ≤ 120
  case neg =>
    have d0 : decide ((s.size : Int) > 120) = true := by simp; omega
    simp (maxSteps := 1000000) +contextual (disch := first | with_reducible assumption | exact ⟨rfl⟩ | exact ⟨rfl, rfl⟩ | (refine _root_.id ?_; kernel_rfl) | omega) only [evs, ext_mv, nth, put, putT, getT, binInt, binStr, binBool, aUn, outA, resA, mapO, resA1, oneOf, w1, w2, w3, bots, cond_true, cond_false, if_true, if_false, ite_true, ite_false, reduceIte, reduceCtorEq, implies_true, Nat.reduceAdd, Nat.reduceSub, AV.int, AV.bool, AV.str, Nat.reduceBEq, Nat.reduceEqDiff, Nat.reduceMul, Nat.reduceLT, Nat.reduceLeDiff, Int.reduceNeg, BEq.rfl, beq_self_eq_true, tabl, cellsOf, fldA, ldA, stA, entAt, partA, takeN, over, leafOk, Value.oneCell', idxA, nilA, cellsEq, fillA, elemsA, pure1, pure2, reps, chkA, tys, Tryd.results62, KX_draw, KX_drawQ, KX_tail, lastO_one, lastO_more, dropL_one, dropL_more, callP_eq, callM_true, d0]
    have : coreF s = false := by unfold coreF; rw [show decide (s.size ≤ 120) = false by simpa using h120]; rfl
    rw [this]; rfl
  have d0 : decide ((s.size : Int) > 120) = false := by simp; omega
  have c1 := fun S tk k => names_cut S tk k s (by omega)
  have hl0 := cut_len (bsL s)
  rw [bsL_len] at hl0
  rw [core_eq h120]
  generalize (cutL (bsL s)).1 = f at *
  generalize hm0 : (cutL (bsL s)).2.2 = m0 at *
  generalize (cutL (bsL s)).2.1 = l0 at *
  have c2 := fun S tk k => names_name S tk k (ofL f)
  have c3 := fun S tk k => names_title S tk k (ofL f)
  have hl1 : m0 = true → l0.length ≤ 120 := fun h => by have := hl0.2 h; omega
  clear hl0
  have hgo : (nameF (ofL f) || titleF (ofL f) || (sEq (ofL f) bV && m0)) = true → True := fun _ => trivial
  generalize hRR : ((nameF (ofL f) || titleF (ofL f) || (sEq (ofL f) bV && m0)) && restF l0 m0) = RR
  unfold bV at hRR
  clear hgo
  have go : ∀ (R : Bool), restF l0 m0 = R → R = RR → True := fun _ _ _ => trivial
  clear go
  cases q1 : nameF (ofL f) <;> cases q2 : titleF (ofL f) <;> cases q3 : sEq (ofL f) ⟨#[118]⟩ <;> rw [q1] at c2 <;> rw [q2] at c3 <;> simp only [q1, q2, q3, Bool.or_true, Bool.true_or, Bool.or_false, Bool.false_and, Bool.true_and, Bool.and_true, Bool.and_false, Bool.false_or] at hRR
  case false.false.false => simp (maxSteps := 1000000) +contextual (disch := first | with_reducible assumption | exact ⟨rfl⟩ | exact ⟨rfl, rfl⟩ | (refine _root_.id ?_; kernel_rfl) | omega) only [evs, ext_mv, nth, put, putT, getT, binInt, binStr, binBool, aUn, outA, resA, mapO, resA1, oneOf, w1, w2, w3, bots, cond_true, cond_false, if_true, if_false, ite_true, ite_false, reduceIte, reduceCtorEq, implies_true, Nat.reduceAdd, Nat.reduceSub, AV.int, AV.bool, AV.str, Nat.reduceBEq, Nat.reduceEqDiff, Nat.reduceMul, Nat.reduceLT, Nat.reduceLeDiff, Int.reduceNeg, BEq.rfl, beq_self_eq_true, tabl, cellsOf, fldA, ldA, stA, entAt, partA, takeN, over, leafOk, Value.oneCell', idxA, nilA, cellsEq, fillA, elemsA, pure1, pure2, reps, chkA, tys, Tryd.results62, KX_draw, KX_drawQ, KX_tail, lastO_one, lastO_more, dropL_one, dropL_more, callP_eq, callM_true, d0, c1, c2, c3, q3]; rw [← hRR]; rfl
  all_goals
    simp (maxSteps := 1000000) +contextual (disch := first | with_reducible assumption | exact ⟨rfl⟩ | exact ⟨rfl, rfl⟩ | (refine _root_.id ?_; kernel_rfl) | omega) only [evs, ext_mv, nth, put, putT, getT, binInt, binStr, binBool, aUn, outA, resA, mapO, resA1, oneOf, w1, w2, w3, bots, cond_true, cond_false, if_true, if_false, ite_true, ite_false, reduceIte, reduceCtorEq, implies_true, Nat.reduceAdd, Nat.reduceSub, AV.int, AV.bool, AV.str, Nat.reduceBEq, Nat.reduceEqDiff, Nat.reduceMul, Nat.reduceLT, Nat.reduceLeDiff, Int.reduceNeg, BEq.rfl, beq_self_eq_true, tabl, cellsOf, fldA, ldA, stA, entAt, partA, takeN, over, leafOk, Value.oneCell', idxA, nilA, cellsEq, fillA, elemsA, pure1, pure2, reps, chkA, tys, Tryd.results62, KX_draw, KX_drawQ, KX_tail, lastO_one, lastO_more, dropL_one, dropL_more, callP_eq, callM_true, d0, c1, c2, c3, q3]
  case false.false.true =>
    refine ⟨fun h => ?_, fun h => by rw [h] at hRR; rw [← hRR]; rfl⟩
    subst h
    rw [Bool.true_and] at hRR
    clear c1 c2 c3 q1 q2 q3
    refine loop1 (P := Tryd.prog) (fun x st => st.T.length = 52 ∧ (x.2 = true → x.1.length ≤ 120) ∧ (RR = restF x.1 x.2) ∧ getT st.T 4 = .str (ofL x.1) ∧ getT st.T 5 = .bool x.2 ∧ st.S = []) (fun x => if x.2 = true then x.1.length + 1 else 0) (fun x => .int (if RR = true then 0 else 3)) (l0, true) ?_ ?_
    case refine_2 => exact ⟨rfl, hl1, hRR.symm, rfl, rfl, rfl⟩
    rintro ⟨l, m⟩ ⟨T, S', tk', n'⟩ ⟨hl, hl, hA, e4, e5, eS⟩ IH
    simp only at hl hA e4 e5 eS
    subst eS
    obtain ⟨g, hg, hT⟩ := tab_of hl
    rw [hg] at e4 e5
    subst hT
    clear hg hl
    cases m with
    | false =>
      simp (maxSteps := 1000000) +contextual (disch := first | with_reducible assumption | exact ⟨rfl⟩ | exact ⟨rfl, rfl⟩ | (refine _root_.id ?_; kernel_rfl) | omega) only [evs, ext_mv, nth, put, putT, getT, binInt, binStr, binBool, aUn, outA, resA, mapO, resA1, oneOf, w1, w2, w3, bots, cond_true, cond_false, if_true, if_false, ite_true, ite_false, reduceIte, reduceCtorEq, implies_true, Nat.reduceAdd, Nat.reduceSub, AV.int, AV.bool, AV.str, Nat.reduceBEq, Nat.reduceEqDiff, Nat.reduceMul, Nat.reduceLT, Nat.reduceLeDiff, Int.reduceNeg, BEq.rfl, beq_self_eq_true, tabl, cellsOf, fldA, ldA, stA, entAt, partA, takeN, over, leafOk, Value.oneCell', idxA, nilA, cellsEq, fillA, elemsA, pure1, pure2, reps, chkA, tys, Tryd.results62, KX_draw, KX_drawQ, KX_tail, lastO_one, lastO_more, dropL_one, dropL_more, callP_eq, callM_true, e4, e5]
      rw [hA]; rfl
    | true =>
      have hl2 := hl rfl
      have c1 := fun S tk k => names_cut S tk k (ofL l) (by rw [size_ofL]; omega)
      rw [bsL_ofL] at c1
      have hcl := cut_len l
      rw [rest_step] at hA
      generalize (cutL l).1 = f1 at *
      generalize (cutL l).2.2 = m1 at *
      generalize (cutL l).2.1 = l1 at *
      have z1 := fun S tk k => names_sized S tk k (ofL f1)
      have z2 := fun S tk k => names_alphanumeric S tk k (ofL f1) (by rw [size_ofL]; omega)
      have z3 := fun S tk k => names_word S tk k (ofL f1) (by rw [size_ofL]; omega)
      rw [part_word] at hA
      cases r1 : sizedF (ofL f1) <;> cases r2 : (bsL (ofL f1)).all alnB <;> cases r3 : wordF (bsL (ofL f1)) <;> rw [r1] at z1 <;> rw [r2] at z2 <;> rw [r3] at z3 <;> simp only [r1, r2, r3, Bool.or_true, Bool.true_or, Bool.or_false, Bool.false_and, Bool.true_and, Bool.and_true, Bool.and_false, Bool.false_or] at hA
      all_goals
        simp (maxSteps := 1000000) +contextual (disch := first | with_reducible assumption | exact ⟨rfl⟩ | exact ⟨rfl, rfl⟩ | (refine _root_.id ?_; kernel_rfl) | omega) only [evs, ext_mv, nth, put, putT, getT, binInt, binStr, binBool, aUn, outA, resA, mapO, resA1, oneOf, w1, w2, w3, bots, cond_true, cond_false, if_true, if_false, ite_true, ite_false, reduceIte, reduceCtorEq, implies_true, Nat.reduceAdd, Nat.reduceSub, AV.int, AV.bool, AV.str, Nat.reduceBEq, Nat.reduceEqDiff, Nat.reduceMul, Nat.reduceLT, Nat.reduceLeDiff, Int.reduceNeg, BEq.rfl, beq_self_eq_true, tabl, cellsOf, fldA, ldA, stA, entAt, partA, takeN, over, leafOk, Value.oneCell', idxA, nilA, cellsEq, fillA, elemsA, pure1, pure2, reps, chkA, tys, Tryd.results62, KX_draw, KX_drawQ, KX_tail, lastO_one, lastO_more, dropL_one, dropL_more, callP_eq, callM_true, e4, e5, c1, z1, z2, z3]
      all_goals
        first
        | (rw [hA]; rfl)
        | (refine IH (l1, m1) _ ?_ ⟨rfl, fun h => (show l1.length ≤ 120 by have := hcl.2 h; omega), hA, rfl, rfl, rfl⟩
           cases m1 with
           | false => simp
           | true => have := hcl.2 rfl; simp; omega)
  all_goals
    clear c1 c2 c3 q1 q2 q3
    refine loop1 (P := Tryd.prog) (fun x st => st.T.length = 52 ∧ (x.2 = true → x.1.length ≤ 120) ∧ (RR = restF x.1 x.2) ∧ getT st.T 4 = .str (ofL x.1) ∧ getT st.T 5 = .bool x.2 ∧ st.S = []) (fun x => if x.2 = true then x.1.length + 1 else 0) (fun x => .int (if RR = true then 0 else 3)) (l0, m0) ?_ ?_
    case refine_2 => exact ⟨rfl, hl1, hRR.symm, rfl, rfl, rfl⟩
    rintro ⟨l, m⟩ ⟨T, S', tk', n'⟩ ⟨hl, hl, hA, e4, e5, eS⟩ IH
    simp only at hl hA e4 e5 eS
    subst eS
    obtain ⟨g, hg, hT⟩ := tab_of hl
    rw [hg] at e4 e5
    subst hT
    clear hg hl
    cases m with
    | false =>
      simp (maxSteps := 1000000) +contextual (disch := first | with_reducible assumption | exact ⟨rfl⟩ | exact ⟨rfl, rfl⟩ | (refine _root_.id ?_; kernel_rfl) | omega) only [evs, ext_mv, nth, put, putT, getT, binInt, binStr, binBool, aUn, outA, resA, mapO, resA1, oneOf, w1, w2, w3, bots, cond_true, cond_false, if_true, if_false, ite_true, ite_false, reduceIte, reduceCtorEq, implies_true, Nat.reduceAdd, Nat.reduceSub, AV.int, AV.bool, AV.str, Nat.reduceBEq, Nat.reduceEqDiff, Nat.reduceMul, Nat.reduceLT, Nat.reduceLeDiff, Int.reduceNeg, BEq.rfl, beq_self_eq_true, tabl, cellsOf, fldA, ldA, stA, entAt, partA, takeN, over, leafOk, Value.oneCell', idxA, nilA, cellsEq, fillA, elemsA, pure1, pure2, reps, chkA, tys, Tryd.results62, KX_draw, KX_drawQ, KX_tail, lastO_one, lastO_more, dropL_one, dropL_more, callP_eq, callM_true, e4, e5]
      rw [hA]; rfl
    | true =>
      have hl2 := hl rfl
      have c1 := fun S tk k => names_cut S tk k (ofL l) (by rw [size_ofL]; omega)
      rw [bsL_ofL] at c1
      have hcl := cut_len l
      rw [rest_step] at hA
      generalize (cutL l).1 = f1 at *
      generalize (cutL l).2.2 = m1 at *
      generalize (cutL l).2.1 = l1 at *
      have z1 := fun S tk k => names_sized S tk k (ofL f1)
      have z2 := fun S tk k => names_alphanumeric S tk k (ofL f1) (by rw [size_ofL]; omega)
      have z3 := fun S tk k => names_word S tk k (ofL f1) (by rw [size_ofL]; omega)
      rw [part_word] at hA
      cases r1 : sizedF (ofL f1) <;> cases r2 : (bsL (ofL f1)).all alnB <;> cases r3 : wordF (bsL (ofL f1)) <;> rw [r1] at z1 <;> rw [r2] at z2 <;> rw [r3] at z3 <;> simp only [r1, r2, r3, Bool.or_true, Bool.true_or, Bool.or_false, Bool.false_and, Bool.true_and, Bool.and_true, Bool.and_false, Bool.false_or] at hA
      all_goals
        simp (maxSteps := 1000000) +contextual (disch := first | with_reducible assumption | exact ⟨rfl⟩ | exact ⟨rfl, rfl⟩ | (refine _root_.id ?_; kernel_rfl) | omega) only [evs, ext_mv, nth, put, putT, getT, binInt, binStr, binBool, aUn, outA, resA, mapO, resA1, oneOf, w1, w2, w3, bots, cond_true, cond_false, if_true, if_false, ite_true, ite_false, reduceIte, reduceCtorEq, implies_true, Nat.reduceAdd, Nat.reduceSub, AV.int, AV.bool, AV.str, Nat.reduceBEq, Nat.reduceEqDiff, Nat.reduceMul, Nat.reduceLT, Nat.reduceLeDiff, Int.reduceNeg, BEq.rfl, beq_self_eq_true, tabl, cellsOf, fldA, ldA, stA, entAt, partA, takeN, over, leafOk, Value.oneCell', idxA, nilA, cellsEq, fillA, elemsA, pure1, pure2, reps, chkA, tys, Tryd.results62, KX_draw, KX_drawQ, KX_tail, lastO_one, lastO_more, dropL_one, dropL_more, callP_eq, callM_true, e4, e5, c1, z1, z2, z3]
      all_goals
        first
        | (rw [hA]; rfl)
        | (refine IH (l1, m1) _ ?_ ⟨rfl, fun h => (show l1.length ≤ 120 by have := hcl.2 h; omega), hA, rfl, rfl, rfl⟩
           cases m1 with
           | false => simp
           | true => have := hcl.2 rfl; simp; omega)
end
end Go.Proofs.YtkghgdkkholieaaDoor
/-
  The error of a node, kind by kind, plainly.
-/

namespace Go.Proofs.YtkghgdkkholieaaDoor
open Go
theorem bloop_eq (s : ByteArray) : ∀ (n i : Nat) (r : List UInt8), s.size - i = n → ByteArray.toList.loop s i r = r.reverse ++ s.data.toList.drop i := by
  intro n
  induction n with
  | zero =>
    intro i r h
    rw [ByteArray.toList.loop, if_neg (by omega), List.drop_eq_nil_of_le (by simp; omega), List.append_nil]
  | succ n ih =>
    intro i r h
    have hi : i < s.data.size := by simp; omega
    rw [ByteArray.toList.loop, if_pos (by omega), ih (i + 1) _ (by omega), List.reverse_cons, List.append_assoc]
    congr 1
    have e : s.data.toList.drop i = s.data[i] :: s.data.toList.drop (i + 1) := by
      rw [← Array.getElem_toList hi, List.getElem_cons_drop]
    rw [e, List.singleton_append]
    congr 1
    show s.data[i]! = _
    rw [getElem!_pos s.data i hi]
theorem toList_data (s : ByteArray) : s.toList = s.data.toList := by
  rw [ByteArray.toList, bloop_eq s _ 0 [] rfl]; simp
theorem sEq_iff (s t : ByteArray) : sEq s t = true ↔ s = t := by
  unfold sEq
  rw [toList_data, toList_data, beq_iff_eq]
  constructor
  · intro h
    apply ByteArray.ext
    exact Array.toList_inj.1 h
  · rintro rfl; rfl
theorem sEq_empty (s : ByteArray) : sEq s ⟨#[]⟩ = decide (s.size = 0) := by
  unfold sEq
  rw [toList_data, toList_data]
  have hl : s.data.toList.length = s.size := rfl
  cases hx : s.data.toList with
  | nil =>
    rw [hx] at hl
    have : s.size = 0 := hl.symm
    simp [this]
  | cons x l =>
    rw [hx] at hl
    have : s.size ≠ 0 := by rw [← hl]; simp
    simp [this]
end Go.Proofs.YtkghgdkkholieaaDoor
/-
  The names, by the reference: keywords, names, titles, parts.
-/


namespace Go.Proofs.YtkghgdkkholieaaDoor
open Go
def strC (x : ByteArray) : List AV := [.prim (.string x)]
def findF (i : Nat) : List ByteArray → ByteArray → Int
  | [], _ => -1
  | x :: l, s => if sEq x s then i else findF (i + 1) l s
theorem findF_nn : ∀ (l : List ByteArray) (i : Nat) (s : ByteArray), decide (findF i l s ≥ 0) = l.any fun x => sEq x s
  | [], _, _ => rfl
  | x :: l, i, s => by
    rw [List.any_cons]
    by_cases h : sEq x s = true
    · have e : findF i (x :: l) s = i := if_pos h
      rw [e, h]; simp
    · have e : findF i (x :: l) s = findF (i + 1) l s := if_neg h
      have h' : sEq x s = false := by simpa using h
      rw [e, h', Bool.false_or]
      exact findF_nn l (i + 1) s
theorem kw_run : evF Tryd.prog drawOk 20 88 [] [] [] 0 = some (.frz (kwL.map strC) .unk, [], [], 0) := by kernel_rfl
section
variable (S : List Ent) (tk : List Nat) (k : Nat)
theorem R04_keywords : cL Tryd.prog 88 [] S tk k = some (.frz (kwL.map strC) .unk, S, tk, k) := cL_closed kw_run rfl rfl S tk k
theorem R04_Find (l : List ByteArray) (s : ByteArray) (hlen : l.length ≤ 1000000) : cL Tryd.prog 87 [.frz (l.map strC) .unk, .str s] S tk k = some (.int (findF 0 l s), S, tk, k) := by
  refine call_pure Tryd.func87 rfl rfl (by decide +kernel) (by decide +kernel) Tryd.ntmps87 rfl rfl _ _ _ rfl ?_; rw [RK_KX]
  simp (maxSteps := 1000000) +contextual (disch := first | with_reducible assumption | exact ⟨rfl⟩ | exact ⟨rfl, rfl⟩ | (refine _root_.id ?_; kernel_rfl) | omega) only [evs, ext_mv, nth, put, putT, getT, binInt, binStr, binBool, aUn, outA, resA, mapO, resA1, oneOf, w1, w2, w3, bots, cond_true, cond_false, if_true, if_false, ite_true, ite_false, reduceIte, reduceCtorEq, implies_true, Nat.reduceAdd, Nat.reduceSub, AV.int, AV.bool, AV.str, Nat.reduceBEq, Nat.reduceEqDiff, Nat.reduceMul, Nat.reduceLT, Nat.reduceLeDiff, Int.reduceNeg, BEq.rfl, beq_self_eq_true, tabl, cellsOf, fldA, ldA, stA, entAt, partA, takeN, over, leafOk, Value.oneCell', idxA, nilA, cellsEq, fillA, elemsA, pure1, pure2, reps, chkA, tys, Tryd.results87, KX_draw, KX_drawQ, KX_tail, lastO_one, lastO_more, dropL_one, dropL_more, callP_eq, callM_true]
  refine loop1 (P := Tryd.prog) (fun x st => st.T.length = 19 ∧ (x ≤ l.length) ∧ (findF 0 l s = findF x (l.drop x) s) ∧ getT st.T 0 = .frz (l.map strC) .unk ∧ getT st.T 1 = .str s ∧ getT st.T 7 = .int (l.length : Nat) ∧ getT st.T 8 = .int (x : Nat) ∧ st.S = []) (fun x => l.length - x) (fun x => .int (findF 0 l s)) (0) ?_ ?_
  case refine_2 => exact ⟨rfl, Nat.zero_le _, rfl, rfl, rfl, rfl, rfl, rfl⟩
  rintro i ⟨T, S', tk', n'⟩ ⟨hl, hi, hA, e0, e1, e7, e8, eS⟩ IH
  subst eS
  obtain ⟨g, hg, hT⟩ := tab_of hl
  rw [hg] at e0 e1 e7 e8
  subst hT
  clear hg hl
  by_cases la : i < l.length
  · have d1 : decide ((i : Int) < (l.length : Int)) = true := by simpa using la
    obtain ⟨x, hx⟩ := nth_some la
    have hx' : nth (l.map strC) i = some (strC x) := by rw [nth_map, hx]; rfl
    have hw := wrap_add (i := i) (m := 0) (by omega)
    rw [nth_drop hx] at hA
    simp only [findF] at hA
    cases hq : sEq x s <;> rw [hq] at hA
    · simp (maxSteps := 1000000) +contextual (disch := first | with_reducible assumption | exact ⟨rfl⟩ | exact ⟨rfl, rfl⟩ | (refine _root_.id ?_; kernel_rfl) | omega) only [evs, ext_mv, nth, put, putT, getT, binInt, binStr, binBool, aUn, outA, resA, mapO, resA1, oneOf, w1, w2, w3, bots, cond_true, cond_false, if_true, if_false, ite_true, ite_false, reduceIte, reduceCtorEq, implies_true, Nat.reduceAdd, Nat.reduceSub, AV.int, AV.bool, AV.str, Nat.reduceBEq, Nat.reduceEqDiff, Nat.reduceMul, Nat.reduceLT, Nat.reduceLeDiff, Int.reduceNeg, BEq.rfl, beq_self_eq_true, tabl, cellsOf, fldA, ldA, stA, entAt, partA, takeN, over, leafOk, Value.oneCell', idxA, nilA, cellsEq, fillA, elemsA, pure1, pure2, reps, chkA, tys, Tryd.results87, KX_draw, KX_drawQ, KX_tail, lastO_one, lastO_more, dropL_one, dropL_more, callP_eq, callM_true, e0, e1, e7, e8, d1, hx', hw, strC, hq]
      exact IH (i + 1) _ (by omega) ⟨rfl, by omega, by simpa using hA, rfl, rfl, rfl, rfl, rfl⟩
    · simp (maxSteps := 1000000) +contextual (disch := first | with_reducible assumption | exact ⟨rfl⟩ | exact ⟨rfl, rfl⟩ | (refine _root_.id ?_; kernel_rfl) | omega) only [evs, ext_mv, nth, put, putT, getT, binInt, binStr, binBool, aUn, outA, resA, mapO, resA1, oneOf, w1, w2, w3, bots, cond_true, cond_false, if_true, if_false, ite_true, ite_false, reduceIte, reduceCtorEq, implies_true, Nat.reduceAdd, Nat.reduceSub, AV.int, AV.bool, AV.str, Nat.reduceBEq, Nat.reduceEqDiff, Nat.reduceMul, Nat.reduceLT, Nat.reduceLeDiff, Int.reduceNeg, BEq.rfl, beq_self_eq_true, tabl, cellsOf, fldA, ldA, stA, entAt, partA, takeN, over, leafOk, Value.oneCell', idxA, nilA, cellsEq, fillA, elemsA, pure1, pure2, reps, chkA, tys, Tryd.results87, KX_draw, KX_drawQ, KX_tail, lastO_one, lastO_more, dropL_one, dropL_more, callP_eq, callM_true, e0, e1, e7, e8, d1, hx', hw, strC, hq]
      simpa using hA.symm
  · have d1 : decide ((i : Int) < (l.length : Int)) = false := by simpa using la
    have he : i = l.length := by omega
    simp (maxSteps := 1000000) +contextual (disch := first | with_reducible assumption | exact ⟨rfl⟩ | exact ⟨rfl, rfl⟩ | (refine _root_.id ?_; kernel_rfl) | omega) only [evs, ext_mv, nth, put, putT, getT, binInt, binStr, binBool, aUn, outA, resA, mapO, resA1, oneOf, w1, w2, w3, bots, cond_true, cond_false, if_true, if_false, ite_true, ite_false, reduceIte, reduceCtorEq, implies_true, Nat.reduceAdd, Nat.reduceSub, AV.int, AV.bool, AV.str, Nat.reduceBEq, Nat.reduceEqDiff, Nat.reduceMul, Nat.reduceLT, Nat.reduceLeDiff, Int.reduceNeg, BEq.rfl, beq_self_eq_true, tabl, cellsOf, fldA, ldA, stA, entAt, partA, takeN, over, leafOk, Value.oneCell', idxA, nilA, cellsEq, fillA, elemsA, pure1, pure2, reps, chkA, tys, Tryd.results87, KX_draw, KX_drawQ, KX_tail, lastO_one, lastO_more, dropL_one, dropL_more, callP_eq, callM_true, e0, e1, e7, e8, d1]
    rw [hA, he, List.drop_length]; rfl
theorem R04_Keyword (s : ByteArray) : cL Tryd.prog 84 [.str s] S tk k = some (.bool (kwF s), S, tk, k) := by
  refine call_pure Tryd.func84 rfl rfl (by decide +kernel) (by decide +kernel) Tryd.ntmps84 rfl rfl _ _ _ rfl ?_; rw [RK_KX]
  have h1 := R04_keywords
  have h2 := fun S tk k => R04_Find S tk k kwL s (by decide)
  simp (maxSteps := 1000000) +contextual (disch := first | with_reducible assumption | exact ⟨rfl⟩ | exact ⟨rfl, rfl⟩ | (refine _root_.id ?_; kernel_rfl) | omega) only [evs, ext_mv, nth, put, putT, getT, binInt, binStr, binBool, aUn, outA, resA, mapO, resA1, oneOf, w1, w2, w3, bots, cond_true, cond_false, if_true, if_false, ite_true, ite_false, reduceIte, reduceCtorEq, implies_true, Nat.reduceAdd, Nat.reduceSub, AV.int, AV.bool, AV.str, Nat.reduceBEq, Nat.reduceEqDiff, Nat.reduceMul, Nat.reduceLT, Nat.reduceLeDiff, Int.reduceNeg, BEq.rfl, beq_self_eq_true, tabl, cellsOf, fldA, ldA, stA, entAt, partA, takeN, over, leafOk, Value.oneCell', idxA, nilA, cellsEq, fillA, elemsA, pure1, pure2, reps, chkA, tys, Tryd.results84, KX_draw, KX_drawQ, KX_tail, lastO_one, lastO_more, dropL_one, dropL_more, callP_eq, callM_true, h1, h2]
  rw [findF_nn]; rfl
theorem R04_small (b : UInt8) : cL Tryd.prog 83 [.prim (.int .u8 b.toNat)] S tk k = some (.bool (smallB b), S, tk, k) := by
  refine call_pure Tryd.func83 rfl rfl (by decide +kernel) (by decide +kernel) Tryd.ntmps83 rfl rfl _ _ _ rfl ?_; rw [RK_KX]
  simp +contextual only [evs, ext_mv, nth, put, putT, getT, binInt, binStr, binBool, aUn, outA, resA, mapO, resA1, oneOf, w1, w2, w3, bots, cond_true, cond_false, if_true, if_false, ite_true, ite_false, reduceIte, reduceCtorEq, implies_true, Nat.reduceAdd, Nat.reduceSub, AV.int, AV.bool, AV.str, Nat.reduceBEq, Nat.reduceEqDiff, Nat.reduceMul, Nat.reduceLT, Nat.reduceLeDiff, Int.reduceNeg, BEq.rfl, beq_self_eq_true, tabl, cellsOf, fldA, ldA, stA, entAt, partA, takeN, over, leafOk, Value.oneCell', idxA, nilA, cellsEq, fillA, elemsA, pure1, pure2, reps, chkA, tys, Tryd.results83]
  rw [show decide ((b.toNat : Int) ≥ (97 : Int)) = decide (97 ≤ b.toNat) from decide_eq_decide.2 (by omega), show decide ((b.toNat : Int) ≤ (122 : Int)) = decide (b.toNat ≤ 122) from decide_eq_decide.2 (by omega)]
  unfold smallB
  cases decide (97 ≤ b.toNat) <;> simp
theorem R04_capital (b : UInt8) : cL Tryd.prog 86 [.prim (.int .u8 b.toNat)] S tk k = some (.bool (capB b), S, tk, k) := by
  refine call_pure Tryd.func86 rfl rfl (by decide +kernel) (by decide +kernel) Tryd.ntmps86 rfl rfl _ _ _ rfl ?_; rw [RK_KX]
  simp +contextual only [evs, ext_mv, nth, put, putT, getT, binInt, binStr, binBool, aUn, outA, resA, mapO, resA1, oneOf, w1, w2, w3, bots, cond_true, cond_false, if_true, if_false, ite_true, ite_false, reduceIte, reduceCtorEq, implies_true, Nat.reduceAdd, Nat.reduceSub, AV.int, AV.bool, AV.str, Nat.reduceBEq, Nat.reduceEqDiff, Nat.reduceMul, Nat.reduceLT, Nat.reduceLeDiff, Int.reduceNeg, BEq.rfl, beq_self_eq_true, tabl, cellsOf, fldA, ldA, stA, entAt, partA, takeN, over, leafOk, Value.oneCell', idxA, nilA, cellsEq, fillA, elemsA, pure1, pure2, reps, chkA, tys, Tryd.results86]
  rw [show decide ((b.toNat : Int) ≥ (65 : Int)) = decide (65 ≤ b.toNat) from decide_eq_decide.2 (by omega), show decide ((b.toNat : Int) ≤ (90 : Int)) = decide (b.toNat ≤ 90) from decide_eq_decide.2 (by omega)]
  unfold capB
  cases decide (65 ≤ b.toNat) <;> simp
theorem R04_digit (b : UInt8) : cL Tryd.prog 85 [.prim (.int .u8 b.toNat)] S tk k = some (.bool (digB b), S, tk, k) := by
  refine call_pure Tryd.func85 rfl rfl (by decide +kernel) (by decide +kernel) Tryd.ntmps85 rfl rfl _ _ _ rfl ?_; rw [RK_KX]
  simp +contextual only [evs, ext_mv, nth, put, putT, getT, binInt, binStr, binBool, aUn, outA, resA, mapO, resA1, oneOf, w1, w2, w3, bots, cond_true, cond_false, if_true, if_false, ite_true, ite_false, reduceIte, reduceCtorEq, implies_true, Nat.reduceAdd, Nat.reduceSub, AV.int, AV.bool, AV.str, Nat.reduceBEq, Nat.reduceEqDiff, Nat.reduceMul, Nat.reduceLT, Nat.reduceLeDiff, Int.reduceNeg, BEq.rfl, beq_self_eq_true, tabl, cellsOf, fldA, ldA, stA, entAt, partA, takeN, over, leafOk, Value.oneCell', idxA, nilA, cellsEq, fillA, elemsA, pure1, pure2, reps, chkA, tys, Tryd.results85]
  rw [show decide ((b.toNat : Int) ≥ (48 : Int)) = decide (48 ≤ b.toNat) from decide_eq_decide.2 (by omega), show decide ((b.toNat : Int) ≤ (57 : Int)) = decide (b.toNat ≤ 57) from decide_eq_decide.2 (by omega)]
  unfold digB
  cases decide (48 ≤ b.toNat) <;> simp
set_option maxHeartbeats 2000000 in
theorem R04_Check (s : ByteArray) : cL Tryd.prog 80 [.str s] S tk k = some (.int (if nameF s = true then 0 else 3), S, tk, k) := by
  refine call_pure Tryd.func80 rfl rfl (by decide +kernel) (by decide +kernel) Tryd.ntmps80 rfl rfl _ _ _ rfl ?_; rw [RK_KX]
  have c2 := fun S tk k => R04_Keyword S tk k s
  by_cases h1 : s.size < 1
  · have d1 : decide ((s.size : Int) < 1) = true := by simp; omega
    simp (maxSteps := 1000000) +contextual (disch := first | with_reducible assumption | exact ⟨rfl⟩ | exact ⟨rfl, rfl⟩ | (refine _root_.id ?_; kernel_rfl) | omega) only [evs, ext_mv, nth, put, putT, getT, binInt, binStr, binBool, aUn, outA, resA, mapO, resA1, oneOf, w1, w2, w3, bots, cond_true, cond_false, if_true, if_false, ite_true, ite_false, reduceIte, reduceCtorEq, implies_true, Nat.reduceAdd, Nat.reduceSub, AV.int, AV.bool, AV.str, Nat.reduceBEq, Nat.reduceEqDiff, Nat.reduceMul, Nat.reduceLT, Nat.reduceLeDiff, Int.reduceNeg, BEq.rfl, beq_self_eq_true, tabl, cellsOf, fldA, ldA, stA, entAt, partA, takeN, over, leafOk, Value.oneCell', idxA, nilA, cellsEq, fillA, elemsA, pure1, pure2, reps, chkA, tys, Tryd.results80, KX_draw, KX_drawQ, KX_tail, lastO_one, lastO_more, dropL_one, dropL_more, callP_eq, callM_true, d1]
    have : nameF s = false := by unfold nameF sizedF; rw [show decide (1 ≤ s.size) = false from decide_eq_false (by omega)]; rfl
    rw [this]; rfl
  by_cases h2 : 24 < s.size
  · have d1 : decide ((s.size : Int) < 1) = false := by simp; omega
    have d2 : decide ((s.size : Int) > 24) = true := by simp; omega
    simp (maxSteps := 1000000) +contextual (disch := first | with_reducible assumption | exact ⟨rfl⟩ | exact ⟨rfl, rfl⟩ | (refine _root_.id ?_; kernel_rfl) | omega) only [evs, ext_mv, nth, put, putT, getT, binInt, binStr, binBool, aUn, outA, resA, mapO, resA1, oneOf, w1, w2, w3, bots, cond_true, cond_false, if_true, if_false, ite_true, ite_false, reduceIte, reduceCtorEq, implies_true, Nat.reduceAdd, Nat.reduceSub, AV.int, AV.bool, AV.str, Nat.reduceBEq, Nat.reduceEqDiff, Nat.reduceMul, Nat.reduceLT, Nat.reduceLeDiff, Int.reduceNeg, BEq.rfl, beq_self_eq_true, tabl, cellsOf, fldA, ldA, stA, entAt, partA, takeN, over, leafOk, Value.oneCell', idxA, nilA, cellsEq, fillA, elemsA, pure1, pure2, reps, chkA, tys, Tryd.results80, KX_draw, KX_drawQ, KX_tail, lastO_one, lastO_more, dropL_one, dropL_more, callP_eq, callM_true, d1, d2]
    have : nameF s = false := by unfold nameF sizedF; rw [show decide (s.size ≤ 24) = false from decide_eq_false (by omega), Bool.and_false]; rfl
    rw [this]; rfl
  have d1 : decide ((s.size : Int) < 1) = false := by simp; omega
  have d2 : decide ((s.size : Int) > 24) = false := by simp; omega
  have hz : sizedF s = true := by unfold sizedF; simp; omega
  obtain ⟨b, hb⟩ := bs_at (show 0 < s.size by omega)
  have hb' := sIx hb
  have c3 := fun S tk k => R04_small S tk k b
  have hN : nameF s = (smallB b && !kwF s && (bsL s).all lowB) := by simp [nameF, hz, head_at hb]
  generalize hRR : nameF s = R at *
  cases hq : smallB b with
  | false =>
    rw [hq] at c3 hN
    simp (maxSteps := 1000000) +contextual (disch := first | with_reducible assumption | exact ⟨rfl⟩ | exact ⟨rfl, rfl⟩ | (refine _root_.id ?_; kernel_rfl) | omega) only [evs, ext_mv, nth, put, putT, getT, binInt, binStr, binBool, aUn, outA, resA, mapO, resA1, oneOf, w1, w2, w3, bots, cond_true, cond_false, if_true, if_false, ite_true, ite_false, reduceIte, reduceCtorEq, implies_true, Nat.reduceAdd, Nat.reduceSub, AV.int, AV.bool, AV.str, Nat.reduceBEq, Nat.reduceEqDiff, Nat.reduceMul, Nat.reduceLT, Nat.reduceLeDiff, Int.reduceNeg, BEq.rfl, beq_self_eq_true, tabl, cellsOf, fldA, ldA, stA, entAt, partA, takeN, over, leafOk, Value.oneCell', idxA, nilA, cellsEq, fillA, elemsA, pure1, pure2, reps, chkA, tys, Tryd.results80, KX_draw, KX_drawQ, KX_tail, lastO_one, lastO_more, dropL_one, dropL_more, callP_eq, callM_true, d1, d2, c2, c3, hb']
    rw [hN]; rfl
  | true =>
    rw [hq] at c3 hN
    cases hk : kwF s with
    | true =>
      rw [hk] at c2 hN
      simp (maxSteps := 1000000) +contextual (disch := first | with_reducible assumption | exact ⟨rfl⟩ | exact ⟨rfl, rfl⟩ | (refine _root_.id ?_; kernel_rfl) | omega) only [evs, ext_mv, nth, put, putT, getT, binInt, binStr, binBool, aUn, outA, resA, mapO, resA1, oneOf, w1, w2, w3, bots, cond_true, cond_false, if_true, if_false, ite_true, ite_false, reduceIte, reduceCtorEq, implies_true, Nat.reduceAdd, Nat.reduceSub, AV.int, AV.bool, AV.str, Nat.reduceBEq, Nat.reduceEqDiff, Nat.reduceMul, Nat.reduceLT, Nat.reduceLeDiff, Int.reduceNeg, BEq.rfl, beq_self_eq_true, tabl, cellsOf, fldA, ldA, stA, entAt, partA, takeN, over, leafOk, Value.oneCell', idxA, nilA, cellsEq, fillA, elemsA, pure1, pure2, reps, chkA, tys, Tryd.results80, KX_draw, KX_drawQ, KX_tail, lastO_one, lastO_more, dropL_one, dropL_more, callP_eq, callM_true, d1, d2, c2, c3, hb']
      rw [hN]; rfl
    | false =>
      rw [hk] at c2 hN
      simp (maxSteps := 1000000) +contextual (disch := first | with_reducible assumption | exact ⟨rfl⟩ | exact ⟨rfl, rfl⟩ | (refine _root_.id ?_; kernel_rfl) | omega) only [evs, ext_mv, nth, put, putT, getT, binInt, binStr, binBool, aUn, outA, resA, mapO, resA1, oneOf, w1, w2, w3, bots, cond_true, cond_false, if_true, if_false, ite_true, ite_false, reduceIte, reduceCtorEq, implies_true, Nat.reduceAdd, Nat.reduceSub, AV.int, AV.bool, AV.str, Nat.reduceBEq, Nat.reduceEqDiff, Nat.reduceMul, Nat.reduceLT, Nat.reduceLeDiff, Int.reduceNeg, BEq.rfl, beq_self_eq_true, tabl, cellsOf, fldA, ldA, stA, entAt, partA, takeN, over, leafOk, Value.oneCell', idxA, nilA, cellsEq, fillA, elemsA, pure1, pure2, reps, chkA, tys, Tryd.results80, KX_draw, KX_drawQ, KX_tail, lastO_one, lastO_more, dropL_one, dropL_more, callP_eq, callM_true, d1, d2, c2, c3, hb']
      have hN1 : R = ((bsL s).drop 0).all lowB := by rw [hN]; rfl
      clear hb' c2 c3 hN hb hRR
      refine loop1 (P := Tryd.prog) (fun x st => st.T.length = 46 ∧ (x ≤ s.size) ∧ (R = ((bsL s).drop x).all lowB) ∧ getT st.T 0 = .str s ∧ getT st.T 23 = .int (s.size : Nat) ∧ getT st.T 24 = .int (x : Nat) ∧ st.S = []) (fun x => s.size - x) (fun x => .int (if R = true then 0 else 3)) (0) ?_ ?_
      case refine_2 => exact ⟨rfl, Nat.zero_le _, hN1, rfl, rfl, rfl, rfl⟩
      rintro i ⟨T, S', tk', n'⟩ ⟨hl, hi, hA, e0, e23, e24, eS⟩ IH
      subst eS
      obtain ⟨g, hg, hT⟩ := tab_of hl
      rw [hg] at e0 e23 e24
      subst hT
      clear hg hl
      by_cases la : i < s.size
      · have d1 : decide ((i : Int) < (s.size : Int)) = true := by simpa using la
        obtain ⟨b, hb⟩ := bs_at la
        have hb' := sIx hb
        have hw := wrap_add (i := i) (m := 0) (by omega)
        rw [nth_drop hb] at hA
        have n1 := fun S tk k => R04_small S tk k b
        have n3 := fun S tk k => R04_digit S tk k b
        have e95 : (((b.toNat : Nat) : Int) != 95) = !decide (b.toNat = 95) := by
          by_cases h : b.toNat = 95 <;> simp [h] <;> omega
        simp only [List.all_cons, lowB] at hA
        cases q1 : smallB b <;> cases q3 : digB b <;> cases q2 : decide (b.toNat = 95) <;> simp only [q1, q2, q3, Bool.or_true, Bool.true_or, Bool.or_false, Bool.false_and, Bool.true_and, Bool.not_true, Bool.not_false] at n1 n3 e95 hA
        case false.false.false =>
          simp (maxSteps := 1000000) +contextual (disch := first | with_reducible assumption | exact ⟨rfl⟩ | exact ⟨rfl, rfl⟩ | (refine _root_.id ?_; kernel_rfl) | omega) only [evs, ext_mv, nth, put, putT, getT, binInt, binStr, binBool, aUn, outA, resA, mapO, resA1, oneOf, w1, w2, w3, bots, cond_true, cond_false, if_true, if_false, ite_true, ite_false, reduceIte, reduceCtorEq, implies_true, Nat.reduceAdd, Nat.reduceSub, AV.int, AV.bool, AV.str, Nat.reduceBEq, Nat.reduceEqDiff, Nat.reduceMul, Nat.reduceLT, Nat.reduceLeDiff, Int.reduceNeg, BEq.rfl, beq_self_eq_true, tabl, cellsOf, fldA, ldA, stA, entAt, partA, takeN, over, leafOk, Value.oneCell', idxA, nilA, cellsEq, fillA, elemsA, pure1, pure2, reps, chkA, tys, Tryd.results80, KX_draw, KX_drawQ, KX_tail, lastO_one, lastO_more, dropL_one, dropL_more, callP_eq, callM_true, e0, e23, e24, d1, hb', hw, n1, n3, e95]
          rw [hA]; rfl
        all_goals
          simp (maxSteps := 1000000) +contextual (disch := first | with_reducible assumption | exact ⟨rfl⟩ | exact ⟨rfl, rfl⟩ | (refine _root_.id ?_; kernel_rfl) | omega) only [evs, ext_mv, nth, put, putT, getT, binInt, binStr, binBool, aUn, outA, resA, mapO, resA1, oneOf, w1, w2, w3, bots, cond_true, cond_false, if_true, if_false, ite_true, ite_false, reduceIte, reduceCtorEq, implies_true, Nat.reduceAdd, Nat.reduceSub, AV.int, AV.bool, AV.str, Nat.reduceBEq, Nat.reduceEqDiff, Nat.reduceMul, Nat.reduceLT, Nat.reduceLeDiff, Int.reduceNeg, BEq.rfl, beq_self_eq_true, tabl, cellsOf, fldA, ldA, stA, entAt, partA, takeN, over, leafOk, Value.oneCell', idxA, nilA, cellsEq, fillA, elemsA, pure1, pure2, reps, chkA, tys, Tryd.results80, KX_draw, KX_drawQ, KX_tail, lastO_one, lastO_more, dropL_one, dropL_more, callP_eq, callM_true, e0, e23, e24, d1, hb', hw, n1, n3, e95]
          exact IH (i + 1) _ (by omega) ⟨rfl, by omega, hA, rfl, rfl, rfl, rfl⟩
      · have d1 : decide ((i : Int) < (s.size : Int)) = false := by simpa using la
        have he : i = s.size := by omega
        simp (maxSteps := 1000000) +contextual (disch := first | with_reducible assumption | exact ⟨rfl⟩ | exact ⟨rfl, rfl⟩ | (refine _root_.id ?_; kernel_rfl) | omega) only [evs, ext_mv, nth, put, putT, getT, binInt, binStr, binBool, aUn, outA, resA, mapO, resA1, oneOf, w1, w2, w3, bots, cond_true, cond_false, if_true, if_false, ite_true, ite_false, reduceIte, reduceCtorEq, implies_true, Nat.reduceAdd, Nat.reduceSub, AV.int, AV.bool, AV.str, Nat.reduceBEq, Nat.reduceEqDiff, Nat.reduceMul, Nat.reduceLT, Nat.reduceLeDiff, Int.reduceNeg, BEq.rfl, beq_self_eq_true, tabl, cellsOf, fldA, ldA, stA, entAt, partA, takeN, over, leafOk, Value.oneCell', idxA, nilA, cellsEq, fillA, elemsA, pure1, pure2, reps, chkA, tys, Tryd.results80, KX_draw, KX_drawQ, KX_tail, lastO_one, lastO_more, dropL_one, dropL_more, callP_eq, callM_true, e0, e23, e24, d1]
        rw [hA, he, ← bsL_len, List.drop_length]; rfl
set_option maxHeartbeats 2000000 in
theorem R04_Title (s : ByteArray) : cL Tryd.prog 81 [.str s] S tk k = some (.int (if titleF s = true then 0 else 3), S, tk, k) := by
  refine call_pure Tryd.func81 rfl rfl (by decide +kernel) (by decide +kernel) Tryd.ntmps81 rfl rfl _ _ _ rfl ?_; rw [RK_KX]
  by_cases h1 : s.size < 1
  · have d1 : decide ((s.size : Int) < 1) = true := by simp; omega
    simp (maxSteps := 1000000) +contextual (disch := first | with_reducible assumption | exact ⟨rfl⟩ | exact ⟨rfl, rfl⟩ | (refine _root_.id ?_; kernel_rfl) | omega) only [evs, ext_mv, nth, put, putT, getT, binInt, binStr, binBool, aUn, outA, resA, mapO, resA1, oneOf, w1, w2, w3, bots, cond_true, cond_false, if_true, if_false, ite_true, ite_false, reduceIte, reduceCtorEq, implies_true, Nat.reduceAdd, Nat.reduceSub, AV.int, AV.bool, AV.str, Nat.reduceBEq, Nat.reduceEqDiff, Nat.reduceMul, Nat.reduceLT, Nat.reduceLeDiff, Int.reduceNeg, BEq.rfl, beq_self_eq_true, tabl, cellsOf, fldA, ldA, stA, entAt, partA, takeN, over, leafOk, Value.oneCell', idxA, nilA, cellsEq, fillA, elemsA, pure1, pure2, reps, chkA, tys, Tryd.results81, KX_draw, KX_drawQ, KX_tail, lastO_one, lastO_more, dropL_one, dropL_more, callP_eq, callM_true, d1]
    have : titleF s = false := by unfold titleF sizedF; rw [show decide (1 ≤ s.size) = false from decide_eq_false (by omega)]; rfl
    rw [this]; rfl
  by_cases h2 : 24 < s.size
  · have d1 : decide ((s.size : Int) < 1) = false := by simp; omega
    have d2 : decide ((s.size : Int) > 24) = true := by simp; omega
    simp (maxSteps := 1000000) +contextual (disch := first | with_reducible assumption | exact ⟨rfl⟩ | exact ⟨rfl, rfl⟩ | (refine _root_.id ?_; kernel_rfl) | omega) only [evs, ext_mv, nth, put, putT, getT, binInt, binStr, binBool, aUn, outA, resA, mapO, resA1, oneOf, w1, w2, w3, bots, cond_true, cond_false, if_true, if_false, ite_true, ite_false, reduceIte, reduceCtorEq, implies_true, Nat.reduceAdd, Nat.reduceSub, AV.int, AV.bool, AV.str, Nat.reduceBEq, Nat.reduceEqDiff, Nat.reduceMul, Nat.reduceLT, Nat.reduceLeDiff, Int.reduceNeg, BEq.rfl, beq_self_eq_true, tabl, cellsOf, fldA, ldA, stA, entAt, partA, takeN, over, leafOk, Value.oneCell', idxA, nilA, cellsEq, fillA, elemsA, pure1, pure2, reps, chkA, tys, Tryd.results81, KX_draw, KX_drawQ, KX_tail, lastO_one, lastO_more, dropL_one, dropL_more, callP_eq, callM_true, d1, d2]
    have : titleF s = false := by unfold titleF sizedF; rw [show decide (s.size ≤ 24) = false from decide_eq_false (by omega), Bool.and_false]; rfl
    rw [this]; rfl
  have d1 : decide ((s.size : Int) < 1) = false := by simp; omega
  have d2 : decide ((s.size : Int) > 24) = false := by simp; omega
  have hz : sizedF s = true := by unfold sizedF; simp; omega
  obtain ⟨b, hb⟩ := bs_at (show 0 < s.size by omega)
  have hb' := sIx hb
  have c3 := fun S tk k => R04_capital S tk k b
  have hN : titleF s = (capB b && (bsL s).all alnB && !(sEq s ⟨#[73, 110, 116]⟩ || sEq s ⟨#[66, 111, 111, 108]⟩ || sEq s ⟨#[67, 101, 108, 108]⟩ || sEq s ⟨#[70, 117, 110]⟩)) := by simp [titleF, hz, head_at hb, bInt, bBool, bCell, bFun]
  generalize hRR : titleF s = R at *
  cases hq : capB b with
  | false =>
    rw [hq] at c3 hN
    simp (maxSteps := 1000000) +contextual (disch := first | with_reducible assumption | exact ⟨rfl⟩ | exact ⟨rfl, rfl⟩ | (refine _root_.id ?_; kernel_rfl) | omega) only [evs, ext_mv, nth, put, putT, getT, binInt, binStr, binBool, aUn, outA, resA, mapO, resA1, oneOf, w1, w2, w3, bots, cond_true, cond_false, if_true, if_false, ite_true, ite_false, reduceIte, reduceCtorEq, implies_true, Nat.reduceAdd, Nat.reduceSub, AV.int, AV.bool, AV.str, Nat.reduceBEq, Nat.reduceEqDiff, Nat.reduceMul, Nat.reduceLT, Nat.reduceLeDiff, Int.reduceNeg, BEq.rfl, beq_self_eq_true, tabl, cellsOf, fldA, ldA, stA, entAt, partA, takeN, over, leafOk, Value.oneCell', idxA, nilA, cellsEq, fillA, elemsA, pure1, pure2, reps, chkA, tys, Tryd.results81, KX_draw, KX_drawQ, KX_tail, lastO_one, lastO_more, dropL_one, dropL_more, callP_eq, callM_true, d1, d2, c3, hb']
    rw [hN]; rfl
  | true =>
    rw [hq] at c3 hN
    cases r1 : sEq s ⟨#[73, 110, 116]⟩ <;> cases r2 : sEq s ⟨#[66, 111, 111, 108]⟩ <;> cases r3 : sEq s ⟨#[67, 101, 108, 108]⟩ <;> cases r4 : sEq s ⟨#[70, 117, 110]⟩ <;> simp only [r1, r2, r3, r4, Bool.or_true, Bool.true_or, Bool.or_false, Bool.not_true, Bool.not_false, Bool.and_true, Bool.and_false, Bool.true_and] at hN
    case false.false.false.false =>
      simp (maxSteps := 1000000) +contextual (disch := first | with_reducible assumption | exact ⟨rfl⟩ | exact ⟨rfl, rfl⟩ | (refine _root_.id ?_; kernel_rfl) | omega) only [evs, ext_mv, nth, put, putT, getT, binInt, binStr, binBool, aUn, outA, resA, mapO, resA1, oneOf, w1, w2, w3, bots, cond_true, cond_false, if_true, if_false, ite_true, ite_false, reduceIte, reduceCtorEq, implies_true, Nat.reduceAdd, Nat.reduceSub, AV.int, AV.bool, AV.str, Nat.reduceBEq, Nat.reduceEqDiff, Nat.reduceMul, Nat.reduceLT, Nat.reduceLeDiff, Int.reduceNeg, BEq.rfl, beq_self_eq_true, tabl, cellsOf, fldA, ldA, stA, entAt, partA, takeN, over, leafOk, Value.oneCell', idxA, nilA, cellsEq, fillA, elemsA, pure1, pure2, reps, chkA, tys, Tryd.results81, KX_draw, KX_drawQ, KX_tail, lastO_one, lastO_more, dropL_one, dropL_more, callP_eq, callM_true, d1, d2, c3, hb', r1, r2, r3, r4]
      have hN1 : R = ((bsL s).drop 0).all alnB := by rw [hN]; rfl
      clear hb' c3 hN hb hRR r1 r2 r3 r4
      refine loop1 (P := Tryd.prog) (fun x st => st.T.length = 59 ∧ (x ≤ s.size) ∧ (R = ((bsL s).drop x).all alnB) ∧ getT st.T 0 = .str s ∧ getT st.T 35 = .int (s.size : Nat) ∧ getT st.T 36 = .int (x : Nat) ∧ st.S = []) (fun x => s.size - x) (fun x => .int (if R = true then 0 else 3)) (0) ?_ ?_
      case refine_2 => exact ⟨rfl, Nat.zero_le _, hN1, rfl, rfl, rfl, rfl⟩
      rintro i ⟨T, S', tk', n'⟩ ⟨hl, hi, hA, e0, e35, e36, eS⟩ IH
      subst eS
      obtain ⟨g, hg, hT⟩ := tab_of hl
      rw [hg] at e0 e35 e36
      subst hT
      clear hg hl
      by_cases la : i < s.size
      · have d1 : decide ((i : Int) < (s.size : Int)) = true := by simpa using la
        obtain ⟨b, hb⟩ := bs_at la
        have hb' := sIx hb
        have hw := wrap_add (i := i) (m := 0) (by omega)
        rw [nth_drop hb] at hA
        have n1 := fun S tk k => R04_small S tk k b
        have n2 := fun S tk k => R04_capital S tk k b
        have n3 := fun S tk k => R04_digit S tk k b
        simp only [List.all_cons, alnB] at hA
        cases q1 : smallB b <;> cases q2 : capB b <;> cases q3 : digB b <;> simp only [q1, q2, q3, Bool.or_true, Bool.true_or, Bool.or_false, Bool.false_and, Bool.true_and] at n1 n2 n3 hA
        case false.false.false =>
          simp (maxSteps := 1000000) +contextual (disch := first | with_reducible assumption | exact ⟨rfl⟩ | exact ⟨rfl, rfl⟩ | (refine _root_.id ?_; kernel_rfl) | omega) only [evs, ext_mv, nth, put, putT, getT, binInt, binStr, binBool, aUn, outA, resA, mapO, resA1, oneOf, w1, w2, w3, bots, cond_true, cond_false, if_true, if_false, ite_true, ite_false, reduceIte, reduceCtorEq, implies_true, Nat.reduceAdd, Nat.reduceSub, AV.int, AV.bool, AV.str, Nat.reduceBEq, Nat.reduceEqDiff, Nat.reduceMul, Nat.reduceLT, Nat.reduceLeDiff, Int.reduceNeg, BEq.rfl, beq_self_eq_true, tabl, cellsOf, fldA, ldA, stA, entAt, partA, takeN, over, leafOk, Value.oneCell', idxA, nilA, cellsEq, fillA, elemsA, pure1, pure2, reps, chkA, tys, Tryd.results81, KX_draw, KX_drawQ, KX_tail, lastO_one, lastO_more, dropL_one, dropL_more, callP_eq, callM_true, e0, e35, e36, d1, hb', hw, n1, n2, n3]
          rw [hA]; rfl
        all_goals
          simp (maxSteps := 1000000) +contextual (disch := first | with_reducible assumption | exact ⟨rfl⟩ | exact ⟨rfl, rfl⟩ | (refine _root_.id ?_; kernel_rfl) | omega) only [evs, ext_mv, nth, put, putT, getT, binInt, binStr, binBool, aUn, outA, resA, mapO, resA1, oneOf, w1, w2, w3, bots, cond_true, cond_false, if_true, if_false, ite_true, ite_false, reduceIte, reduceCtorEq, implies_true, Nat.reduceAdd, Nat.reduceSub, AV.int, AV.bool, AV.str, Nat.reduceBEq, Nat.reduceEqDiff, Nat.reduceMul, Nat.reduceLT, Nat.reduceLeDiff, Int.reduceNeg, BEq.rfl, beq_self_eq_true, tabl, cellsOf, fldA, ldA, stA, entAt, partA, takeN, over, leafOk, Value.oneCell', idxA, nilA, cellsEq, fillA, elemsA, pure1, pure2, reps, chkA, tys, Tryd.results81, KX_draw, KX_drawQ, KX_tail, lastO_one, lastO_more, dropL_one, dropL_more, callP_eq, callM_true, e0, e35, e36, d1, hb', hw, n1, n2, n3]
          exact IH (i + 1) _ (by omega) ⟨rfl, by omega, hA, rfl, rfl, rfl, rfl⟩
      · have d1 : decide ((i : Int) < (s.size : Int)) = false := by simpa using la
        have he : i = s.size := by omega
        simp (maxSteps := 1000000) +contextual (disch := first | with_reducible assumption | exact ⟨rfl⟩ | exact ⟨rfl, rfl⟩ | (refine _root_.id ?_; kernel_rfl) | omega) only [evs, ext_mv, nth, put, putT, getT, binInt, binStr, binBool, aUn, outA, resA, mapO, resA1, oneOf, w1, w2, w3, bots, cond_true, cond_false, if_true, if_false, ite_true, ite_false, reduceIte, reduceCtorEq, implies_true, Nat.reduceAdd, Nat.reduceSub, AV.int, AV.bool, AV.str, Nat.reduceBEq, Nat.reduceEqDiff, Nat.reduceMul, Nat.reduceLT, Nat.reduceLeDiff, Int.reduceNeg, BEq.rfl, beq_self_eq_true, tabl, cellsOf, fldA, ldA, stA, entAt, partA, takeN, over, leafOk, Value.oneCell', idxA, nilA, cellsEq, fillA, elemsA, pure1, pure2, reps, chkA, tys, Tryd.results81, KX_draw, KX_drawQ, KX_tail, lastO_one, lastO_more, dropL_one, dropL_more, callP_eq, callM_true, e0, e35, e36, d1]
        rw [hA, he, ← bsL_len, List.drop_length]; rfl
    all_goals
      simp (maxSteps := 1000000) +contextual (disch := first | with_reducible assumption | exact ⟨rfl⟩ | exact ⟨rfl, rfl⟩ | (refine _root_.id ?_; kernel_rfl) | omega) only [evs, ext_mv, nth, put, putT, getT, binInt, binStr, binBool, aUn, outA, resA, mapO, resA1, oneOf, w1, w2, w3, bots, cond_true, cond_false, if_true, if_false, ite_true, ite_false, reduceIte, reduceCtorEq, implies_true, Nat.reduceAdd, Nat.reduceSub, AV.int, AV.bool, AV.str, Nat.reduceBEq, Nat.reduceEqDiff, Nat.reduceMul, Nat.reduceLT, Nat.reduceLeDiff, Int.reduceNeg, BEq.rfl, beq_self_eq_true, tabl, cellsOf, fldA, ldA, stA, entAt, partA, takeN, over, leafOk, Value.oneCell', idxA, nilA, cellsEq, fillA, elemsA, pure1, pure2, reps, chkA, tys, Tryd.results81, KX_draw, KX_drawQ, KX_tail, lastO_one, lastO_more, dropL_one, dropL_more, callP_eq, callM_true, d1, d2, c3, hb', r1, r2, r3, r4]
      rw [hN]; rfl
theorem word_head {l : List UInt8} {b : UInt8} (h : nth l 0 = some b) : wordF l = (smallB b && l.all lowB) := by
  cases l with
  | nil => simp [nth] at h
  | cons x l =>
    simp only [nth, Option.some.injEq] at h; subst h
    simp only [wordF, List.all_cons, lowB]
    cases smallB x <;> simp
set_option maxHeartbeats 2000000 in
theorem R04_part (s : ByteArray) : cL Tryd.prog 82 [.str s] S tk k = some (.bool (partF s), S, tk, k) := by
  refine call_pure Tryd.func82 rfl rfl (by decide +kernel) (by decide +kernel) Tryd.ntmps82 rfl rfl _ _ _ rfl ?_; rw [RK_KX]
  by_cases h1 : s.size < 1
  · have d1 : decide ((s.size : Int) < 1) = true := by simp; omega
    simp (maxSteps := 1000000) +contextual (disch := first | with_reducible assumption | exact ⟨rfl⟩ | exact ⟨rfl, rfl⟩ | (refine _root_.id ?_; kernel_rfl) | omega) only [evs, ext_mv, nth, put, putT, getT, binInt, binStr, binBool, aUn, outA, resA, mapO, resA1, oneOf, w1, w2, w3, bots, cond_true, cond_false, if_true, if_false, ite_true, ite_false, reduceIte, reduceCtorEq, implies_true, Nat.reduceAdd, Nat.reduceSub, AV.int, AV.bool, AV.str, Nat.reduceBEq, Nat.reduceEqDiff, Nat.reduceMul, Nat.reduceLT, Nat.reduceLeDiff, Int.reduceNeg, BEq.rfl, beq_self_eq_true, tabl, cellsOf, fldA, ldA, stA, entAt, partA, takeN, over, leafOk, Value.oneCell', idxA, nilA, cellsEq, fillA, elemsA, pure1, pure2, reps, chkA, tys, Tryd.results82, KX_draw, KX_drawQ, KX_tail, lastO_one, lastO_more, dropL_one, dropL_more, callP_eq, callM_true, d1]
    unfold partF sizedF; rw [show decide (1 ≤ s.size) = false from decide_eq_false (by omega)]; rfl
  by_cases h2 : 24 < s.size
  · have d1 : decide ((s.size : Int) < 1) = false := by simp; omega
    have d2 : decide ((s.size : Int) > 24) = true := by simp; omega
    simp (maxSteps := 1000000) +contextual (disch := first | with_reducible assumption | exact ⟨rfl⟩ | exact ⟨rfl, rfl⟩ | (refine _root_.id ?_; kernel_rfl) | omega) only [evs, ext_mv, nth, put, putT, getT, binInt, binStr, binBool, aUn, outA, resA, mapO, resA1, oneOf, w1, w2, w3, bots, cond_true, cond_false, if_true, if_false, ite_true, ite_false, reduceIte, reduceCtorEq, implies_true, Nat.reduceAdd, Nat.reduceSub, AV.int, AV.bool, AV.str, Nat.reduceBEq, Nat.reduceEqDiff, Nat.reduceMul, Nat.reduceLT, Nat.reduceLeDiff, Int.reduceNeg, BEq.rfl, beq_self_eq_true, tabl, cellsOf, fldA, ldA, stA, entAt, partA, takeN, over, leafOk, Value.oneCell', idxA, nilA, cellsEq, fillA, elemsA, pure1, pure2, reps, chkA, tys, Tryd.results82, KX_draw, KX_drawQ, KX_tail, lastO_one, lastO_more, dropL_one, dropL_more, callP_eq, callM_true, d1, d2]
    unfold partF sizedF; rw [show decide (s.size ≤ 24) = false from decide_eq_false (by omega), Bool.and_false]; rfl
  have d1 : decide ((s.size : Int) < 1) = false := by simp; omega
  have d2 : decide ((s.size : Int) > 24) = false := by simp; omega
  have hz : sizedF s = true := by unfold sizedF; simp; omega
  obtain ⟨b, hb⟩ := bs_at (show 0 < s.size by omega)
  have hb' := sIx hb
  have c3 := fun S tk k => R04_small S tk k b
  have hN : partF s = ((true && (bsL s).all alnB) || (smallB b && (bsL s).all lowB)) := by simp [partF, hz, word_head hb]
  generalize hRR : partF s = R at *
  generalize smallB b = sb at *
  simp (maxSteps := 1000000) +contextual (disch := first | with_reducible assumption | exact ⟨rfl⟩ | exact ⟨rfl, rfl⟩ | (refine _root_.id ?_; kernel_rfl) | omega) only [evs, ext_mv, nth, put, putT, getT, binInt, binStr, binBool, aUn, outA, resA, mapO, resA1, oneOf, w1, w2, w3, bots, cond_true, cond_false, if_true, if_false, ite_true, ite_false, reduceIte, reduceCtorEq, implies_true, Nat.reduceAdd, Nat.reduceSub, AV.int, AV.bool, AV.str, Nat.reduceBEq, Nat.reduceEqDiff, Nat.reduceMul, Nat.reduceLT, Nat.reduceLeDiff, Int.reduceNeg, BEq.rfl, beq_self_eq_true, tabl, cellsOf, fldA, ldA, stA, entAt, partA, takeN, over, leafOk, Value.oneCell', idxA, nilA, cellsEq, fillA, elemsA, pure1, pure2, reps, chkA, tys, Tryd.results82, KX_draw, KX_drawQ, KX_tail, lastO_one, lastO_more, dropL_one, dropL_more, callP_eq, callM_true, d1, d2, c3, hb']
  clear hb' c3 hb hRR
  refine loop1 (P := Tryd.prog) (fun x st => st.T.length = 65 ∧ (x.1 ≤ s.size) ∧ (R = ((x.2.1 && ((bsL s).drop x.1).all alnB) || (x.2.2 && ((bsL s).drop x.1).all lowB))) ∧ getT st.T 0 = .str s ∧ getT st.T 3 = .bool x.2.1 ∧ getT st.T 4 = .bool x.2.2 ∧ getT st.T 18 = .int (s.size : Nat) ∧ getT st.T 19 = .int (x.1 : Nat) ∧ st.S = []) (fun x => s.size - x.1) (fun x => .bool R) (0, true, sb) ?_ ?_
  case refine_2 => exact ⟨rfl, Nat.zero_le _, hN, rfl, rfl, rfl, rfl, rfl, rfl⟩
  rintro ⟨i, p, v⟩ ⟨T, S', tk', n'⟩ ⟨hl, hi, hA, e0, e3, e4, e18, e19, eS⟩ IH
  simp only at hi hA e0 e3 e4 e18 e19 eS
  subst eS
  obtain ⟨g, hg, hT⟩ := tab_of hl
  rw [hg] at e0 e3 e4 e18 e19
  subst hT
  clear hg hl
  by_cases la : i < s.size
  · have d1 : decide ((i : Int) < (s.size : Int)) = true := by simpa using la
    obtain ⟨b, hb⟩ := bs_at la
    have hb' := sIx hb
    have hw := wrap_add (i := i) (m := 0) (by omega)
    rw [nth_drop hb] at hA
    have n1 := fun S tk k => R04_small S tk k b
    have n2 := fun S tk k => R04_capital S tk k b
    have n3 := fun S tk k => R04_digit S tk k b
    have e95 : (((b.toNat : Nat) : Int) == 95) = decide (b.toNat = 95) := by
      by_cases h : b.toNat = 95 <;> simp [h] <;> omega
    simp only [List.all_cons] at hA
    rw [← Bool.and_assoc, ← Bool.and_assoc] at hA
    have hp' : (p && alnB b) = (if p = true then (if smallB b = true then true else if capB b = true then true else digB b) else false) := by
      unfold alnB; cases p <;> cases smallB b <;> cases capB b <;> cases digB b <;> rfl
    have hv' : (v && lowB b) = (if v = true then (if smallB b = true then true else if digB b = true then true else decide (b.toNat = 95)) else false) := by
      unfold lowB; cases v <;> cases smallB b <;> cases digB b <;> cases decide (b.toNat = 95) <;> rfl
    generalize smallB b = q1 at *
    generalize capB b = q2 at *
    generalize digB b = q3 at *
    generalize decide (b.toNat = 95) = q4 at *
    cases p <;> cases v <;> cases q1 <;> cases q2 <;> cases q3 <;> cases q4
    all_goals
      simp (maxSteps := 1000000) +contextual (disch := first | with_reducible assumption | exact ⟨rfl⟩ | exact ⟨rfl, rfl⟩ | (refine _root_.id ?_; kernel_rfl) | omega) only [evs, ext_mv, nth, put, putT, getT, binInt, binStr, binBool, aUn, outA, resA, mapO, resA1, oneOf, w1, w2, w3, bots, cond_true, cond_false, if_true, if_false, ite_true, ite_false, reduceIte, reduceCtorEq, implies_true, Nat.reduceAdd, Nat.reduceSub, AV.int, AV.bool, AV.str, Nat.reduceBEq, Nat.reduceEqDiff, Nat.reduceMul, Nat.reduceLT, Nat.reduceLeDiff, Int.reduceNeg, BEq.rfl, beq_self_eq_true, tabl, cellsOf, fldA, ldA, stA, entAt, partA, takeN, over, leafOk, Value.oneCell', idxA, nilA, cellsEq, fillA, elemsA, pure1, pure2, reps, chkA, tys, Tryd.results82, KX_draw, KX_drawQ, KX_tail, lastO_one, lastO_more, dropL_one, dropL_more, callP_eq, callM_true, e0, e3, e4, e18, e19, d1, hb', hw, n1, n2, n3, e95]
      simp only [hp', hv', if_true, if_false, Bool.false_eq_true] at hA
      exact IH (i + 1, _, _) _ (by simp only; omega) ⟨rfl, la, hA, rfl, rfl, rfl, rfl, rfl, rfl⟩
  · have d1 : decide ((i : Int) < (s.size : Int)) = false := by simpa using la
    have he : i = s.size := by omega
    have hA2 : R = (p || v) := by rw [hA, he, ← bsL_len, List.drop_length]; simp
    cases p <;> simp (maxSteps := 1000000) +contextual (disch := first | with_reducible assumption | exact ⟨rfl⟩ | exact ⟨rfl, rfl⟩ | (refine _root_.id ?_; kernel_rfl) | omega) only [evs, ext_mv, nth, put, putT, getT, binInt, binStr, binBool, aUn, outA, resA, mapO, resA1, oneOf, w1, w2, w3, bots, cond_true, cond_false, if_true, if_false, ite_true, ite_false, reduceIte, reduceCtorEq, implies_true, Nat.reduceAdd, Nat.reduceSub, AV.int, AV.bool, AV.str, Nat.reduceBEq, Nat.reduceEqDiff, Nat.reduceMul, Nat.reduceLT, Nat.reduceLeDiff, Int.reduceNeg, BEq.rfl, beq_self_eq_true, tabl, cellsOf, fldA, ldA, stA, entAt, partA, takeN, over, leafOk, Value.oneCell', idxA, nilA, cellsEq, fillA, elemsA, pure1, pure2, reps, chkA, tys, Tryd.results82, KX_draw, KX_drawQ, KX_tail, lastO_one, lastO_more, dropL_one, dropL_more, callP_eq, callM_true, e0, e3, e4, e18, e19, d1] <;> rw [hA2] <;> simp
end
end Go.Proofs.YtkghgdkkholieaaDoor
