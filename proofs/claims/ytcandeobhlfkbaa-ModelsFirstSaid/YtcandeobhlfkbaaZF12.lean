/-
  Texts laid together: FVars2, MM6.
-/
import Derived.Test.YtcandeobhlfkbaaZF11
/-
  The variables of rows, walked; which systems are accepted.
-/

namespace Go.Proofs.Ytcandeobhlfkbaa
open Go

theorem names_take {l : List RowT} {i : Nat} {r : RowT} (h : nth l i = some r) : namesOf (l.take (i + 1)) = namesOf (l.take i) ++ r.1.map (·.1) := by
  rw [take_snoc h, names_snoc]
theorem few_take {l : List RowT} (h : fewC l) (i : Nat) : fewC (l.take i) := fun r hr => h r (List.mem_of_mem_take hr)
theorem few_len {l : List RowT} (h : fewC l) (hl : l.length ≤ 64) (i : Nat) : (namesOf (l.take i)).length ≤ 1536 := by
  have h1 := names_len (few_take h i)
  have : (l.take i).length ≤ 64 := by simp; omega
  omega
theorem uni_len (l : List ByteArray) : (uniS l).length ≤ l.length := (uni_facts l).2.2
section
variable (S : List Ent) (tk : List Nat) (k : Nat)
set_option maxRecDepth 100000 in
theorem R13_names (l : List RowT) (hf : fewC l) (hl : l.length ≤ 64) : cL Try.prog 49 [rowsA l] S tk k = some (strsA (varsF l), S, tk, k) := by
  refine call_pure Try.func49 rfl rfl (by decide +kernel) (by decide +kernel) Try.ntmps49 rfl rfl _ _ _ rfl ?_; rw [RK_KX]
  simp (maxSteps := 1000000) +contextual (disch := first | with_reducible assumption | exact ⟨rfl⟩ | exact ⟨rfl, rfl⟩ | (refine _root_.id ?_; kernel_rfl) | omega) only [evs, ext_mv, nth, put, putT, getT, binInt, binStr, binBool, aUn, outA, resA, mapO, resA1, oneOf, w1, w2, w3, bots, cond_true, cond_false, if_true, if_false, ite_true, ite_false, reduceIte, reduceCtorEq, implies_true, Nat.reduceAdd, Nat.reduceSub, AV.int, AV.bool, AV.str, Nat.reduceBEq, Nat.reduceEqDiff, Nat.reduceMul, Nat.reduceLT, Nat.reduceLeDiff, Int.reduceNeg, BEq.rfl, beq_self_eq_true, tabl, cellsOf, fldA, ldA, stA, entAt, partA, takeN, over, leafOk, Value.oneCell', idxA, nilA, cellsEq, fillA, elemsA, pure1, pure2, reps, chkA, tys, Try.results49, KX_draw, KX_drawQ, KX_tail, lastO_one, lastO_more, dropL_one, dropL_more, callP_eq, callM_true, rowsA]
  refine loop1 (P := Try.prog) (fun x st => st.T.length = 30 ∧ (x.1 ≤ l.length) ∧ (x.2.1 = uniS (namesOf (l.take x.1))) ∧ getT st.T 3 = .frz (x.2.1.map strC) x.2.2 ∧ getT st.T 8 = rowsA l ∧ getT st.T 9 = .int l.length ∧ getT st.T 10 = .int (x.1 : Nat) ∧ st.S = []) (fun x => l.length - x.1) (fun x => strsA (varsF l)) (0, [], .nilc) ?_ ?_
  case refine_2 => exact ⟨rfl, Nat.zero_le _, rfl, rfl, rfl, rfl, rfl, rfl⟩
  rintro ⟨i, out, c⟩ ⟨T, S', tk', n'⟩ ⟨hl, hi, ho, e3, e8, e9, e10, eS⟩ IH
  simp only at hi ho e3 e8 e9 e10 eS
  subst eS
  obtain ⟨g, hg, hT⟩ := tab_of hl
  rw [hg] at e3 e8 e9 e10
  subst hT
  clear hg hl
  have OUT := IH
  clear IH
  have hiw := wrap_add (i := i) (m := 0) (by omega)
  by_cases hlt : i < l.length
  · have d1 : decide ((i : Int) < (l.length : Int)) = true := by simpa using hlt
    obtain ⟨r, hx⟩ := nth_some hlt
    have hx' := nth_row hx
    have hrl := hf r (mem_nth hx)
    have hnl := few_len hf hl i
    have hnt := names_take hx
    simp only [rowC, coefsA] at hx'
    simp (maxSteps := 1000000) +contextual (disch := first | with_reducible assumption | exact ⟨rfl⟩ | exact ⟨rfl, rfl⟩ | (refine _root_.id ?_; kernel_rfl) | omega) only [evs, ext_mv, nth, put, putT, getT, binInt, binStr, binBool, aUn, outA, resA, mapO, resA1, oneOf, w1, w2, w3, bots, cond_true, cond_false, if_true, if_false, ite_true, ite_false, reduceIte, reduceCtorEq, implies_true, Nat.reduceAdd, Nat.reduceSub, AV.int, AV.bool, AV.str, Nat.reduceBEq, Nat.reduceEqDiff, Nat.reduceMul, Nat.reduceLT, Nat.reduceLeDiff, Int.reduceNeg, BEq.rfl, beq_self_eq_true, tabl, cellsOf, fldA, ldA, stA, entAt, partA, takeN, over, leafOk, Value.oneCell', idxA, nilA, cellsEq, fillA, elemsA, pure1, pure2, reps, chkA, tys, Try.results49, KX_draw, KX_drawQ, KX_tail, lastO_one, lastO_more, dropL_one, dropL_more, callP_eq, callM_true, e3, e8, e9, e10, d1, rowsA, hx']
    refine loop1 (P := Try.prog) (fun x st => st.T.length = 30 ∧ (x.1 ≤ r.1.length) ∧ (x.2.1 = uniS (namesOf (l.take i) ++ (r.1.take x.1).map (·.1))) ∧ getT st.T 3 = .frz (x.2.1.map strC) x.2.2 ∧ getT st.T 8 = rowsA l ∧ getT st.T 9 = .int l.length ∧ getT st.T 10 = .int (i : Nat) ∧ getT st.T 16 = .frz (r.1.map coefC) .unk ∧ getT st.T 17 = .int r.1.length ∧ getT st.T 18 = .int (x.1 : Nat) ∧ st.S = [⟨n', [.frz (r.1.map coefC) .unk, .int r.2.1, .bool r.2.2]⟩]) (fun x => r.1.length - x.1) (fun x => strsA (varsF l)) (0, out, c) ?_ ?_
    case refine_2 => exact ⟨rfl, Nat.zero_le _, by simp [ho], rfl, rfl, rfl, rfl, rfl, rfl, rfl, rfl⟩
    rintro ⟨j, out2, c2⟩ ⟨T, S', tk', n'⟩ ⟨hl, hj, ho2, e3, e8, e9, e10, e16, e17, e18, eS⟩ IH
    simp only at hj ho2 e3 e8 e9 e10 e16 e17 e18 eS
    subst eS
    obtain ⟨g, hg, hT⟩ := tab_of hl
    rw [hg] at e3 e8 e9 e10 e16 e17 e18
    subst hT
    clear hg hl
    have hjw := wrap_add (i := j) (m := 0) (by omega)
    have hml : (namesOf (l.take i) ++ (r.1.take j).map (·.1)).length ≤ 1600 := by simp; omega
    have hul := uni_len (namesOf (l.take i) ++ (r.1.take j).map (·.1))
    by_cases hlt2 : j < r.1.length
    · have d2 : decide ((j : Int) < (r.1.length : Int)) = true := by simpa using hlt2
      obtain ⟨q, hq⟩ := nth_some hlt2
      have hq' := nth_coef hq
      simp only [coefC] at hq'
      have hU := fun S tk k => R04_Union S tk k out2 q.1 c2 .tight (by rw [ho2]; exact (uni_facts _).1) (by rw [ho2]; omega)
      have hts := take_snoc hq
      simp only [strsA] at hU
      simp (maxSteps := 1000000) +contextual (disch := first | with_reducible assumption | exact ⟨rfl⟩ | exact ⟨rfl, rfl⟩ | (refine _root_.id ?_; kernel_rfl) | omega) only [evs, ext_mv, nth, put, putT, getT, binInt, binStr, binBool, aUn, outA, resA, mapO, resA1, oneOf, w1, w2, w3, bots, cond_true, cond_false, if_true, if_false, ite_true, ite_false, reduceIte, reduceCtorEq, implies_true, Nat.reduceAdd, Nat.reduceSub, AV.int, AV.bool, AV.str, Nat.reduceBEq, Nat.reduceEqDiff, Nat.reduceMul, Nat.reduceLT, Nat.reduceLeDiff, Int.reduceNeg, BEq.rfl, beq_self_eq_true, tabl, cellsOf, fldA, ldA, stA, entAt, partA, takeN, over, leafOk, Value.oneCell', idxA, nilA, cellsEq, fillA, elemsA, pure1, pure2, reps, chkA, tys, Try.results49, KX_draw, KX_drawQ, KX_tail, lastO_one, lastO_more, dropL_one, dropL_more, callP_eq, callM_true, e3, e8, e9, e10, e16, e17, e18, d2, hq', hjw, hU]
      exact IH (j + 1, putS out2 q.1, .unk) _ (by first | omega | (simp only; omega)) ⟨rfl, by first | omega | (dsimp only; omega), by rw [hts, List.map_append, ← List.append_assoc, List.map_cons, List.map_nil, uni_snoc, ho2], (by first | rfl | simp only [getT, List.map_append, List.map_cons, List.map_nil, strC, strsA, and_self]), (by first | rfl | simp only [getT, List.map_append, List.map_cons, List.map_nil, strC, strsA, and_self]), (by first | rfl | simp only [getT, List.map_append, List.map_cons, List.map_nil, strC, strsA, and_self]), (by first | rfl | simp only [getT, List.map_append, List.map_cons, List.map_nil, strC, strsA, and_self]), (by first | rfl | simp only [getT, List.map_append, List.map_cons, List.map_nil, strC, strsA, and_self]), (by first | rfl | simp only [getT, List.map_append, List.map_cons, List.map_nil, strC, strsA, and_self]), (by first | rfl | simp only [getT, List.map_append, List.map_cons, List.map_nil, strC, strsA, and_self]), (by first | rfl | simp only [getT, List.map_append, List.map_cons, List.map_nil, strC, strsA, and_self])⟩
    · have d2 : decide ((j : Int) < (r.1.length : Int)) = false := by simpa using hlt2
      have hje : j = r.1.length := by omega
      subst hje
      rw [List.take_length] at ho2
      simp (maxSteps := 1000000) +contextual (disch := first | with_reducible assumption | exact ⟨rfl⟩ | exact ⟨rfl, rfl⟩ | (refine _root_.id ?_; kernel_rfl) | omega) only [evs, ext_mv, nth, put, putT, getT, binInt, binStr, binBool, aUn, outA, resA, mapO, resA1, oneOf, w1, w2, w3, bots, cond_true, cond_false, if_true, if_false, ite_true, ite_false, reduceIte, reduceCtorEq, implies_true, Nat.reduceAdd, Nat.reduceSub, AV.int, AV.bool, AV.str, Nat.reduceBEq, Nat.reduceEqDiff, Nat.reduceMul, Nat.reduceLT, Nat.reduceLeDiff, Int.reduceNeg, BEq.rfl, beq_self_eq_true, tabl, cellsOf, fldA, ldA, stA, entAt, partA, takeN, over, leafOk, Value.oneCell', idxA, nilA, cellsEq, fillA, elemsA, pure1, pure2, reps, chkA, tys, Try.results49, KX_draw, KX_drawQ, KX_tail, lastO_one, lastO_more, dropL_one, dropL_more, callP_eq, callM_true, e3, e8, e9, e10, e16, e17, e18, d2, hiw]
      exact OUT (i + 1, out2, c2) _ (by first | omega | (simp only; omega)) ⟨rfl, by first | omega | (dsimp only; omega), by rw [hnt, ho2], (by first | rfl | simp only [getT, List.map_append, List.map_cons, List.map_nil, strC, strsA, and_self]), (by first | rfl | simp only [getT, List.map_append, List.map_cons, List.map_nil, strC, strsA, and_self]), (by first | rfl | simp only [getT, List.map_append, List.map_cons, List.map_nil, strC, strsA, and_self]), (by first | rfl | simp only [getT, List.map_append, List.map_cons, List.map_nil, strC, strsA, and_self]), (by first | rfl | simp only [getT, List.map_append, List.map_cons, List.map_nil, strC, strsA, and_self])⟩
  · have d1 : decide ((i : Int) < (l.length : Int)) = false := by simpa using hlt
    have hie : i = l.length := by omega
    subst hie
    rw [List.take_length] at ho
    simp (maxSteps := 1000000) +contextual (disch := first | with_reducible assumption | exact ⟨rfl⟩ | exact ⟨rfl, rfl⟩ | (refine _root_.id ?_; kernel_rfl) | omega) only [evs, ext_mv, nth, put, putT, getT, binInt, binStr, binBool, aUn, outA, resA, mapO, resA1, oneOf, w1, w2, w3, bots, cond_true, cond_false, if_true, if_false, ite_true, ite_false, reduceIte, reduceCtorEq, implies_true, Nat.reduceAdd, Nat.reduceSub, AV.int, AV.bool, AV.str, Nat.reduceBEq, Nat.reduceEqDiff, Nat.reduceMul, Nat.reduceLT, Nat.reduceLeDiff, Int.reduceNeg, BEq.rfl, beq_self_eq_true, tabl, cellsOf, fldA, ldA, stA, entAt, partA, takeN, over, leafOk, Value.oneCell', idxA, nilA, cellsEq, fillA, elemsA, pure1, pure2, reps, chkA, tys, Try.results49, KX_draw, KX_drawQ, KX_tail, lastO_one, lastO_more, dropL_one, dropL_more, callP_eq, callM_true, e3, e8, e9, e10, d1, rowsA]
    rw [ho]; rfl
set_option maxRecDepth 100000 in
theorem simplex_variables (l : List RowT) (hf : fewC l) (hl : l.length ≤ 64) : cL Try.prog 36 [rowsA l] S tk k = some (strsA (varsF l), S, tk, k) := by
  refine call_pure Try.func36 rfl rfl (by decide +kernel) (by decide +kernel) Try.ntmps36 rfl rfl _ _ _ rfl ?_; rw [RK_KX]
  simp (maxSteps := 1000000) +contextual (disch := first | with_reducible assumption | exact ⟨rfl⟩ | exact ⟨rfl, rfl⟩ | (refine _root_.id ?_; kernel_rfl) | omega) only [evs, ext_mv, nth, put, putT, getT, binInt, binStr, binBool, aUn, outA, resA, mapO, resA1, oneOf, w1, w2, w3, bots, cond_true, cond_false, if_true, if_false, ite_true, ite_false, reduceIte, reduceCtorEq, implies_true, Nat.reduceAdd, Nat.reduceSub, AV.int, AV.bool, AV.str, Nat.reduceBEq, Nat.reduceEqDiff, Nat.reduceMul, Nat.reduceLT, Nat.reduceLeDiff, Int.reduceNeg, BEq.rfl, beq_self_eq_true, tabl, cellsOf, fldA, ldA, stA, entAt, partA, takeN, over, leafOk, Value.oneCell', idxA, nilA, cellsEq, fillA, elemsA, pure1, pure2, reps, chkA, tys, Try.results36, KX_draw, KX_drawQ, KX_tail, lastO_one, lastO_more, dropL_one, dropL_more, callP_eq, callM_true, rowsA]
  refine loop1 (P := Try.prog) (fun x st => st.T.length = 31 ∧ (x.1 ≤ l.length) ∧ (x.2.1 = namesOf (l.take x.1)) ∧ (okCap st.tk x.2.2 1 = true) ∧ ((!x.2.1.isEmpty || isNilc x.2.2) = true) ∧ getT st.T 3 = .frz (x.2.1.map strC) x.2.2 ∧ getT st.T 8 = rowsA l ∧ getT st.T 9 = .int l.length ∧ getT st.T 10 = .int (x.1 : Nat) ∧ st.S = []) (fun x => l.length - x.1) (fun x => strsA (varsF l)) (0, [], .nilc) ?_ ?_
  case refine_2 => exact ⟨rfl, Nat.zero_le _, rfl, rfl, rfl, rfl, rfl, rfl, rfl, rfl⟩
  rintro ⟨i, out, c⟩ ⟨T, S', tk', n'⟩ ⟨hl, hi, ho, hok, hc, e3, e8, e9, e10, eS⟩ IH
  simp only at hi ho hok hc e3 e8 e9 e10 eS
  subst eS
  obtain ⟨g, hg, hT⟩ := tab_of hl
  rw [hg] at e3 e8 e9 e10
  subst hT
  clear hg hl
  have OUT := IH
  clear IH
  have hiw := wrap_add (i := i) (m := 0) (by omega)
  have hnl := few_len hf hl i
  by_cases hlt : i < l.length
  · have d1 : decide ((i : Int) < (l.length : Int)) = true := by simpa using hlt
    obtain ⟨r, hx⟩ := nth_some hlt
    have hx' := nth_row hx
    have hrl := hf r (mem_nth hx)
    have hnt := names_take hx
    simp only [rowC, coefsA] at hx'
    simp (maxSteps := 1000000) +contextual (disch := first | with_reducible assumption | exact ⟨rfl⟩ | exact ⟨rfl, rfl⟩ | (refine _root_.id ?_; kernel_rfl) | omega) only [evs, ext_mv, nth, put, putT, getT, binInt, binStr, binBool, aUn, outA, resA, mapO, resA1, oneOf, w1, w2, w3, bots, cond_true, cond_false, if_true, if_false, ite_true, ite_false, reduceIte, reduceCtorEq, implies_true, Nat.reduceAdd, Nat.reduceSub, AV.int, AV.bool, AV.str, Nat.reduceBEq, Nat.reduceEqDiff, Nat.reduceMul, Nat.reduceLT, Nat.reduceLeDiff, Int.reduceNeg, BEq.rfl, beq_self_eq_true, tabl, cellsOf, fldA, ldA, stA, entAt, partA, takeN, over, leafOk, Value.oneCell', idxA, nilA, cellsEq, fillA, elemsA, pure1, pure2, reps, chkA, tys, Try.results36, KX_draw, KX_drawQ, KX_tail, lastO_one, lastO_more, dropL_one, dropL_more, callP_eq, callM_true, e3, e8, e9, e10, d1, rowsA, hx']
    refine loop1 (P := Try.prog) (fun x st => st.T.length = 31 ∧ (x.1 ≤ r.1.length) ∧ (x.2.1 = namesOf (l.take i) ++ (r.1.take x.1).map (·.1)) ∧ (okCap st.tk x.2.2 1 = true) ∧ ((!x.2.1.isEmpty || isNilc x.2.2) = true) ∧ getT st.T 3 = .frz (x.2.1.map strC) x.2.2 ∧ getT st.T 8 = rowsA l ∧ getT st.T 9 = .int l.length ∧ getT st.T 10 = .int (i : Nat) ∧ getT st.T 16 = .frz (r.1.map coefC) .unk ∧ getT st.T 17 = .int r.1.length ∧ getT st.T 18 = .int (x.1 : Nat) ∧ st.S = [⟨n', [.frz (r.1.map coefC) .unk, .int r.2.1, .bool r.2.2]⟩]) (fun x => r.1.length - x.1) (fun x => strsA (varsF l)) (0, out, c) ?_ ?_
    case refine_2 => exact ⟨rfl, Nat.zero_le _, by simp [ho], hok, hc, rfl, rfl, rfl, rfl, rfl, rfl, rfl, rfl⟩
    rintro ⟨j, out2, c2⟩ ⟨T, S', tk', n'⟩ ⟨hl, hj, ho2, hok2, hc2, e3, e8, e9, e10, e16, e17, e18, eS⟩ IH
    simp only at hj ho2 hok2 hc2 e3 e8 e9 e10 e16 e17 e18 eS
    subst eS
    obtain ⟨g, hg, hT⟩ := tab_of hl
    rw [hg] at e3 e8 e9 e10 e16 e17 e18
    subst hT
    clear hg hl
    have hjw := wrap_add (i := j) (m := 0) (by omega)
    have hml : out2.length ≤ 1600 := by rw [ho2]; simp; omega
    have hr := rowsOk_str out2
    have hok' := okCap_new hok2
    have hn1 : (out2.map strC).length + 1 ≤ 1048576 := by simp; omega
    by_cases hlt2 : j < r.1.length
    · have d2 : decide ((j : Int) < (r.1.length : Int)) = true := by simpa using hlt2
      obtain ⟨q, hq⟩ := nth_some hlt2
      have hq' := nth_coef hq
      simp only [coefC] at hq'
      have hts := take_snoc hq
      simp (maxSteps := 1000000) +contextual (disch := first | with_reducible assumption | exact ⟨rfl⟩ | exact ⟨rfl, rfl⟩ | (refine _root_.id ?_; kernel_rfl) | omega) only [evs, ext_mv, nth, put, putT, getT, binInt, binStr, binBool, aUn, outA, resA, mapO, resA1, oneOf, w1, w2, w3, bots, cond_true, cond_false, if_true, if_false, ite_true, ite_false, reduceIte, reduceCtorEq, implies_true, Nat.reduceAdd, Nat.reduceSub, AV.int, AV.bool, AV.str, Nat.reduceBEq, Nat.reduceEqDiff, Nat.reduceMul, Nat.reduceLT, Nat.reduceLeDiff, Int.reduceNeg, BEq.rfl, beq_self_eq_true, tabl, cellsOf, fldA, ldA, stA, entAt, partA, takeN, over, leafOk, Value.oneCell', idxA, nilA, cellsEq, fillA, elemsA, pure1, pure2, reps, chkA, tys, Try.results36, KX_draw, KX_drawQ, KX_tail, lastO_one, lastO_more, dropL_one, dropL_more, callP_eq, callM_true, e3, e8, e9, e10, e16, e17, e18, d2, hq', hjw, hr]
      exact IH (j + 1, out2 ++ [q.1], capNew tk' c2 1) _ (by first | omega | (simp only; omega)) ⟨rfl, by first | omega | (dsimp only; omega), by rw [hts, List.map_append, ← List.append_assoc, ho2]; rfl, hok', by simp, (by first | rfl | simp only [getT, List.map_append, List.map_cons, List.map_nil, strC, strsA, and_self]), (by first | rfl | simp only [getT, List.map_append, List.map_cons, List.map_nil, strC, strsA, and_self]), (by first | rfl | simp only [getT, List.map_append, List.map_cons, List.map_nil, strC, strsA, and_self]), (by first | rfl | simp only [getT, List.map_append, List.map_cons, List.map_nil, strC, strsA, and_self]), (by first | rfl | simp only [getT, List.map_append, List.map_cons, List.map_nil, strC, strsA, and_self]), (by first | rfl | simp only [getT, List.map_append, List.map_cons, List.map_nil, strC, strsA, and_self]), (by first | rfl | simp only [getT, List.map_append, List.map_cons, List.map_nil, strC, strsA, and_self]), (by first | rfl | simp only [getT, List.map_append, List.map_cons, List.map_nil, strC, strsA, and_self])⟩
    · have d2 : decide ((j : Int) < (r.1.length : Int)) = false := by simpa using hlt2
      have hje : j = r.1.length := by omega
      subst hje
      rw [List.take_length] at ho2
      simp (maxSteps := 1000000) +contextual (disch := first | with_reducible assumption | exact ⟨rfl⟩ | exact ⟨rfl, rfl⟩ | (refine _root_.id ?_; kernel_rfl) | omega) only [evs, ext_mv, nth, put, putT, getT, binInt, binStr, binBool, aUn, outA, resA, mapO, resA1, oneOf, w1, w2, w3, bots, cond_true, cond_false, if_true, if_false, ite_true, ite_false, reduceIte, reduceCtorEq, implies_true, Nat.reduceAdd, Nat.reduceSub, AV.int, AV.bool, AV.str, Nat.reduceBEq, Nat.reduceEqDiff, Nat.reduceMul, Nat.reduceLT, Nat.reduceLeDiff, Int.reduceNeg, BEq.rfl, beq_self_eq_true, tabl, cellsOf, fldA, ldA, stA, entAt, partA, takeN, over, leafOk, Value.oneCell', idxA, nilA, cellsEq, fillA, elemsA, pure1, pure2, reps, chkA, tys, Try.results36, KX_draw, KX_drawQ, KX_tail, lastO_one, lastO_more, dropL_one, dropL_more, callP_eq, callM_true, e3, e8, e9, e10, e16, e17, e18, d2, hiw]
      exact OUT (i + 1, out2, c2) _ (by first | omega | (simp only; omega)) ⟨rfl, by first | omega | (dsimp only; omega), by rw [hnt, ho2], hok2, hc2, (by first | rfl | simp only [getT, List.map_append, List.map_cons, List.map_nil, strC, strsA, and_self]), (by first | rfl | simp only [getT, List.map_append, List.map_cons, List.map_nil, strC, strsA, and_self]), (by first | rfl | simp only [getT, List.map_append, List.map_cons, List.map_nil, strC, strsA, and_self]), (by first | rfl | simp only [getT, List.map_append, List.map_cons, List.map_nil, strC, strsA, and_self]), (by first | rfl | simp only [getT, List.map_append, List.map_cons, List.map_nil, strC, strsA, and_self])⟩
  · have d1 : decide ((i : Int) < (l.length : Int)) = false := by simpa using hlt
    have hie : i = l.length := by omega
    subst hie
    rw [List.take_length] at ho hnl
    have hU := fun S tk k => names_Union S tk k out c (by rw [ho]; omega) hc
    simp only [strsA] at hU
    simp (maxSteps := 1000000) +contextual (disch := first | with_reducible assumption | exact ⟨rfl⟩ | exact ⟨rfl, rfl⟩ | (refine _root_.id ?_; kernel_rfl) | omega) only [evs, ext_mv, nth, put, putT, getT, binInt, binStr, binBool, aUn, outA, resA, mapO, resA1, oneOf, w1, w2, w3, bots, cond_true, cond_false, if_true, if_false, ite_true, ite_false, reduceIte, reduceCtorEq, implies_true, Nat.reduceAdd, Nat.reduceSub, AV.int, AV.bool, AV.str, Nat.reduceBEq, Nat.reduceEqDiff, Nat.reduceMul, Nat.reduceLT, Nat.reduceLeDiff, Int.reduceNeg, BEq.rfl, beq_self_eq_true, tabl, cellsOf, fldA, ldA, stA, entAt, partA, takeN, over, leafOk, Value.oneCell', idxA, nilA, cellsEq, fillA, elemsA, pure1, pure2, reps, chkA, tys, Try.results36, KX_draw, KX_drawQ, KX_tail, lastO_one, lastO_more, dropL_one, dropL_more, callP_eq, callM_true, e3, e8, e9, e10, d1, rowsA, hU]
    rw [ho]; rfl
/-- the first error of a form in rows -/
def firstE : List RowT → Int
  | [] => 0
  | r :: l => if checkF r.1 r.2.1 != 0 then checkF r.1 r.2.1 else firstE l
def sysE (l : List RowT) : Int := if 64 < l.length then 7 else if firstE l != 0 then firstE l else if 24 < (varsF l).length then 7 else 0
theorem check_few {cs : List (ByteArray × Int)} {n : Int} (h : checkF cs n = 0) : cs.length ≤ 24 := by
  unfold checkF at h
  split at h
  · cases h
  · omega
theorem first_few : ∀ {l : List RowT}, firstE l = 0 → fewC l
  | [], _ => fun r hr => by simp at hr
  | r :: l, h => by
    unfold firstE at h
    by_cases h0 : checkF r.1 r.2.1 = 0
    · rw [h0] at h
      simp only [bne_self_eq_false, Bool.false_eq_true, if_false] at h
      intro x hx
      rcases List.mem_cons.1 hx with rfl | hx
      · exact check_few h0
      · exact first_few h x hx
    · rw [if_pos (by simpa using h0)] at h; exact absurd h h0
set_option maxRecDepth 100000 in
theorem R13_Check (l : List RowT) : cL Try.prog 48 [rowsA l] S tk k = some (.int (sysE l), S, tk, k) := by
  refine call_pure Try.func48 rfl rfl (by decide +kernel) (by decide +kernel) Try.ntmps48 rfl rfl _ _ _ rfl ?_; rw [RK_KX]
  by_cases h64 : 64 < l.length
  · have d0 : decide ((l.length : Int) > 64) = true := by simp; omega
    simp (maxSteps := 1000000) +contextual (disch := first | with_reducible assumption | exact ⟨rfl⟩ | exact ⟨rfl, rfl⟩ | (refine _root_.id ?_; kernel_rfl) | omega) only [evs, ext_mv, nth, put, putT, getT, binInt, binStr, binBool, aUn, outA, resA, mapO, resA1, oneOf, w1, w2, w3, bots, cond_true, cond_false, if_true, if_false, ite_true, ite_false, reduceIte, reduceCtorEq, implies_true, Nat.reduceAdd, Nat.reduceSub, AV.int, AV.bool, AV.str, Nat.reduceBEq, Nat.reduceEqDiff, Nat.reduceMul, Nat.reduceLT, Nat.reduceLeDiff, Int.reduceNeg, BEq.rfl, beq_self_eq_true, tabl, cellsOf, fldA, ldA, stA, entAt, partA, takeN, over, leafOk, Value.oneCell', idxA, nilA, cellsEq, fillA, elemsA, pure1, pure2, reps, chkA, tys, Try.results48, KX_draw, KX_drawQ, KX_tail, lastO_one, lastO_more, dropL_one, dropL_more, callP_eq, callM_true, rowsA, d0]
    simp [sysE, h64]
  have d0 : decide ((l.length : Int) > 64) = false := by simp; omega
  simp (maxSteps := 1000000) +contextual (disch := first | with_reducible assumption | exact ⟨rfl⟩ | exact ⟨rfl, rfl⟩ | (refine _root_.id ?_; kernel_rfl) | omega) only [evs, ext_mv, nth, put, putT, getT, binInt, binStr, binBool, aUn, outA, resA, mapO, resA1, oneOf, w1, w2, w3, bots, cond_true, cond_false, if_true, if_false, ite_true, ite_false, reduceIte, reduceCtorEq, implies_true, Nat.reduceAdd, Nat.reduceSub, AV.int, AV.bool, AV.str, Nat.reduceBEq, Nat.reduceEqDiff, Nat.reduceMul, Nat.reduceLT, Nat.reduceLeDiff, Int.reduceNeg, BEq.rfl, beq_self_eq_true, tabl, cellsOf, fldA, ldA, stA, entAt, partA, takeN, over, leafOk, Value.oneCell', idxA, nilA, cellsEq, fillA, elemsA, pure1, pure2, reps, chkA, tys, Try.results48, KX_draw, KX_drawQ, KX_tail, lastO_one, lastO_more, dropL_one, dropL_more, callP_eq, callM_true, rowsA, d0]
  refine loop1 (P := Try.prog) (fun x st => st.T.length = 26 ∧ (x ≤ l.length) ∧ (firstE l = firstE (l.drop x)) ∧ getT st.T 0 = rowsA l ∧ getT st.T 9 = rowsA l ∧ getT st.T 10 = .int l.length ∧ getT st.T 11 = .int (x : Nat) ∧ st.S = []) (fun x => l.length - x) (fun x => .int (sysE l)) (0) ?_ ?_
  case refine_2 => exact ⟨rfl, Nat.zero_le _, rfl, rfl, rfl, rfl, rfl, rfl⟩
  rintro i ⟨T, S', tk', n'⟩ ⟨hl, hi, hE, e0, e9, e10, e11, eS⟩ IH
  subst eS
  obtain ⟨g, hg, hT⟩ := tab_of hl
  rw [hg] at e0 e9 e10 e11
  subst hT
  clear hg hl
  have hiw := wrap_add (i := i) (m := 0) (by omega)
  by_cases hlt : i < l.length
  · have d1 : decide ((i : Int) < (l.length : Int)) = true := by simpa using hlt
    obtain ⟨r, hx⟩ := nth_some hlt
    have hx' := nth_row hx
    have hC := fun S tk k => R11_CheckA S tk k r.1 r.2.1
    simp only [rowC, coefsA] at hx'
    simp only [linA, coefsA] at hC
    rw [nth_drop hx, firstE] at hE
    generalize checkF r.1 r.2.1 = e at *
    cases h0 : (e != 0) with
    | true =>
      simp (maxSteps := 1000000) +contextual (disch := first | with_reducible assumption | exact ⟨rfl⟩ | exact ⟨rfl, rfl⟩ | (refine _root_.id ?_; kernel_rfl) | omega) only [evs, ext_mv, nth, put, putT, getT, binInt, binStr, binBool, aUn, outA, resA, mapO, resA1, oneOf, w1, w2, w3, bots, cond_true, cond_false, if_true, if_false, ite_true, ite_false, reduceIte, reduceCtorEq, implies_true, Nat.reduceAdd, Nat.reduceSub, AV.int, AV.bool, AV.str, Nat.reduceBEq, Nat.reduceEqDiff, Nat.reduceMul, Nat.reduceLT, Nat.reduceLeDiff, Int.reduceNeg, BEq.rfl, beq_self_eq_true, tabl, cellsOf, fldA, ldA, stA, entAt, partA, takeN, over, leafOk, Value.oneCell', idxA, nilA, cellsEq, fillA, elemsA, pure1, pure2, reps, chkA, tys, Try.results48, KX_draw, KX_drawQ, KX_tail, lastO_one, lastO_more, dropL_one, dropL_more, callP_eq, callM_true, e0, e9, e10, e11, d1, rowsA, hx', hC, hiw, h0]
      rw [h0, if_pos rfl] at hE
      unfold sysE
      rw [if_neg h64, hE, if_pos h0]
    | false =>
      rw [h0, if_neg (by simp)] at hE
      simp (maxSteps := 1000000) +contextual (disch := first | with_reducible assumption | exact ⟨rfl⟩ | exact ⟨rfl, rfl⟩ | (refine _root_.id ?_; kernel_rfl) | omega) only [evs, ext_mv, nth, put, putT, getT, binInt, binStr, binBool, aUn, outA, resA, mapO, resA1, oneOf, w1, w2, w3, bots, cond_true, cond_false, if_true, if_false, ite_true, ite_false, reduceIte, reduceCtorEq, implies_true, Nat.reduceAdd, Nat.reduceSub, AV.int, AV.bool, AV.str, Nat.reduceBEq, Nat.reduceEqDiff, Nat.reduceMul, Nat.reduceLT, Nat.reduceLeDiff, Int.reduceNeg, BEq.rfl, beq_self_eq_true, tabl, cellsOf, fldA, ldA, stA, entAt, partA, takeN, over, leafOk, Value.oneCell', idxA, nilA, cellsEq, fillA, elemsA, pure1, pure2, reps, chkA, tys, Try.results48, KX_draw, KX_drawQ, KX_tail, lastO_one, lastO_more, dropL_one, dropL_more, callP_eq, callM_true, e0, e9, e10, e11, d1, rowsA, hx', hC, hiw, h0]
      exact IH (i + 1) _ (by first | omega | (simp only; omega)) ⟨rfl, by first | omega | (dsimp only; omega), hE, (by first | rfl | simp only [getT, List.map_append, List.map_cons, List.map_nil, strC, strsA, and_self]), (by first | rfl | simp only [getT, List.map_append, List.map_cons, List.map_nil, strC, strsA, and_self]), (by first | rfl | simp only [getT, List.map_append, List.map_cons, List.map_nil, strC, strsA, and_self]), (by first | rfl | simp only [getT, List.map_append, List.map_cons, List.map_nil, strC, strsA, and_self]), (by first | rfl | simp only [getT, List.map_append, List.map_cons, List.map_nil, strC, strsA, and_self])⟩
  · have d1 : decide ((i : Int) < (l.length : Int)) = false := by simpa using hlt
    have hie : i = l.length := by omega
    subst hie
    rw [List.drop_length] at hE
    have hE0 : firstE l = 0 := hE
    have hV := fun S tk k => R13_names S tk k l (first_few hE0) (by omega)
    have hs : sysE l = if 24 < (varsF l).length then 7 else 0 := by unfold sysE; rw [if_neg h64, hE0]; rfl
    rw [hs]
    simp only [rowsA, strsA] at hV
    by_cases h24 : 24 < (varsF l).length
    · have d2 : decide (((varsF l).length : Int) > 24) = true := by simp; omega
      simp (maxSteps := 1000000) +contextual (disch := first | with_reducible assumption | exact ⟨rfl⟩ | exact ⟨rfl, rfl⟩ | (refine _root_.id ?_; kernel_rfl) | omega) only [evs, ext_mv, nth, put, putT, getT, binInt, binStr, binBool, aUn, outA, resA, mapO, resA1, oneOf, w1, w2, w3, bots, cond_true, cond_false, if_true, if_false, ite_true, ite_false, reduceIte, reduceCtorEq, implies_true, Nat.reduceAdd, Nat.reduceSub, AV.int, AV.bool, AV.str, Nat.reduceBEq, Nat.reduceEqDiff, Nat.reduceMul, Nat.reduceLT, Nat.reduceLeDiff, Int.reduceNeg, BEq.rfl, beq_self_eq_true, tabl, cellsOf, fldA, ldA, stA, entAt, partA, takeN, over, leafOk, Value.oneCell', idxA, nilA, cellsEq, fillA, elemsA, pure1, pure2, reps, chkA, tys, Try.results48, KX_draw, KX_drawQ, KX_tail, lastO_one, lastO_more, dropL_one, dropL_more, callP_eq, callM_true, e0, e9, e10, e11, d1, rowsA, hV, d2]
      rw [if_pos h24]
    · have d2 : decide (((varsF l).length : Int) > 24) = false := by simp; omega
      simp (maxSteps := 1000000) +contextual (disch := first | with_reducible assumption | exact ⟨rfl⟩ | exact ⟨rfl, rfl⟩ | (refine _root_.id ?_; kernel_rfl) | omega) only [evs, ext_mv, nth, put, putT, getT, binInt, binStr, binBool, aUn, outA, resA, mapO, resA1, oneOf, w1, w2, w3, bots, cond_true, cond_false, if_true, if_false, ite_true, ite_false, reduceIte, reduceCtorEq, implies_true, Nat.reduceAdd, Nat.reduceSub, AV.int, AV.bool, AV.str, Nat.reduceBEq, Nat.reduceEqDiff, Nat.reduceMul, Nat.reduceLT, Nat.reduceLeDiff, Int.reduceNeg, BEq.rfl, beq_self_eq_true, tabl, cellsOf, fldA, ldA, stA, entAt, partA, takeN, over, leafOk, Value.oneCell', idxA, nilA, cellsEq, fillA, elemsA, pure1, pure2, reps, chkA, tys, Try.results48, KX_draw, KX_drawQ, KX_tail, lastO_one, lastO_more, dropL_one, dropL_more, callP_eq, callM_true, e0, e9, e10, e11, d1, rowsA, hV, d2]
      rw [if_neg h24]
set_option maxRecDepth 100000 in
theorem simplex_Check (l : List RowT) : cL Try.prog 19 [rowsA l] S tk k = some (.int (sysE l), S, tk, k) := by
  refine call_pure Try.func19 rfl rfl (by decide +kernel) (by decide +kernel) Try.ntmps19 rfl rfl _ _ _ rfl ?_; rw [RK_KX]
  by_cases h64 : 64 < l.length
  · have d0 : decide ((l.length : Int) > 64) = true := by simp; omega
    simp (maxSteps := 1000000) +contextual (disch := first | with_reducible assumption | exact ⟨rfl⟩ | exact ⟨rfl, rfl⟩ | (refine _root_.id ?_; kernel_rfl) | omega) only [evs, ext_mv, nth, put, putT, getT, binInt, binStr, binBool, aUn, outA, resA, mapO, resA1, oneOf, w1, w2, w3, bots, cond_true, cond_false, if_true, if_false, ite_true, ite_false, reduceIte, reduceCtorEq, implies_true, Nat.reduceAdd, Nat.reduceSub, AV.int, AV.bool, AV.str, Nat.reduceBEq, Nat.reduceEqDiff, Nat.reduceMul, Nat.reduceLT, Nat.reduceLeDiff, Int.reduceNeg, BEq.rfl, beq_self_eq_true, tabl, cellsOf, fldA, ldA, stA, entAt, partA, takeN, over, leafOk, Value.oneCell', idxA, nilA, cellsEq, fillA, elemsA, pure1, pure2, reps, chkA, tys, Try.results19, KX_draw, KX_drawQ, KX_tail, lastO_one, lastO_more, dropL_one, dropL_more, callP_eq, callM_true, rowsA, d0]
    simp [sysE, h64]
  have d0 : decide ((l.length : Int) > 64) = false := by simp; omega
  simp (maxSteps := 1000000) +contextual (disch := first | with_reducible assumption | exact ⟨rfl⟩ | exact ⟨rfl, rfl⟩ | (refine _root_.id ?_; kernel_rfl) | omega) only [evs, ext_mv, nth, put, putT, getT, binInt, binStr, binBool, aUn, outA, resA, mapO, resA1, oneOf, w1, w2, w3, bots, cond_true, cond_false, if_true, if_false, ite_true, ite_false, reduceIte, reduceCtorEq, implies_true, Nat.reduceAdd, Nat.reduceSub, AV.int, AV.bool, AV.str, Nat.reduceBEq, Nat.reduceEqDiff, Nat.reduceMul, Nat.reduceLT, Nat.reduceLeDiff, Int.reduceNeg, BEq.rfl, beq_self_eq_true, tabl, cellsOf, fldA, ldA, stA, entAt, partA, takeN, over, leafOk, Value.oneCell', idxA, nilA, cellsEq, fillA, elemsA, pure1, pure2, reps, chkA, tys, Try.results19, KX_draw, KX_drawQ, KX_tail, lastO_one, lastO_more, dropL_one, dropL_more, callP_eq, callM_true, rowsA, d0]
  refine loop1 (P := Try.prog) (fun x st => st.T.length = 26 ∧ (x ≤ l.length) ∧ (firstE l = firstE (l.drop x)) ∧ getT st.T 0 = rowsA l ∧ getT st.T 9 = rowsA l ∧ getT st.T 10 = .int l.length ∧ getT st.T 11 = .int (x : Nat) ∧ st.S = []) (fun x => l.length - x) (fun x => .int (sysE l)) (0) ?_ ?_
  case refine_2 => exact ⟨rfl, Nat.zero_le _, rfl, rfl, rfl, rfl, rfl, rfl⟩
  rintro i ⟨T, S', tk', n'⟩ ⟨hl, hi, hE, e0, e9, e10, e11, eS⟩ IH
  subst eS
  obtain ⟨g, hg, hT⟩ := tab_of hl
  rw [hg] at e0 e9 e10 e11
  subst hT
  clear hg hl
  have hiw := wrap_add (i := i) (m := 0) (by omega)
  by_cases hlt : i < l.length
  · have d1 : decide ((i : Int) < (l.length : Int)) = true := by simpa using hlt
    obtain ⟨r, hx⟩ := nth_some hlt
    have hx' := nth_row hx
    have hC := fun S tk k => linear_CheckA S tk k r.1 r.2.1
    simp only [rowC, coefsA] at hx'
    simp only [linA, coefsA] at hC
    rw [nth_drop hx, firstE] at hE
    generalize checkF r.1 r.2.1 = e at *
    cases h0 : (e != 0) with
    | true =>
      simp (maxSteps := 1000000) +contextual (disch := first | with_reducible assumption | exact ⟨rfl⟩ | exact ⟨rfl, rfl⟩ | (refine _root_.id ?_; kernel_rfl) | omega) only [evs, ext_mv, nth, put, putT, getT, binInt, binStr, binBool, aUn, outA, resA, mapO, resA1, oneOf, w1, w2, w3, bots, cond_true, cond_false, if_true, if_false, ite_true, ite_false, reduceIte, reduceCtorEq, implies_true, Nat.reduceAdd, Nat.reduceSub, AV.int, AV.bool, AV.str, Nat.reduceBEq, Nat.reduceEqDiff, Nat.reduceMul, Nat.reduceLT, Nat.reduceLeDiff, Int.reduceNeg, BEq.rfl, beq_self_eq_true, tabl, cellsOf, fldA, ldA, stA, entAt, partA, takeN, over, leafOk, Value.oneCell', idxA, nilA, cellsEq, fillA, elemsA, pure1, pure2, reps, chkA, tys, Try.results19, KX_draw, KX_drawQ, KX_tail, lastO_one, lastO_more, dropL_one, dropL_more, callP_eq, callM_true, e0, e9, e10, e11, d1, rowsA, hx', hC, hiw, h0]
      rw [h0, if_pos rfl] at hE
      unfold sysE
      rw [if_neg h64, hE, if_pos h0]
    | false =>
      rw [h0, if_neg (by simp)] at hE
      simp (maxSteps := 1000000) +contextual (disch := first | with_reducible assumption | exact ⟨rfl⟩ | exact ⟨rfl, rfl⟩ | (refine _root_.id ?_; kernel_rfl) | omega) only [evs, ext_mv, nth, put, putT, getT, binInt, binStr, binBool, aUn, outA, resA, mapO, resA1, oneOf, w1, w2, w3, bots, cond_true, cond_false, if_true, if_false, ite_true, ite_false, reduceIte, reduceCtorEq, implies_true, Nat.reduceAdd, Nat.reduceSub, AV.int, AV.bool, AV.str, Nat.reduceBEq, Nat.reduceEqDiff, Nat.reduceMul, Nat.reduceLT, Nat.reduceLeDiff, Int.reduceNeg, BEq.rfl, beq_self_eq_true, tabl, cellsOf, fldA, ldA, stA, entAt, partA, takeN, over, leafOk, Value.oneCell', idxA, nilA, cellsEq, fillA, elemsA, pure1, pure2, reps, chkA, tys, Try.results19, KX_draw, KX_drawQ, KX_tail, lastO_one, lastO_more, dropL_one, dropL_more, callP_eq, callM_true, e0, e9, e10, e11, d1, rowsA, hx', hC, hiw, h0]
      exact IH (i + 1) _ (by first | omega | (simp only; omega)) ⟨rfl, by first | omega | (dsimp only; omega), hE, (by first | rfl | simp only [getT, List.map_append, List.map_cons, List.map_nil, strC, strsA, and_self]), (by first | rfl | simp only [getT, List.map_append, List.map_cons, List.map_nil, strC, strsA, and_self]), (by first | rfl | simp only [getT, List.map_append, List.map_cons, List.map_nil, strC, strsA, and_self]), (by first | rfl | simp only [getT, List.map_append, List.map_cons, List.map_nil, strC, strsA, and_self]), (by first | rfl | simp only [getT, List.map_append, List.map_cons, List.map_nil, strC, strsA, and_self])⟩
  · have d1 : decide ((i : Int) < (l.length : Int)) = false := by simpa using hlt
    have hie : i = l.length := by omega
    subst hie
    rw [List.drop_length] at hE
    have hE0 : firstE l = 0 := hE
    have hV := fun S tk k => simplex_variables S tk k l (first_few hE0) (by omega)
    have hs : sysE l = if 24 < (varsF l).length then 7 else 0 := by unfold sysE; rw [if_neg h64, hE0]; rfl
    rw [hs]
    simp only [rowsA, strsA] at hV
    by_cases h24 : 24 < (varsF l).length
    · have d2 : decide (((varsF l).length : Int) > 24) = true := by simp; omega
      simp (maxSteps := 1000000) +contextual (disch := first | with_reducible assumption | exact ⟨rfl⟩ | exact ⟨rfl, rfl⟩ | (refine _root_.id ?_; kernel_rfl) | omega) only [evs, ext_mv, nth, put, putT, getT, binInt, binStr, binBool, aUn, outA, resA, mapO, resA1, oneOf, w1, w2, w3, bots, cond_true, cond_false, if_true, if_false, ite_true, ite_false, reduceIte, reduceCtorEq, implies_true, Nat.reduceAdd, Nat.reduceSub, AV.int, AV.bool, AV.str, Nat.reduceBEq, Nat.reduceEqDiff, Nat.reduceMul, Nat.reduceLT, Nat.reduceLeDiff, Int.reduceNeg, BEq.rfl, beq_self_eq_true, tabl, cellsOf, fldA, ldA, stA, entAt, partA, takeN, over, leafOk, Value.oneCell', idxA, nilA, cellsEq, fillA, elemsA, pure1, pure2, reps, chkA, tys, Try.results19, KX_draw, KX_drawQ, KX_tail, lastO_one, lastO_more, dropL_one, dropL_more, callP_eq, callM_true, e0, e9, e10, e11, d1, rowsA, hV, d2]
      rw [if_pos h24]
    · have d2 : decide (((varsF l).length : Int) > 24) = false := by simp; omega
      simp (maxSteps := 1000000) +contextual (disch := first | with_reducible assumption | exact ⟨rfl⟩ | exact ⟨rfl, rfl⟩ | (refine _root_.id ?_; kernel_rfl) | omega) only [evs, ext_mv, nth, put, putT, getT, binInt, binStr, binBool, aUn, outA, resA, mapO, resA1, oneOf, w1, w2, w3, bots, cond_true, cond_false, if_true, if_false, ite_true, ite_false, reduceIte, reduceCtorEq, implies_true, Nat.reduceAdd, Nat.reduceSub, AV.int, AV.bool, AV.str, Nat.reduceBEq, Nat.reduceEqDiff, Nat.reduceMul, Nat.reduceLT, Nat.reduceLeDiff, Int.reduceNeg, BEq.rfl, beq_self_eq_true, tabl, cellsOf, fldA, ldA, stA, entAt, partA, takeN, over, leafOk, Value.oneCell', idxA, nilA, cellsEq, fillA, elemsA, pure1, pure2, reps, chkA, tys, Try.results19, KX_draw, KX_drawQ, KX_tail, lastO_one, lastO_more, dropL_one, dropL_more, callP_eq, callM_true, e0, e9, e10, e11, d1, rowsA, hV, d2]
      rw [if_neg h24]
theorem sys_few {l : List RowT} (h : sysE l = 0) : fewC l ∧ l.length ≤ 64 ∧ (varsF l).length ≤ 24 ∧ firstE l = 0 := by
  unfold sysE at h
  split at h
  · cases h
  · split at h
    · rename_i h1 h2; rw [h] at h2; cases h2
    · rename_i h1 h2
      split at h
      · cases h
      · have h0 : firstE l = 0 := by simpa using h2
        exact ⟨first_few h0, by omega, by omega, h0⟩
/-- the variables of a right system; none of others -/
def varsOf (l : List RowT) : List ByteArray := if sysE l = 0 then varsF l else []
theorem R13_Vars (l : List RowT) : cL Try.prog 34 [rowsA l] S tk k = some (strsA (varsOf l), S, tk, k) := by
  have hC := fun S tk k => R13_Check S tk k l
  by_cases h : sysE l = 0
  · obtain ⟨h1, h2, -, -⟩ := sys_few h
    have hV := fun S tk k => R13_names S tk k l h1 h2
    rw [h] at hC
    have d0 : ((0 : Int) != 0) = false := rfl
    simp only [rowsA, strsA] at hC hV
    have hv : varsOf l = varsF l := if_pos h
    rw [hv]
    refine call_pure Try.func34 rfl rfl (by decide +kernel) (by decide +kernel) Try.ntmps34 rfl rfl _ _ _ rfl ?_; rw [RK_KX]
    simp (maxSteps := 1000000) +contextual (disch := first | with_reducible assumption | exact ⟨rfl⟩ | exact ⟨rfl, rfl⟩ | (refine _root_.id ?_; kernel_rfl) | omega) only [evs, ext_mv, nth, put, putT, getT, binInt, binStr, binBool, aUn, outA, resA, mapO, resA1, oneOf, w1, w2, w3, bots, cond_true, cond_false, if_true, if_false, ite_true, ite_false, reduceIte, reduceCtorEq, implies_true, Nat.reduceAdd, Nat.reduceSub, AV.int, AV.bool, AV.str, Nat.reduceBEq, Nat.reduceEqDiff, Nat.reduceMul, Nat.reduceLT, Nat.reduceLeDiff, Int.reduceNeg, BEq.rfl, beq_self_eq_true, tabl, cellsOf, fldA, ldA, stA, entAt, partA, takeN, over, leafOk, Value.oneCell', idxA, nilA, cellsEq, fillA, elemsA, pure1, pure2, reps, chkA, tys, Try.results34, KX_draw, KX_drawQ, KX_tail, lastO_one, lastO_more, dropL_one, dropL_more, callP_eq, callM_true, rowsA, strsA, hC, hV, d0]
  · have hv : varsOf l = [] := if_neg h
    rw [hv]
    have d0 : (sysE l != 0) = true := by simpa using h
    simp only [rowsA] at hC
    refine call_pure Try.func34 rfl rfl (by decide +kernel) (by decide +kernel) Try.ntmps34 rfl rfl _ _ _ rfl ?_; rw [RK_KX]
    simp (maxSteps := 1000000) +contextual (disch := first | with_reducible assumption | exact ⟨rfl⟩ | exact ⟨rfl, rfl⟩ | (refine _root_.id ?_; kernel_rfl) | omega) only [evs, ext_mv, nth, put, putT, getT, binInt, binStr, binBool, aUn, outA, resA, mapO, resA1, oneOf, w1, w2, w3, bots, cond_true, cond_false, if_true, if_false, ite_true, ite_false, reduceIte, reduceCtorEq, implies_true, Nat.reduceAdd, Nat.reduceSub, AV.int, AV.bool, AV.str, Nat.reduceBEq, Nat.reduceEqDiff, Nat.reduceMul, Nat.reduceLT, Nat.reduceLeDiff, Int.reduceNeg, BEq.rfl, beq_self_eq_true, tabl, cellsOf, fldA, ldA, stA, entAt, partA, takeN, over, leafOk, Value.oneCell', idxA, nilA, cellsEq, fillA, elemsA, pure1, pure2, reps, chkA, tys, Try.results34, KX_draw, KX_drawQ, KX_tail, lastO_one, lastO_more, dropL_one, dropL_more, callP_eq, callM_true, rowsA, strsA, hC, d0]
theorem simplex_Vars (l : List RowT) : cL Try.prog 18 [rowsA l] S tk k = some (strsA (varsOf l), S, tk, k) := by
  have hC := fun S tk k => simplex_Check S tk k l
  by_cases h : sysE l = 0
  · obtain ⟨h1, h2, -, -⟩ := sys_few h
    have hV := fun S tk k => simplex_variables S tk k l h1 h2
    rw [h] at hC
    have d0 : ((0 : Int) != 0) = false := rfl
    simp only [rowsA, strsA] at hC hV
    have hv : varsOf l = varsF l := if_pos h
    rw [hv]
    refine call_pure Try.func18 rfl rfl (by decide +kernel) (by decide +kernel) Try.ntmps18 rfl rfl _ _ _ rfl ?_; rw [RK_KX]
    simp (maxSteps := 1000000) +contextual (disch := first | with_reducible assumption | exact ⟨rfl⟩ | exact ⟨rfl, rfl⟩ | (refine _root_.id ?_; kernel_rfl) | omega) only [evs, ext_mv, nth, put, putT, getT, binInt, binStr, binBool, aUn, outA, resA, mapO, resA1, oneOf, w1, w2, w3, bots, cond_true, cond_false, if_true, if_false, ite_true, ite_false, reduceIte, reduceCtorEq, implies_true, Nat.reduceAdd, Nat.reduceSub, AV.int, AV.bool, AV.str, Nat.reduceBEq, Nat.reduceEqDiff, Nat.reduceMul, Nat.reduceLT, Nat.reduceLeDiff, Int.reduceNeg, BEq.rfl, beq_self_eq_true, tabl, cellsOf, fldA, ldA, stA, entAt, partA, takeN, over, leafOk, Value.oneCell', idxA, nilA, cellsEq, fillA, elemsA, pure1, pure2, reps, chkA, tys, Try.results18, KX_draw, KX_drawQ, KX_tail, lastO_one, lastO_more, dropL_one, dropL_more, callP_eq, callM_true, rowsA, strsA, hC, hV, d0]
  · have hv : varsOf l = [] := if_neg h
    rw [hv]
    have d0 : (sysE l != 0) = true := by simpa using h
    simp only [rowsA] at hC
    refine call_pure Try.func18 rfl rfl (by decide +kernel) (by decide +kernel) Try.ntmps18 rfl rfl _ _ _ rfl ?_; rw [RK_KX]
    simp (maxSteps := 1000000) +contextual (disch := first | with_reducible assumption | exact ⟨rfl⟩ | exact ⟨rfl, rfl⟩ | (refine _root_.id ?_; kernel_rfl) | omega) only [evs, ext_mv, nth, put, putT, getT, binInt, binStr, binBool, aUn, outA, resA, mapO, resA1, oneOf, w1, w2, w3, bots, cond_true, cond_false, if_true, if_false, ite_true, ite_false, reduceIte, reduceCtorEq, implies_true, Nat.reduceAdd, Nat.reduceSub, AV.int, AV.bool, AV.str, Nat.reduceBEq, Nat.reduceEqDiff, Nat.reduceMul, Nat.reduceLT, Nat.reduceLeDiff, Int.reduceNeg, BEq.rfl, beq_self_eq_true, tabl, cellsOf, fldA, ldA, stA, entAt, partA, takeN, over, leafOk, Value.oneCell', idxA, nilA, cellsEq, fillA, elemsA, pure1, pure2, reps, chkA, tys, Try.results18, KX_draw, KX_drawQ, KX_tail, lastO_one, lastO_more, dropL_one, dropL_more, callP_eq, callM_true, rowsA, strsA, hC, d0]
end
end Go.Proofs.Ytcandeobhlfkbaa
/-
  When a row is hopeless; the law's own small functions.
-/


namespace Go.Proofs.Ytcandeobhlfkbaa
open Go
/-- what the known coordinates add to the two ends -/
def knF (c : ByteArray × Int) : Pt → Int × Int × Bool → Int × Int × Bool
  | [], s => s
  | x :: r, s => knF c r (if sEq x.1 c.1 = true then (s.1 + c.2 * x.2, s.2.1 + c.2 * x.2, true) else s)
def stepC (pt : Pt) (rad : Int) (s : Int × Int) (c : ByteArray × Int) : Int × Int :=
  if (knF c pt (s.1, s.2, false)).2.2 = true then ((knF c pt (s.1, s.2, false)).1, (knF c pt (s.1, s.2, false)).2.1)
  else ((knF c pt (s.1, s.2, false)).1 - (c.2.natAbs : Int) * rad, (knF c pt (s.1, s.2, false)).2.1 + (c.2.natAbs : Int) * rad)
def lohi (pt : Pt) (rad : Int) : Int × Int → List (ByteArray × Int) → Int × Int
  | s, [] => s
  | s, c :: r => lohi pt rad (stepC pt rad s c) r
def hopF (cs : List (ByteArray × Int)) (n : Int) (eq : Bool) (pt : Pt) (rad : Int) : Bool :=
  decide (0 < (lohi pt rad (n, n) cs).1) || (eq && decide ((lohi pt rad (n, n) cs).2 < 0))
theorem mul_le_of {a b : Int} {A B : Nat} (ha : a.natAbs ≤ A) (hb : b.natAbs ≤ B) : (a * b).natAbs ≤ A * B := by
  rw [Int.natAbs_mul]; exact Nat.mul_le_mul ha hb
theorem knF_bound {c : ByteArray × Int} (hc : c.2.natAbs ≤ 1000000000000) : ∀ (pt : Pt) (s : Int × Int × Bool) (B : Nat), (∀ x ∈ pt, x.2.natAbs ≤ 8) → s.1.natAbs ≤ B → s.2.1.natAbs ≤ B → (knF c pt s).1.natAbs ≤ B + 8000000000000 * pt.length ∧ (knF c pt s).2.1.natAbs ≤ B + 8000000000000 * pt.length
  | [], s, B, _, h1, h2 => by simpa [knF] using ⟨h1, h2⟩
  | x :: r, s, B, hx, h1, h2 => by
    rw [knF]
    have hm := mul_le_of hc (hx x (by simp))
    have hlen : (x :: r).length = r.length + 1 := rfl
    rw [hlen]
    split
    · have := knF_bound hc r (s.1 + c.2 * x.2, s.2.1 + c.2 * x.2, true) (B + 8000000000000) (fun y hy => hx y (by simp [hy])) (by simp only; omega) (by simp only; omega)
      omega
    · have := knF_bound hc r s B (fun y hy => hx y (by simp [hy])) h1 h2
      omega
section
variable (S : List Ent) (tk : List Nat) (k : Nat)
theorem kn_take {c : ByteArray × Int} {x : ByteArray × Int} : ∀ {pt : Pt} {j : Nat} {s : Int × Int × Bool}, nth pt j = some x → knF c (pt.take (j + 1)) s = if sEq x.1 c.1 = true then ((knF c (pt.take j) s).1 + c.2 * x.2, (knF c (pt.take j) s).2.1 + c.2 * x.2, true) else knF c (pt.take j) s
  | y :: r, 0, s, h => by simp only [nth, Option.some.injEq] at h; subst h; simp [knF]
  | y :: r, j + 1, s, h => by
    simp only [nth] at h
    rw [List.take_succ_cons, knF, kn_take h, List.take_succ_cons, knF]
  | [], _, _, h => by simp [nth] at h
set_option maxRecDepth 100000 in
theorem models_hopeless (cs : List (ByteArray × Int)) (n : Int) (eq : Bool) (pt : Pt) (rad : Int) (hcl : cs.length ≤ 24) (hc : ∀ c ∈ cs, c.2.natAbs ≤ 1000000000000) (hn : n.natAbs ≤ 1000000000000) (hpl : pt.length ≤ 8) (hp : ∀ x ∈ pt, x.2.natAbs ≤ 8) (hr : 0 ≤ rad ∧ rad ≤ 8) :
    cL Try.prog 52 [rowA cs n eq, coefsA pt, .int rad] S tk k = some (.bool (hopF cs n eq pt rad), S, tk, k) := by
  refine call_pure Try.func52 rfl rfl (by decide +kernel) (by decide +kernel) Try.ntmps52 rfl rfl _ _ _ rfl ?_; rw [RK_KX]
  simp (maxSteps := 1000000) +contextual (disch := first | with_reducible assumption | exact ⟨rfl⟩ | exact ⟨rfl, rfl⟩ | (refine _root_.id ?_; kernel_rfl) | omega) only [evs, ext_mv, nth, put, putT, getT, binInt, binStr, binBool, aUn, outA, resA, mapO, resA1, oneOf, w1, w2, w3, bots, cond_true, cond_false, if_true, if_false, ite_true, ite_false, reduceIte, reduceCtorEq, implies_true, Nat.reduceAdd, Nat.reduceSub, AV.int, AV.bool, AV.str, Nat.reduceBEq, Nat.reduceEqDiff, Nat.reduceMul, Nat.reduceLT, Nat.reduceLeDiff, Int.reduceNeg, BEq.rfl, beq_self_eq_true, tabl, cellsOf, fldA, ldA, stA, entAt, partA, takeN, over, leafOk, Value.oneCell', idxA, nilA, cellsEq, fillA, elemsA, pure1, pure2, reps, chkA, tys, Try.results52, KX_draw, KX_drawQ, KX_tail, lastO_one, lastO_more, dropL_one, dropL_more, callP_eq, callM_true, rowA, coefsA]
  refine loop1 (P := Try.prog) (fun x st => st.T.length = 82 ∧ (x.1 ≤ cs.length) ∧ (x.2.1.natAbs ≤ 1000000000000 + 100000000000000 * x.1 ∧ x.2.2.natAbs ≤ 1000000000000 + 100000000000000 * x.1) ∧ (lohi pt rad (n, n) cs = lohi pt rad x.2 (cs.drop x.1)) ∧ getT st.T 1 = coefsA pt ∧ getT st.T 2 = .int rad ∧ getT st.T 3 = .ref 0 0 0 ∧ getT st.T 7 = .int x.2.1 ∧ getT st.T 8 = .int x.2.2 ∧ getT st.T 23 = coefsA cs ∧ getT st.T 24 = .int cs.length ∧ getT st.T 25 = .int (x.1 : Nat) ∧ st.S = [⟨0, [coefsA cs, .int n, .bool eq]⟩]) (fun x => cs.length - x.1) (fun x => .bool (hopF cs n eq pt rad)) (0, ((n, n) : Int × Int)) ?_ ?_
  case refine_2 => exact ⟨rfl, Nat.zero_le _, by simp only; omega, rfl, rfl, rfl, rfl, rfl, rfl, rfl, rfl, rfl, rfl⟩
  rintro ⟨i, s⟩ ⟨T, S', tk', n'⟩ ⟨hl, hi, hB, hE, e1, e2, e3, e7, e8, e23, e24, e25, eS⟩ IH
  simp only at hi hB hE e1 e2 e3 e7 e8 e23 e24 e25 eS
  subst eS
  obtain ⟨g, hg, hT⟩ := tab_of hl
  rw [hg] at e1 e2 e3 e7 e8 e23 e24 e25
  subst hT
  clear hg hl
  have OUT := IH
  clear IH
  have hiw := wrap_add (i := i) (m := 0) (by omega)
  obtain ⟨lo, hi2⟩ := s
  simp only at hB e7 e8
  by_cases hlt : i < cs.length
  · have d1 : decide ((i : Int) < (cs.length : Int)) = true := by simpa using hlt
    obtain ⟨c, hx⟩ := nth_some hlt
    have hx' := nth_coef hx
    have hcc := hc c (mem_nth hx)
    simp only [coefC] at hx'
    rw [nth_drop hx, lohi] at hE
    simp (maxSteps := 1000000) +contextual (disch := first | with_reducible assumption | exact ⟨rfl⟩ | exact ⟨rfl, rfl⟩ | (refine _root_.id ?_; kernel_rfl) | omega) only [evs, ext_mv, nth, put, putT, getT, binInt, binStr, binBool, aUn, outA, resA, mapO, resA1, oneOf, w1, w2, w3, bots, cond_true, cond_false, if_true, if_false, ite_true, ite_false, reduceIte, reduceCtorEq, implies_true, Nat.reduceAdd, Nat.reduceSub, AV.int, AV.bool, AV.str, Nat.reduceBEq, Nat.reduceEqDiff, Nat.reduceMul, Nat.reduceLT, Nat.reduceLeDiff, Int.reduceNeg, BEq.rfl, beq_self_eq_true, tabl, cellsOf, fldA, ldA, stA, entAt, partA, takeN, over, leafOk, Value.oneCell', idxA, nilA, cellsEq, fillA, elemsA, pure1, pure2, reps, chkA, tys, Try.results52, KX_draw, KX_drawQ, KX_tail, lastO_one, lastO_more, dropL_one, dropL_more, callP_eq, callM_true, e1, e2, e3, e7, e8, e23, e24, e25, d1, coefsA, hx']
    refine loop1 (P := Try.prog) (fun x st => st.T.length = 82 ∧ (x.1 ≤ pt.length) ∧ (x.2 = knF c (pt.take x.1) (lo, hi2, false)) ∧ getT st.T 1 = coefsA pt ∧ getT st.T 2 = .int rad ∧ getT st.T 3 = .ref 0 0 0 ∧ getT st.T 7 = .int x.2.1 ∧ getT st.T 8 = .int x.2.2.1 ∧ getT st.T 10 = .ref 1 n' 0 ∧ getT st.T 11 = .bool x.2.2.2 ∧ getT st.T 23 = coefsA cs ∧ getT st.T 24 = .int cs.length ∧ getT st.T 25 = .int (i : Nat) ∧ getT st.T 29 = coefsA pt ∧ getT st.T 30 = .int pt.length ∧ getT st.T 31 = .int (x.1 : Nat) ∧ st.S = [⟨0, [coefsA cs, .int n, .bool eq]⟩, ⟨n', [.prim (.string c.1), .prim (.int .i64 c.2)]⟩]) (fun x => pt.length - x.1) (fun x => .bool (hopF cs n eq pt rad)) (0, ((lo, hi2, false) : Int × Int × Bool)) ?_ ?_
    case refine_2 => exact ⟨rfl, Nat.zero_le _, rfl, rfl, rfl, rfl, rfl, rfl, rfl, rfl, rfl, rfl, rfl, rfl, rfl, rfl, rfl⟩
    rintro ⟨j, q⟩ ⟨T, S', tk', n'⟩ ⟨hl, hj, hq, e1, e2, e3, e7, e8, e10, e11, e23, e24, e25, e29, e30, e31, eS⟩ IH
    simp only at hj hq e1 e2 e3 e7 e8 e10 e11 e23 e24 e25 e29 e30 e31 eS
    subst eS
    obtain ⟨g, hg, hT⟩ := tab_of hl
    rw [hg] at e1 e2 e3 e7 e8 e10 e11 e23 e24 e25 e29 e30 e31
    subst hT
    clear hg hl
    have hjw := wrap_add (i := j) (m := 0) (by omega)
    have hbd := knF_bound hcc (pt.take j) (lo, hi2, false) (1000000000000 + 100000000000000 * i) (fun x hx => hp x (List.mem_of_mem_take hx)) hB.1 hB.2
    rw [← hq] at hbd
    have htl : (pt.take j).length ≤ 8 := by rw [List.length_take]; omega
    obtain ⟨lo2, hi3, kn⟩ := q
    simp only at hbd e7 e8 e11
    by_cases hj2 : j < pt.length
    · have dj : decide ((j : Int) < (pt.length : Int)) = true := by simpa using hj2
      obtain ⟨x, hxx⟩ := nth_some hj2
      have hxx' := nth_coef hxx
      have hxm := hp x (mem_nth hxx)
      have hmm := mul_le_of hcc hxm
      simp only [coefC] at hxx'
      have hts := kn_take (c := c) (s := (lo, hi2, false)) hxx
      rw [← hq] at hts
      have w1' : IntKind.i64.wrap (c.2 * x.2) = c.2 * x.2 := wrap_of (by unfold i64; omega)
      have w2' : IntKind.i64.wrap (lo2 + c.2 * x.2) = lo2 + c.2 * x.2 := wrap_of (by unfold i64; omega)
      have w3' : IntKind.i64.wrap (hi3 + c.2 * x.2) = hi3 + c.2 * x.2 := wrap_of (by unfold i64; omega)
      cases h0 : sEq x.1 c.1 with
      | true =>
        rw [if_pos h0] at hts
        simp (maxSteps := 1000000) +contextual (disch := first | with_reducible assumption | exact ⟨rfl⟩ | exact ⟨rfl, rfl⟩ | (refine _root_.id ?_; kernel_rfl) | omega) only [evs, ext_mv, nth, put, putT, getT, binInt, binStr, binBool, aUn, outA, resA, mapO, resA1, oneOf, w1, w2, w3, bots, cond_true, cond_false, if_true, if_false, ite_true, ite_false, reduceIte, reduceCtorEq, implies_true, Nat.reduceAdd, Nat.reduceSub, AV.int, AV.bool, AV.str, Nat.reduceBEq, Nat.reduceEqDiff, Nat.reduceMul, Nat.reduceLT, Nat.reduceLeDiff, Int.reduceNeg, BEq.rfl, beq_self_eq_true, tabl, cellsOf, fldA, ldA, stA, entAt, partA, takeN, over, leafOk, Value.oneCell', idxA, nilA, cellsEq, fillA, elemsA, pure1, pure2, reps, chkA, tys, Try.results52, KX_draw, KX_drawQ, KX_tail, lastO_one, lastO_more, dropL_one, dropL_more, callP_eq, callM_true, e1, e2, e3, e7, e8, e10, e11, e23, e24, e25, e29, e30, e31, dj, coefsA, hxx', hjw, h0, w1', w2', w3']
        exact IH (j + 1, (lo2 + c.2 * x.2, hi3 + c.2 * x.2, true)) _ (by first | omega | (simp only; omega)) ⟨rfl, by first | omega | (dsimp only; omega), hts.symm, rfl, rfl, rfl, rfl, rfl, rfl, rfl, rfl, rfl, rfl, rfl, rfl, rfl, rfl⟩
      | false =>
        rw [if_neg (by rw [h0]; simp)] at hts
        simp (maxSteps := 1000000) +contextual (disch := first | with_reducible assumption | exact ⟨rfl⟩ | exact ⟨rfl, rfl⟩ | (refine _root_.id ?_; kernel_rfl) | omega) only [evs, ext_mv, nth, put, putT, getT, binInt, binStr, binBool, aUn, outA, resA, mapO, resA1, oneOf, w1, w2, w3, bots, cond_true, cond_false, if_true, if_false, ite_true, ite_false, reduceIte, reduceCtorEq, implies_true, Nat.reduceAdd, Nat.reduceSub, AV.int, AV.bool, AV.str, Nat.reduceBEq, Nat.reduceEqDiff, Nat.reduceMul, Nat.reduceLT, Nat.reduceLeDiff, Int.reduceNeg, BEq.rfl, beq_self_eq_true, tabl, cellsOf, fldA, ldA, stA, entAt, partA, takeN, over, leafOk, Value.oneCell', idxA, nilA, cellsEq, fillA, elemsA, pure1, pure2, reps, chkA, tys, Try.results52, KX_draw, KX_drawQ, KX_tail, lastO_one, lastO_more, dropL_one, dropL_more, callP_eq, callM_true, e1, e2, e3, e7, e8, e10, e11, e23, e24, e25, e29, e30, e31, dj, coefsA, hxx', hjw, h0, w1', w2', w3']
        exact IH (j + 1, (lo2, hi3, kn)) _ (by first | omega | (simp only; omega)) ⟨rfl, by first | omega | (dsimp only; omega), hts.symm, rfl, rfl, rfl, rfl, rfl, rfl, rfl, rfl, rfl, rfl, rfl, rfl, rfl, rfl⟩
    · have dj : decide ((j : Int) < (pt.length : Int)) = false := by simpa using hj2
      have hje : j = pt.length := by omega
      rw [hje, List.take_length] at hq
      have hstep : stepC pt rad (lo, hi2) c = if kn = true then (lo2, hi3) else (lo2 - (c.2.natAbs : Int) * rad, hi3 + (c.2.natAbs : Int) * rad) := by
        unfold stepC; simp only [← hq]
      rw [hstep] at hE
      cases kn with
      | true =>
        rw [if_pos rfl] at hE
        simp (maxSteps := 1000000) +contextual (disch := first | with_reducible assumption | exact ⟨rfl⟩ | exact ⟨rfl, rfl⟩ | (refine _root_.id ?_; kernel_rfl) | omega) only [evs, ext_mv, nth, put, putT, getT, binInt, binStr, binBool, aUn, outA, resA, mapO, resA1, oneOf, w1, w2, w3, bots, cond_true, cond_false, if_true, if_false, ite_true, ite_false, reduceIte, reduceCtorEq, implies_true, Nat.reduceAdd, Nat.reduceSub, AV.int, AV.bool, AV.str, Nat.reduceBEq, Nat.reduceEqDiff, Nat.reduceMul, Nat.reduceLT, Nat.reduceLeDiff, Int.reduceNeg, BEq.rfl, beq_self_eq_true, tabl, cellsOf, fldA, ldA, stA, entAt, partA, takeN, over, leafOk, Value.oneCell', idxA, nilA, cellsEq, fillA, elemsA, pure1, pure2, reps, chkA, tys, Try.results52, KX_draw, KX_drawQ, KX_tail, lastO_one, lastO_more, dropL_one, dropL_more, callP_eq, callM_true, e1, e2, e3, e7, e8, e10, e11, e23, e24, e25, e29, e30, e31, dj, coefsA, hiw]
        exact OUT (i + 1, (lo2, hi3)) _ (by first | omega | (simp only; omega)) ⟨rfl, by first | omega | (dsimp only; omega), by simp only; omega, hE, rfl, rfl, rfl, rfl, rfl, rfl, rfl, rfl, rfl⟩
      | false =>
        rw [if_neg (by simp)] at hE
        have hneg : IntKind.i64.wrap (0 - c.2) = -c.2 := by rw [wrap_of (by unfold i64; omega)]; omega
        have hmx : (if -c.2 > c.2 then -c.2 else c.2) = (c.2.natAbs : Int) := by split <;> omega
        have hsp := mul_le_of (a := (c.2.natAbs : Int)) (b := rad) (A := 1000000000000) (B := 8) (by omega) (by omega)
        have w1' : IntKind.i64.wrap ((c.2.natAbs : Int) * rad) = (c.2.natAbs : Int) * rad := wrap_of (by unfold i64; omega)
        have w2' : IntKind.i64.wrap (lo2 - (c.2.natAbs : Int) * rad) = lo2 - (c.2.natAbs : Int) * rad := wrap_of (by unfold i64; omega)
        have w3' : IntKind.i64.wrap (hi3 + (c.2.natAbs : Int) * rad) = hi3 + (c.2.natAbs : Int) * rad := wrap_of (by unfold i64; omega)
        simp (maxSteps := 1000000) +contextual (disch := first | with_reducible assumption | exact ⟨rfl⟩ | exact ⟨rfl, rfl⟩ | (refine _root_.id ?_; kernel_rfl) | omega) only [evs, ext_mv, nth, put, putT, getT, binInt, binStr, binBool, aUn, outA, resA, mapO, resA1, oneOf, w1, w2, w3, bots, cond_true, cond_false, if_true, if_false, ite_true, ite_false, reduceIte, reduceCtorEq, implies_true, Nat.reduceAdd, Nat.reduceSub, AV.int, AV.bool, AV.str, Nat.reduceBEq, Nat.reduceEqDiff, Nat.reduceMul, Nat.reduceLT, Nat.reduceLeDiff, Int.reduceNeg, BEq.rfl, beq_self_eq_true, tabl, cellsOf, fldA, ldA, stA, entAt, partA, takeN, over, leafOk, Value.oneCell', idxA, nilA, cellsEq, fillA, elemsA, pure1, pure2, reps, chkA, tys, Try.results52, KX_draw, KX_drawQ, KX_tail, lastO_one, lastO_more, dropL_one, dropL_more, callP_eq, callM_true, e1, e2, e3, e7, e8, e10, e11, e23, e24, e25, e29, e30, e31, dj, coefsA, hiw, hneg, maxA_k, hmx, w1', w2', w3']
        exact OUT (i + 1, (lo2 - (c.2.natAbs : Int) * rad, hi3 + (c.2.natAbs : Int) * rad)) _ (by first | omega | (simp only; omega)) ⟨rfl, by first | omega | (dsimp only; omega), by simp only; omega, hE, rfl, rfl, rfl, rfl, rfl, rfl, rfl, rfl, rfl⟩
  · have d1 : decide ((i : Int) < (cs.length : Int)) = false := by simpa using hlt
    have hie : i = cs.length := by omega
    rw [hie, List.drop_length, lohi] at hE
    have hh : hopF cs n eq pt rad = (decide (lo > 0) || (eq && decide (hi2 < 0))) := by unfold hopF; rw [hE]
    rw [hh]
    cases h1 : decide (lo > 0) with
    | true => simp (maxSteps := 1000000) +contextual (disch := first | with_reducible assumption | exact ⟨rfl⟩ | exact ⟨rfl, rfl⟩ | (refine _root_.id ?_; kernel_rfl) | omega) only [evs, ext_mv, nth, put, putT, getT, binInt, binStr, binBool, aUn, outA, resA, mapO, resA1, oneOf, w1, w2, w3, bots, cond_true, cond_false, if_true, if_false, ite_true, ite_false, reduceIte, reduceCtorEq, implies_true, Nat.reduceAdd, Nat.reduceSub, AV.int, AV.bool, AV.str, Nat.reduceBEq, Nat.reduceEqDiff, Nat.reduceMul, Nat.reduceLT, Nat.reduceLeDiff, Int.reduceNeg, BEq.rfl, beq_self_eq_true, tabl, cellsOf, fldA, ldA, stA, entAt, partA, takeN, over, leafOk, Value.oneCell', idxA, nilA, cellsEq, fillA, elemsA, pure1, pure2, reps, chkA, tys, Try.results52, KX_draw, KX_drawQ, KX_tail, lastO_one, lastO_more, dropL_one, dropL_more, callP_eq, callM_true, e1, e2, e3, e7, e8, e23, e24, e25, d1, coefsA, h1, Bool.true_or]
    | false =>
      cases eq with
      | false => simp (maxSteps := 1000000) +contextual (disch := first | with_reducible assumption | exact ⟨rfl⟩ | exact ⟨rfl, rfl⟩ | (refine _root_.id ?_; kernel_rfl) | omega) only [evs, ext_mv, nth, put, putT, getT, binInt, binStr, binBool, aUn, outA, resA, mapO, resA1, oneOf, w1, w2, w3, bots, cond_true, cond_false, if_true, if_false, ite_true, ite_false, reduceIte, reduceCtorEq, implies_true, Nat.reduceAdd, Nat.reduceSub, AV.int, AV.bool, AV.str, Nat.reduceBEq, Nat.reduceEqDiff, Nat.reduceMul, Nat.reduceLT, Nat.reduceLeDiff, Int.reduceNeg, BEq.rfl, beq_self_eq_true, tabl, cellsOf, fldA, ldA, stA, entAt, partA, takeN, over, leafOk, Value.oneCell', idxA, nilA, cellsEq, fillA, elemsA, pure1, pure2, reps, chkA, tys, Try.results52, KX_draw, KX_drawQ, KX_tail, lastO_one, lastO_more, dropL_one, dropL_more, callP_eq, callM_true, e1, e2, e3, e7, e8, e23, e24, e25, d1, coefsA, h1, Bool.false_or, Bool.false_and]
      | true => simp (maxSteps := 1000000) +contextual (disch := first | with_reducible assumption | exact ⟨rfl⟩ | exact ⟨rfl, rfl⟩ | (refine _root_.id ?_; kernel_rfl) | omega) only [evs, ext_mv, nth, put, putT, getT, binInt, binStr, binBool, aUn, outA, resA, mapO, resA1, oneOf, w1, w2, w3, bots, cond_true, cond_false, if_true, if_false, ite_true, ite_false, reduceIte, reduceCtorEq, implies_true, Nat.reduceAdd, Nat.reduceSub, AV.int, AV.bool, AV.str, Nat.reduceBEq, Nat.reduceEqDiff, Nat.reduceMul, Nat.reduceLT, Nat.reduceLeDiff, Int.reduceNeg, BEq.rfl, beq_self_eq_true, tabl, cellsOf, fldA, ldA, stA, entAt, partA, takeN, over, leafOk, Value.oneCell', idxA, nilA, cellsEq, fillA, elemsA, pure1, pure2, reps, chkA, tys, Try.results52, KX_draw, KX_drawQ, KX_tail, lastO_one, lastO_more, dropL_one, dropL_more, callP_eq, callM_true, e1, e2, e3, e7, e8, e23, e24, e25, d1, coefsA, h1, Bool.false_or, Bool.true_and]
end
end Go.Proofs.Ytcandeobhlfkbaa
