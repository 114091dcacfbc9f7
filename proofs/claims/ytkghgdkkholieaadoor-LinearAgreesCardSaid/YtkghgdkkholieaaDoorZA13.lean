/-
  Texts laid together: DT1, DT2, DS1, DZ1.
-/
import Derived.Test.YtkghgdkkholieaaDoorZA11
import Derived.Test.YtkghgdkkholieaaDoorZA12
/-
  The terms of forms, by the reference and the program.
-/


namespace Go.Proofs.YtkghgdkkholieaaDoor
open Go
abbrev bE : ByteArray := ⟨#[]⟩
def partT (c : ByteArray × Int) : PT := if c.2 = 1 then .node 3 c.1 0 [] else .node 8 bE 0 [.node 1 bE c.2 [], .node 3 c.1 0 []]
def partsF (cs : List (ByteArray × Int)) (n : Int) : List PT := if n ≠ 0 ∨ cs = [] then cs.map partT ++ [.node 1 bE n []] else cs.map partT
def sumF : PT → List PT → PT
  | x, [] => x
  | x, y :: r => sumF (.node 6 bE 0 [x, y]) r
def sumL : List PT → PT
  | [] => .node 1 bE 0 []
  | x :: r => sumF x r
def termF (cs : List (ByteArray × Int)) (n : Int) : PT := if checkF cs n = 0 then sumL (partsF cs n) else .node 1 bE 0 []
theorem partsF_ne (cs : List (ByteArray × Int)) (n : Int) : ∃ x r, partsF cs n = x :: r := by
  unfold partsF
  cases cs with
  | nil => simp
  | cons c cs => split <;> simp
theorem partsF_len (cs : List (ByteArray × Int)) (n : Int) : (partsF cs n).length ≤ cs.length + 1 := by
  unfold partsF; split <;> simp
section
variable (S : List Ent) (tk : List Nat) (k : Nat)
set_option maxRecDepth 100000 in
set_option maxHeartbeats 4000000 in
theorem R11_Pred (cs : List (ByteArray × Int)) (n : Int) (hlen : cs.length ≤ 100000) : cL Tryd.prog 13 [linA cs n] S tk k = some (.agg (predC (termF cs n)), S, tk, k) := by
  have hC := fun S tk k => R11_Check S tk k cs n (by omega)
  simp only [linA, coefsA] at hC
  rw [predC_cells]
  refine call_pure Tryd.func13 rfl rfl (by decide +kernel) (by decide +kernel) Tryd.ntmps13 rfl rfl _ _ _ rfl ?_; rw [RK_KX]
  unfold termF
  by_cases hc : checkF cs n = 0
  case neg =>
    have d : (checkF cs n != 0) = true := by simpa using hc
    simp (maxSteps := 1000000) +contextual (disch := first | with_reducible assumption | exact ⟨rfl⟩ | exact ⟨rfl, rfl⟩ | (refine _root_.id ?_; kernel_rfl) | omega) only [evs, ext_mv, nth, put, putT, getT, binInt, binStr, binBool, aUn, outA, resA, mapO, resA1, oneOf, w1, w2, w3, bots, cond_true, cond_false, if_true, if_false, ite_true, ite_false, reduceIte, reduceCtorEq, implies_true, Nat.reduceAdd, Nat.reduceSub, AV.int, AV.bool, AV.str, Nat.reduceBEq, Nat.reduceEqDiff, Nat.reduceMul, Nat.reduceLT, Nat.reduceLeDiff, Int.reduceNeg, BEq.rfl, beq_self_eq_true, tabl, cellsOf, fldA, ldA, stA, entAt, partA, takeN, over, leafOk, Value.oneCell', idxA, nilA, cellsEq, fillA, elemsA, pure1, pure2, reps, chkA, tys, Tryd.results13, KX_draw, KX_drawQ, KX_tail, lastO_one, lastO_more, dropL_one, dropL_more, callP_eq, callM_true, linA, coefsA, hC, d]
    rw [if_neg hc]; simp [PT.op, PT.name, PT.n, PT.kids, kidsC]
  have d : (checkF cs n != 0) = false := by simpa using hc
  rw [if_pos hc]
  simp (maxSteps := 1000000) +contextual (disch := first | with_reducible assumption | exact ⟨rfl⟩ | exact ⟨rfl, rfl⟩ | (refine _root_.id ?_; kernel_rfl) | omega) only [evs, ext_mv, nth, put, putT, getT, binInt, binStr, binBool, aUn, outA, resA, mapO, resA1, oneOf, w1, w2, w3, bots, cond_true, cond_false, if_true, if_false, ite_true, ite_false, reduceIte, reduceCtorEq, implies_true, Nat.reduceAdd, Nat.reduceSub, AV.int, AV.bool, AV.str, Nat.reduceBEq, Nat.reduceEqDiff, Nat.reduceMul, Nat.reduceLT, Nat.reduceLeDiff, Int.reduceNeg, BEq.rfl, beq_self_eq_true, tabl, cellsOf, fldA, ldA, stA, entAt, partA, takeN, over, leafOk, Value.oneCell', idxA, nilA, cellsEq, fillA, elemsA, pure1, pure2, reps, chkA, tys, Tryd.results13, KX_draw, KX_drawQ, KX_tail, lastO_one, lastO_more, dropL_one, dropL_more, callP_eq, callM_true, linA, coefsA, hC, d]
  have hl24 := (check_ok hc).2.2
  generalize hT : sumL (partsF cs n) = T
  clear d hC hc
  refine loop1 (P := Tryd.prog) (fun x st => st.T.length = 78 ∧ (x.1 ≤ cs.length) ∧ (okCap st.tk x.2.2 4 = true) ∧ (x.2.1 = (cs.take x.1).map partT) ∧ getT st.T 1 = .ref 0 0 0 ∧ getT st.T 2 = .ref 1 1 0 ∧ getT st.T 3 = .frz (x.2.1.map predC) x.2.2 ∧ getT st.T 4 = .int (x.1 : Nat) ∧ st.S = [⟨0, [.frz (cs.map coefC) .unk, .int n]⟩, ⟨1, [.int 0, .str bE, .int 0, .frz [] .nilc]⟩]) (fun x => cs.length - x.1) (fun x => .agg [.prim (.int .i64 T.op), .prim (.string T.name), .prim (.int .i64 T.n), .frz (kidsC T.kids) .unk]) (0, [], .nilc) ?_ ?_
  case refine_2 => exact ⟨rfl, Nat.zero_le _, rfl, rfl, rfl, rfl, rfl, rfl, rfl⟩
  rintro ⟨i, ps, c⟩ ⟨T, S', tk', n'⟩ ⟨hl, hi, hok, hm, e1, e2, e3, e4, eS⟩ IH
  simp only at hi hok hm e1 e2 e3 e4 eS
  subst eS
  obtain ⟨g, hg, hT⟩ := tab_of hl
  rw [hg] at e1 e2 e3 e4
  subst hT
  clear hg hl
  have hr := rowsOk_map (f := predC) (sz := 4) predC_len ps
  have hpl : ps.length = i := by rw [hm]; simp; omega
  have hn : (ps.map predC).length + 1 ≤ 1048576 := by simp; omega
  have hok' := okCap_new hok
  by_cases la : i < cs.length
  · have d1 : decide ((i : Int) < (cs.length : Int)) = true := by simpa using la
    obtain ⟨x, hx⟩ := nth_some la
    have hx' : nth (cs.map coefC) i = some (coefC x) := by rw [nth_map, hx]; rfl
    have hw := wrap_add (i := i) (m := 0) (by omega)
    have htk : (cs.take (i + 1)).map partT = ps ++ [partT x] := by rw [take_succ_nth hx, List.map_append, hm]; rfl
    by_cases h1 : x.2 = 1
    · have d2 : (x.2 != 1) = false := by simpa using h1
      have hp : partT x = .node 3 x.1 0 [] := by unfold partT; rw [if_pos h1]
      rw [hp] at htk
      simp (maxSteps := 1000000) +contextual (disch := first | with_reducible assumption | exact ⟨rfl⟩ | exact ⟨rfl, rfl⟩ | (refine _root_.id ?_; kernel_rfl) | omega) only [evs, ext_mv, nth, put, putT, getT, binInt, binStr, binBool, aUn, outA, resA, mapO, resA1, oneOf, w1, w2, w3, bots, cond_true, cond_false, if_true, if_false, ite_true, ite_false, reduceIte, reduceCtorEq, implies_true, Nat.reduceAdd, Nat.reduceSub, AV.int, AV.bool, AV.str, Nat.reduceBEq, Nat.reduceEqDiff, Nat.reduceMul, Nat.reduceLT, Nat.reduceLeDiff, Int.reduceNeg, BEq.rfl, beq_self_eq_true, tabl, cellsOf, fldA, ldA, stA, entAt, partA, takeN, over, leafOk, Value.oneCell', idxA, nilA, cellsEq, fillA, elemsA, pure1, pure2, reps, chkA, tys, Tryd.results13, KX_draw, KX_drawQ, KX_tail, lastO_one, lastO_more, dropL_one, dropL_more, callP_eq, callM_true, e1, e2, e3, e4, d1, d2, hx', hw, coefC, hr]
      exact IH (i + 1, ps ++ [.node 3 x.1 0 []], capNew tk' c 4) _ (by first | omega | (simp only; omega)) ⟨rfl, la, hok', htk.symm, (by first | rfl | simp only [getT, List.map_append, List.map_cons, List.map_nil, predC, kidsC]), (by first | rfl | simp only [getT, List.map_append, List.map_cons, List.map_nil, predC, kidsC]), (by first | rfl | simp only [getT, List.map_append, List.map_cons, List.map_nil, predC, kidsC]), (by first | rfl | simp only [getT, List.map_append, List.map_cons, List.map_nil, predC, kidsC]), (by first | rfl | simp only [getT, List.map_append, List.map_cons, List.map_nil, predC, kidsC])⟩
    · have d2 : (x.2 != 1) = true := by simpa using h1
      have hp : partT x = .node 8 bE 0 [.node 1 bE x.2 [], .node 3 x.1 0 []] := by unfold partT; rw [if_neg h1]
      rw [hp] at htk
      simp (maxSteps := 1000000) +contextual (disch := first | with_reducible assumption | exact ⟨rfl⟩ | exact ⟨rfl, rfl⟩ | (refine _root_.id ?_; kernel_rfl) | omega) only [evs, ext_mv, nth, put, putT, getT, binInt, binStr, binBool, aUn, outA, resA, mapO, resA1, oneOf, w1, w2, w3, bots, cond_true, cond_false, if_true, if_false, ite_true, ite_false, reduceIte, reduceCtorEq, implies_true, Nat.reduceAdd, Nat.reduceSub, AV.int, AV.bool, AV.str, Nat.reduceBEq, Nat.reduceEqDiff, Nat.reduceMul, Nat.reduceLT, Nat.reduceLeDiff, Int.reduceNeg, BEq.rfl, beq_self_eq_true, tabl, cellsOf, fldA, ldA, stA, entAt, partA, takeN, over, leafOk, Value.oneCell', idxA, nilA, cellsEq, fillA, elemsA, pure1, pure2, reps, chkA, tys, Tryd.results13, KX_draw, KX_drawQ, KX_tail, lastO_one, lastO_more, dropL_one, dropL_more, callP_eq, callM_true, e1, e2, e3, e4, d1, d2, hx', hw, coefC, hr]
      exact IH (i + 1, ps ++ [.node 8 bE 0 [.node 1 bE x.2 [], .node 3 x.1 0 []]], capNew tk' c 4) _ (by first | omega | (simp only; omega)) ⟨rfl, la, hok', htk.symm, (by first | rfl | simp only [getT, List.map_append, List.map_cons, List.map_nil, predC, kidsC]), (by first | rfl | simp only [getT, List.map_append, List.map_cons, List.map_nil, predC, kidsC]), (by first | rfl | simp only [getT, List.map_append, List.map_cons, List.map_nil, predC, kidsC]), (by first | rfl | simp only [getT, List.map_append, List.map_cons, List.map_nil, predC, kidsC]), (by first | rfl | simp only [getT, List.map_append, List.map_cons, List.map_nil, predC, kidsC])⟩
  · have d1 : decide ((i : Int) < (cs.length : Int)) = false := by simpa using la
    have he : i = cs.length := by omega
    have hps : ps = cs.map partT := by rw [hm, he, List.take_length]
    clear IH
    generalize hfull : partsF cs n = full at *
    have hfne := partsF_ne cs n
    have hfl := partsF_len cs n
    rw [hfull] at hfne hfl
    obtain ⟨x0, r0, hx0⟩ := hfne
    have hx0' : nth (full.map predC) 0 = some (predC x0) := by rw [hx0]; rfl
    have hT2 : sumF x0 (full.drop 1) = T := by rw [← hT, hx0]; rfl
    by_cases hadd : n ≠ 0 ∨ cs = []
    · have hf2 : full = ps ++ [.node 1 bE n []] := by rw [← hfull, hps]; unfold partsF; rw [if_pos hadd]
      have hfm : full.map predC = ps.map predC ++ [[.prim (.int .i64 1), .prim (.string bE), .prim (.int .i64 n), .frz [] .unk]] := by rw [hf2, List.map_append]; rfl
      have hlen1 : 1 ≤ full.length := by rw [hf2]; simp
      rw [predC_cells, hfm] at hx0'
      by_cases hn0 : n = 0
      · have d2 : (n != 0) = false := by simpa using hn0
        have hcs : cs = [] := hadd.resolve_left (by simp [hn0])
        have d3 : (((ps.length : Nat) : Int) == 0) = true := by rw [hps, hcs]; rfl
        simp (maxSteps := 1000000) +contextual (disch := first | with_reducible assumption | exact ⟨rfl⟩ | exact ⟨rfl, rfl⟩ | (refine _root_.id ?_; kernel_rfl) | omega) only [evs, ext_mv, nth, put, putT, getT, binInt, binStr, binBool, aUn, outA, resA, mapO, resA1, oneOf, w1, w2, w3, bots, cond_true, cond_false, if_true, if_false, ite_true, ite_false, reduceIte, reduceCtorEq, implies_true, Nat.reduceAdd, Nat.reduceSub, AV.int, AV.bool, AV.str, Nat.reduceBEq, Nat.reduceEqDiff, Nat.reduceMul, Nat.reduceLT, Nat.reduceLeDiff, Int.reduceNeg, BEq.rfl, beq_self_eq_true, tabl, cellsOf, fldA, ldA, stA, entAt, partA, takeN, over, leafOk, Value.oneCell', idxA, nilA, cellsEq, fillA, elemsA, pure1, pure2, reps, chkA, tys, Tryd.results13, KX_draw, KX_drawQ, KX_tail, lastO_one, lastO_more, dropL_one, dropL_more, callP_eq, callM_true, e1, e2, e3, e4, d1, d2, d3, hr, hx0', List.length_map]
        rw [← hfm]
        generalize n' = ep
        clear hx0 hx0' hfm hr hn hok' hok hm hpl hps hT hfull
        refine loop1 (P := Tryd.prog) (fun x st => st.T.length = 78 ∧ (1 ≤ x.1) ∧ (x.1 ≤ full.length) ∧ (sumF x.2.1 (full.drop x.1) = T) ∧ getT st.T 2 = .ref 1 1 0 ∧ getT st.T 3 = .frz (full.map predC) x.2.2.2 ∧ getT st.T 6 = .ref 2 ep 0 ∧ getT st.T 7 = .int (x.1 : Nat) ∧ st.S = [⟨0, [.frz (cs.map coefC) .unk, .int n]⟩, ⟨1, [.int 0, .str bE, .int 0, .frz [] .nilc]⟩, ⟨ep, [.prim (.int .i64 x.2.1.op), .prim (.string x.2.1.name), .prim (.int .i64 x.2.1.n), .frz (kidsC x.2.1.kids) x.2.2.1]⟩]) (fun x => full.length - x.1) (fun x => .agg [.prim (.int .i64 T.op), .prim (.string T.name), .prim (.int .i64 T.n), .frz (kidsC T.kids) .unk]) (1, x0, .unk, capNew tk' c 4) ?_ ?_
        case refine_2 => exact ⟨rfl, Nat.le_refl _, hlen1, hT2, rfl, rfl, rfl, rfl, rfl⟩
        rintro ⟨j, x, c2, c3⟩ ⟨T, S', tk', n'⟩ ⟨hl, hj, hj2, hs, e2, e3, e6, e7, eS⟩ IH
        simp only at hj hj2 hs e2 e3 e6 e7 eS
        subst eS
        obtain ⟨g, hg, hT⟩ := tab_of hl
        rw [hg] at e2 e3 e6 e7
        subst hT
        clear hg hl
        by_cases lj : j < full.length
        · have d1 : decide ((j : Int) < (full.length : Int)) = true := by simpa using lj
          obtain ⟨y, hy⟩ := nth_some lj
          have hy' : nth (full.map predC) j = some (predC y) := by rw [nth_map, hy]; rfl
          have hw := wrap_add (i := j) (m := 0) (by omega)
          rw [predC_cells] at hy'
          rw [nth_drop hy] at hs
          simp only [sumF] at hs
          simp (maxSteps := 1000000) +contextual (disch := first | with_reducible assumption | exact ⟨rfl⟩ | exact ⟨rfl, rfl⟩ | (refine _root_.id ?_; kernel_rfl) | omega) only [evs, ext_mv, nth, put, putT, getT, binInt, binStr, binBool, aUn, outA, resA, mapO, resA1, oneOf, w1, w2, w3, bots, cond_true, cond_false, if_true, if_false, ite_true, ite_false, reduceIte, reduceCtorEq, implies_true, Nat.reduceAdd, Nat.reduceSub, AV.int, AV.bool, AV.str, Nat.reduceBEq, Nat.reduceEqDiff, Nat.reduceMul, Nat.reduceLT, Nat.reduceLeDiff, Int.reduceNeg, BEq.rfl, beq_self_eq_true, tabl, cellsOf, fldA, ldA, stA, entAt, partA, takeN, over, leafOk, Value.oneCell', idxA, nilA, cellsEq, fillA, elemsA, pure1, pure2, reps, chkA, tys, Tryd.results13, KX_draw, KX_drawQ, KX_tail, lastO_one, lastO_more, dropL_one, dropL_more, callP_eq, callM_true, e2, e3, e6, e7, List.length_map, d1, hy', hw]
          refine IH (j + 1, .node 6 bE 0 [x, y], .tight, c3) _ (by simp only; omega) ⟨rfl, by simp only; omega, lj, hs, rfl, rfl, rfl, rfl, ?_⟩
          simp [PT.op, PT.name, PT.n, PT.kids, kidsC, predC_cells]
        · have d1 : decide ((j : Int) < (full.length : Int)) = false := by simpa using lj
          have he : j = full.length := by omega
          rw [he, List.drop_length] at hs
          simp only [sumF] at hs
          subst hs
          simp (maxSteps := 1000000) +contextual (disch := first | with_reducible assumption | exact ⟨rfl⟩ | exact ⟨rfl, rfl⟩ | (refine _root_.id ?_; kernel_rfl) | omega) only [evs, ext_mv, nth, put, putT, getT, binInt, binStr, binBool, aUn, outA, resA, mapO, resA1, oneOf, w1, w2, w3, bots, cond_true, cond_false, if_true, if_false, ite_true, ite_false, reduceIte, reduceCtorEq, implies_true, Nat.reduceAdd, Nat.reduceSub, AV.int, AV.bool, AV.str, Nat.reduceBEq, Nat.reduceEqDiff, Nat.reduceMul, Nat.reduceLT, Nat.reduceLeDiff, Int.reduceNeg, BEq.rfl, beq_self_eq_true, tabl, cellsOf, fldA, ldA, stA, entAt, partA, takeN, over, leafOk, Value.oneCell', idxA, nilA, cellsEq, fillA, elemsA, pure1, pure2, reps, chkA, tys, Tryd.results13, KX_draw, KX_drawQ, KX_tail, lastO_one, lastO_more, dropL_one, dropL_more, callP_eq, callM_true, e2, e3, e6, e7, List.length_map, d1]
      · have d2 : (n != 0) = true := by simpa using hn0
        simp (maxSteps := 1000000) +contextual (disch := first | with_reducible assumption | exact ⟨rfl⟩ | exact ⟨rfl, rfl⟩ | (refine _root_.id ?_; kernel_rfl) | omega) only [evs, ext_mv, nth, put, putT, getT, binInt, binStr, binBool, aUn, outA, resA, mapO, resA1, oneOf, w1, w2, w3, bots, cond_true, cond_false, if_true, if_false, ite_true, ite_false, reduceIte, reduceCtorEq, implies_true, Nat.reduceAdd, Nat.reduceSub, AV.int, AV.bool, AV.str, Nat.reduceBEq, Nat.reduceEqDiff, Nat.reduceMul, Nat.reduceLT, Nat.reduceLeDiff, Int.reduceNeg, BEq.rfl, beq_self_eq_true, tabl, cellsOf, fldA, ldA, stA, entAt, partA, takeN, over, leafOk, Value.oneCell', idxA, nilA, cellsEq, fillA, elemsA, pure1, pure2, reps, chkA, tys, Tryd.results13, KX_draw, KX_drawQ, KX_tail, lastO_one, lastO_more, dropL_one, dropL_more, callP_eq, callM_true, e1, e2, e3, e4, d1, d2, hr, hx0', List.length_map]
        rw [← hfm]
        generalize n' = ep
        clear hx0 hx0' hfm hr hn hok' hok hm hpl hps hT hfull
        refine loop1 (P := Tryd.prog) (fun x st => st.T.length = 78 ∧ (1 ≤ x.1) ∧ (x.1 ≤ full.length) ∧ (sumF x.2.1 (full.drop x.1) = T) ∧ getT st.T 2 = .ref 1 1 0 ∧ getT st.T 3 = .frz (full.map predC) x.2.2.2 ∧ getT st.T 6 = .ref 2 ep 0 ∧ getT st.T 7 = .int (x.1 : Nat) ∧ st.S = [⟨0, [.frz (cs.map coefC) .unk, .int n]⟩, ⟨1, [.int 0, .str bE, .int 0, .frz [] .nilc]⟩, ⟨ep, [.prim (.int .i64 x.2.1.op), .prim (.string x.2.1.name), .prim (.int .i64 x.2.1.n), .frz (kidsC x.2.1.kids) x.2.2.1]⟩]) (fun x => full.length - x.1) (fun x => .agg [.prim (.int .i64 T.op), .prim (.string T.name), .prim (.int .i64 T.n), .frz (kidsC T.kids) .unk]) (1, x0, .unk, capNew tk' c 4) ?_ ?_
        case refine_2 => exact ⟨rfl, Nat.le_refl _, hlen1, hT2, rfl, rfl, rfl, rfl, rfl⟩
        rintro ⟨j, x, c2, c3⟩ ⟨T, S', tk', n'⟩ ⟨hl, hj, hj2, hs, e2, e3, e6, e7, eS⟩ IH
        simp only at hj hj2 hs e2 e3 e6 e7 eS
        subst eS
        obtain ⟨g, hg, hT⟩ := tab_of hl
        rw [hg] at e2 e3 e6 e7
        subst hT
        clear hg hl
        by_cases lj : j < full.length
        · have d1 : decide ((j : Int) < (full.length : Int)) = true := by simpa using lj
          obtain ⟨y, hy⟩ := nth_some lj
          have hy' : nth (full.map predC) j = some (predC y) := by rw [nth_map, hy]; rfl
          have hw := wrap_add (i := j) (m := 0) (by omega)
          rw [predC_cells] at hy'
          rw [nth_drop hy] at hs
          simp only [sumF] at hs
          simp (maxSteps := 1000000) +contextual (disch := first | with_reducible assumption | exact ⟨rfl⟩ | exact ⟨rfl, rfl⟩ | (refine _root_.id ?_; kernel_rfl) | omega) only [evs, ext_mv, nth, put, putT, getT, binInt, binStr, binBool, aUn, outA, resA, mapO, resA1, oneOf, w1, w2, w3, bots, cond_true, cond_false, if_true, if_false, ite_true, ite_false, reduceIte, reduceCtorEq, implies_true, Nat.reduceAdd, Nat.reduceSub, AV.int, AV.bool, AV.str, Nat.reduceBEq, Nat.reduceEqDiff, Nat.reduceMul, Nat.reduceLT, Nat.reduceLeDiff, Int.reduceNeg, BEq.rfl, beq_self_eq_true, tabl, cellsOf, fldA, ldA, stA, entAt, partA, takeN, over, leafOk, Value.oneCell', idxA, nilA, cellsEq, fillA, elemsA, pure1, pure2, reps, chkA, tys, Tryd.results13, KX_draw, KX_drawQ, KX_tail, lastO_one, lastO_more, dropL_one, dropL_more, callP_eq, callM_true, e2, e3, e6, e7, List.length_map, d1, hy', hw]
          refine IH (j + 1, .node 6 bE 0 [x, y], .tight, c3) _ (by simp only; omega) ⟨rfl, by simp only; omega, lj, hs, rfl, rfl, rfl, rfl, ?_⟩
          simp [PT.op, PT.name, PT.n, PT.kids, kidsC, predC_cells]
        · have d1 : decide ((j : Int) < (full.length : Int)) = false := by simpa using lj
          have he : j = full.length := by omega
          rw [he, List.drop_length] at hs
          simp only [sumF] at hs
          subst hs
          simp (maxSteps := 1000000) +contextual (disch := first | with_reducible assumption | exact ⟨rfl⟩ | exact ⟨rfl, rfl⟩ | (refine _root_.id ?_; kernel_rfl) | omega) only [evs, ext_mv, nth, put, putT, getT, binInt, binStr, binBool, aUn, outA, resA, mapO, resA1, oneOf, w1, w2, w3, bots, cond_true, cond_false, if_true, if_false, ite_true, ite_false, reduceIte, reduceCtorEq, implies_true, Nat.reduceAdd, Nat.reduceSub, AV.int, AV.bool, AV.str, Nat.reduceBEq, Nat.reduceEqDiff, Nat.reduceMul, Nat.reduceLT, Nat.reduceLeDiff, Int.reduceNeg, BEq.rfl, beq_self_eq_true, tabl, cellsOf, fldA, ldA, stA, entAt, partA, takeN, over, leafOk, Value.oneCell', idxA, nilA, cellsEq, fillA, elemsA, pure1, pure2, reps, chkA, tys, Tryd.results13, KX_draw, KX_drawQ, KX_tail, lastO_one, lastO_more, dropL_one, dropL_more, callP_eq, callM_true, e2, e3, e6, e7, List.length_map, d1]
    · have hn0 : n = 0 := by
        by_cases h : n = 0
        · exact h
        · exact absurd (.inl h) hadd
      have hcs : cs ≠ [] := fun h => hadd (.inr h)
      have hf2 : full = ps := by rw [← hfull, hps]; unfold partsF; rw [if_neg hadd]
      have d2 : (n != 0) = false := by simpa using hn0
      have d3 : (((ps.length : Nat) : Int) == 0) = false := by
        have : 0 < cs.length := List.length_pos_iff.2 hcs
        rw [Bool.beq_eq_decide_eq]; exact decide_eq_false (by omega)
      rw [predC_cells, hf2] at hx0'
      simp (maxSteps := 1000000) +contextual (disch := first | with_reducible assumption | exact ⟨rfl⟩ | exact ⟨rfl, rfl⟩ | (refine _root_.id ?_; kernel_rfl) | omega) only [evs, ext_mv, nth, put, putT, getT, binInt, binStr, binBool, aUn, outA, resA, mapO, resA1, oneOf, w1, w2, w3, bots, cond_true, cond_false, if_true, if_false, ite_true, ite_false, reduceIte, reduceCtorEq, implies_true, Nat.reduceAdd, Nat.reduceSub, AV.int, AV.bool, AV.str, Nat.reduceBEq, Nat.reduceEqDiff, Nat.reduceMul, Nat.reduceLT, Nat.reduceLeDiff, Int.reduceNeg, BEq.rfl, beq_self_eq_true, tabl, cellsOf, fldA, ldA, stA, entAt, partA, takeN, over, leafOk, Value.oneCell', idxA, nilA, cellsEq, fillA, elemsA, pure1, pure2, reps, chkA, tys, Tryd.results13, KX_draw, KX_drawQ, KX_tail, lastO_one, lastO_more, dropL_one, dropL_more, callP_eq, callM_true, e1, e2, e3, e4, d1, d2, d3, hr, hx0', List.length_map]
      have hfm : ps.map predC = full.map predC := by rw [hf2]
      have hlen1 : 1 ≤ full.length := by rw [hf2, hpl, he]; exact List.length_pos_iff.2 hcs
      rw [hfm]
      generalize n' = ep
      clear hx0 hx0' hfm hr hn hok' hok hm hpl hps hT hfull
      refine loop1 (P := Tryd.prog) (fun x st => st.T.length = 78 ∧ (1 ≤ x.1) ∧ (x.1 ≤ full.length) ∧ (sumF x.2.1 (full.drop x.1) = T) ∧ getT st.T 2 = .ref 1 1 0 ∧ getT st.T 3 = .frz (full.map predC) x.2.2.2 ∧ getT st.T 6 = .ref 2 ep 0 ∧ getT st.T 7 = .int (x.1 : Nat) ∧ st.S = [⟨0, [.frz (cs.map coefC) .unk, .int n]⟩, ⟨1, [.int 0, .str bE, .int 0, .frz [] .nilc]⟩, ⟨ep, [.prim (.int .i64 x.2.1.op), .prim (.string x.2.1.name), .prim (.int .i64 x.2.1.n), .frz (kidsC x.2.1.kids) x.2.2.1]⟩]) (fun x => full.length - x.1) (fun x => .agg [.prim (.int .i64 T.op), .prim (.string T.name), .prim (.int .i64 T.n), .frz (kidsC T.kids) .unk]) (1, x0, .unk, c) ?_ ?_
      case refine_2 => exact ⟨rfl, Nat.le_refl _, hlen1, hT2, rfl, rfl, rfl, rfl, rfl⟩
      rintro ⟨j, x, c2, c3⟩ ⟨T, S', tk', n'⟩ ⟨hl, hj, hj2, hs, e2, e3, e6, e7, eS⟩ IH
      simp only at hj hj2 hs e2 e3 e6 e7 eS
      subst eS
      obtain ⟨g, hg, hT⟩ := tab_of hl
      rw [hg] at e2 e3 e6 e7
      subst hT
      clear hg hl
      by_cases lj : j < full.length
      · have d1 : decide ((j : Int) < (full.length : Int)) = true := by simpa using lj
        obtain ⟨y, hy⟩ := nth_some lj
        have hy' : nth (full.map predC) j = some (predC y) := by rw [nth_map, hy]; rfl
        have hw := wrap_add (i := j) (m := 0) (by omega)
        rw [predC_cells] at hy'
        rw [nth_drop hy] at hs
        simp only [sumF] at hs
        simp (maxSteps := 1000000) +contextual (disch := first | with_reducible assumption | exact ⟨rfl⟩ | exact ⟨rfl, rfl⟩ | (refine _root_.id ?_; kernel_rfl) | omega) only [evs, ext_mv, nth, put, putT, getT, binInt, binStr, binBool, aUn, outA, resA, mapO, resA1, oneOf, w1, w2, w3, bots, cond_true, cond_false, if_true, if_false, ite_true, ite_false, reduceIte, reduceCtorEq, implies_true, Nat.reduceAdd, Nat.reduceSub, AV.int, AV.bool, AV.str, Nat.reduceBEq, Nat.reduceEqDiff, Nat.reduceMul, Nat.reduceLT, Nat.reduceLeDiff, Int.reduceNeg, BEq.rfl, beq_self_eq_true, tabl, cellsOf, fldA, ldA, stA, entAt, partA, takeN, over, leafOk, Value.oneCell', idxA, nilA, cellsEq, fillA, elemsA, pure1, pure2, reps, chkA, tys, Tryd.results13, KX_draw, KX_drawQ, KX_tail, lastO_one, lastO_more, dropL_one, dropL_more, callP_eq, callM_true, e2, e3, e6, e7, List.length_map, d1, hy', hw]
        refine IH (j + 1, .node 6 bE 0 [x, y], .tight, c3) _ (by simp only; omega) ⟨rfl, by simp only; omega, lj, hs, rfl, rfl, rfl, rfl, ?_⟩
        simp [PT.op, PT.name, PT.n, PT.kids, kidsC, predC_cells]
      · have d1 : decide ((j : Int) < (full.length : Int)) = false := by simpa using lj
        have he : j = full.length := by omega
        rw [he, List.drop_length] at hs
        simp only [sumF] at hs
        subst hs
        simp (maxSteps := 1000000) +contextual (disch := first | with_reducible assumption | exact ⟨rfl⟩ | exact ⟨rfl, rfl⟩ | (refine _root_.id ?_; kernel_rfl) | omega) only [evs, ext_mv, nth, put, putT, getT, binInt, binStr, binBool, aUn, outA, resA, mapO, resA1, oneOf, w1, w2, w3, bots, cond_true, cond_false, if_true, if_false, ite_true, ite_false, reduceIte, reduceCtorEq, implies_true, Nat.reduceAdd, Nat.reduceSub, AV.int, AV.bool, AV.str, Nat.reduceBEq, Nat.reduceEqDiff, Nat.reduceMul, Nat.reduceLT, Nat.reduceLeDiff, Int.reduceNeg, BEq.rfl, beq_self_eq_true, tabl, cellsOf, fldA, ldA, stA, entAt, partA, takeN, over, leafOk, Value.oneCell', idxA, nilA, cellsEq, fillA, elemsA, pure1, pure2, reps, chkA, tys, Tryd.results13, KX_draw, KX_drawQ, KX_tail, lastO_one, lastO_more, dropL_one, dropL_more, callP_eq, callM_true, e2, e3, e6, e7, List.length_map, d1]
end
end Go.Proofs.YtkghgdkkholieaaDoor
/-
  The terms of forms, by the program.
-/

namespace Go.Proofs.YtkghgdkkholieaaDoor
open Go
theorem slice_tail (l : List (List AV)) (rest : List PT) (x0 : PT) (h : l = predC x0 :: rest.map predC) {c : Cap} : sliceA Tryd.prog 23 (.frz l c) (some (.prim (.int .i64 1))) none none = some (.frz (rest.map predC) .unk) := by
  have hz : (elemOf Tryd.prog 23).bind (szOf Tryd.prog) = some 4 := by kernel_rfl
  subst h
  have hr : rowsOk 4 (predC x0 :: rest.map predC) = true := rowsOk_map (f := predC) (sz := 4) predC_len (x0 :: rest)
  have ht : (rest.map predC).take rest.length = rest.map predC := List.take_of_length_le (by simp)
  simp [sliceA, hz, hr, bound, intN, ht]
section
variable (S : List Ent) (tk : List Nat) (k : Nat)
set_option maxRecDepth 100000 in
set_option maxHeartbeats 4000000 in
theorem linear_Pred (cs : List (ByteArray × Int)) (n : Int) (hlen : cs.length ≤ 100000) : cL Tryd.prog 12 [linA cs n] S tk k = some (.agg (predC (termF cs n)), S, tk, k) := by
  have hC := fun S tk k => linear_Check S tk k cs n (by omega)
  simp only [linA, coefsA] at hC
  rw [predC_cells]
  refine call_pure Tryd.func12 rfl rfl (by decide +kernel) (by decide +kernel) Tryd.ntmps12 rfl rfl _ _ _ rfl ?_; rw [RK_KX]
  unfold termF
  by_cases hc : checkF cs n = 0
  case neg =>
    have d : (checkF cs n != 0) = true := by simpa using hc
    simp (maxSteps := 1000000) +contextual (disch := first | with_reducible assumption | exact ⟨rfl⟩ | exact ⟨rfl, rfl⟩ | (refine _root_.id ?_; kernel_rfl) | omega) only [evs, ext_mv, nth, put, putT, getT, binInt, binStr, binBool, aUn, outA, resA, mapO, resA1, oneOf, w1, w2, w3, bots, cond_true, cond_false, if_true, if_false, ite_true, ite_false, reduceIte, reduceCtorEq, implies_true, Nat.reduceAdd, Nat.reduceSub, AV.int, AV.bool, AV.str, Nat.reduceBEq, Nat.reduceEqDiff, Nat.reduceMul, Nat.reduceLT, Nat.reduceLeDiff, Int.reduceNeg, BEq.rfl, beq_self_eq_true, tabl, cellsOf, fldA, ldA, stA, entAt, partA, takeN, over, leafOk, Value.oneCell', idxA, nilA, cellsEq, fillA, elemsA, pure1, pure2, reps, chkA, tys, Tryd.results12, KX_draw, KX_drawQ, KX_tail, lastO_one, lastO_more, dropL_one, dropL_more, callP_eq, callM_true, linA, coefsA, hC, d]
    rw [if_neg hc]; simp [PT.op, PT.name, PT.n, PT.kids, kidsC]
  have d : (checkF cs n != 0) = false := by simpa using hc
  rw [if_pos hc]
  simp (maxSteps := 1000000) +contextual (disch := first | with_reducible assumption | exact ⟨rfl⟩ | exact ⟨rfl, rfl⟩ | (refine _root_.id ?_; kernel_rfl) | omega) only [evs, ext_mv, nth, put, putT, getT, binInt, binStr, binBool, aUn, outA, resA, mapO, resA1, oneOf, w1, w2, w3, bots, cond_true, cond_false, if_true, if_false, ite_true, ite_false, reduceIte, reduceCtorEq, implies_true, Nat.reduceAdd, Nat.reduceSub, AV.int, AV.bool, AV.str, Nat.reduceBEq, Nat.reduceEqDiff, Nat.reduceMul, Nat.reduceLT, Nat.reduceLeDiff, Int.reduceNeg, BEq.rfl, beq_self_eq_true, tabl, cellsOf, fldA, ldA, stA, entAt, partA, takeN, over, leafOk, Value.oneCell', idxA, nilA, cellsEq, fillA, elemsA, pure1, pure2, reps, chkA, tys, Tryd.results12, KX_draw, KX_drawQ, KX_tail, lastO_one, lastO_more, dropL_one, dropL_more, callP_eq, callM_true, linA, coefsA, hC, d]
  have hl24 := (check_ok hc).2.2
  generalize hT : sumL (partsF cs n) = T
  clear d hC hc
  refine loop1 (P := Tryd.prog) (fun x st => st.T.length = 68 ∧ (x.1 ≤ cs.length) ∧ (okCap st.tk x.2.2 4 = true) ∧ (x.2.1 = (cs.take x.1).map partT) ∧ getT st.T 1 = .ref 0 0 0 ∧ getT st.T 2 = .ref 1 1 0 ∧ getT st.T 3 = .frz (x.2.1.map predC) x.2.2 ∧ getT st.T 15 = .frz (cs.map coefC) .unk ∧ getT st.T 16 = .int (cs.length : Nat) ∧ getT st.T 17 = .int (x.1 : Nat) ∧ st.S = [⟨0, [.frz (cs.map coefC) .unk, .int n]⟩, ⟨1, [.int 0, .str bE, .int 0, .frz [] .nilc]⟩]) (fun x => cs.length - x.1) (fun x => .agg [.prim (.int .i64 T.op), .prim (.string T.name), .prim (.int .i64 T.n), .frz (kidsC T.kids) .unk]) (0, [], .nilc) ?_ ?_
  case refine_2 => exact ⟨rfl, Nat.zero_le _, rfl, rfl, rfl, rfl, rfl, rfl, rfl, rfl, rfl⟩
  rintro ⟨i, ps, c⟩ ⟨T, S', tk', n'⟩ ⟨hl, hi, hok, hm, e1, e2, e3, e15, e16, e17, eS⟩ IH
  simp only at hi hok hm e1 e2 e3 e15 e16 e17 eS
  subst eS
  obtain ⟨g, hg, hT⟩ := tab_of hl
  rw [hg] at e1 e2 e3 e15 e16 e17
  subst hT
  clear hg hl
  have hr := rowsOk_map (f := predC) (sz := 4) predC_len ps
  have hpl : ps.length = i := by rw [hm]; simp; omega
  have hn : (ps.map predC).length + 1 ≤ 1048576 := by simp; omega
  have hok' := okCap_new hok
  by_cases la : i < cs.length
  · have d1 : decide ((i : Int) < (cs.length : Int)) = true := by simpa using la
    obtain ⟨x, hx⟩ := nth_some la
    have hx' : nth (cs.map coefC) i = some (coefC x) := by rw [nth_map, hx]; rfl
    have hw := wrap_add (i := i) (m := 0) (by omega)
    have htk : (cs.take (i + 1)).map partT = ps ++ [partT x] := by rw [take_succ_nth hx, List.map_append, hm]; rfl
    by_cases h1 : x.2 = 1
    · have d2 : (x.2 != 1) = false := by simpa using h1
      have hp : partT x = .node 3 x.1 0 [] := by unfold partT; rw [if_pos h1]
      rw [hp] at htk
      simp (maxSteps := 1000000) +contextual (disch := first | with_reducible assumption | exact ⟨rfl⟩ | exact ⟨rfl, rfl⟩ | (refine _root_.id ?_; kernel_rfl) | omega) only [evs, ext_mv, nth, put, putT, getT, binInt, binStr, binBool, aUn, outA, resA, mapO, resA1, oneOf, w1, w2, w3, bots, cond_true, cond_false, if_true, if_false, ite_true, ite_false, reduceIte, reduceCtorEq, implies_true, Nat.reduceAdd, Nat.reduceSub, AV.int, AV.bool, AV.str, Nat.reduceBEq, Nat.reduceEqDiff, Nat.reduceMul, Nat.reduceLT, Nat.reduceLeDiff, Int.reduceNeg, BEq.rfl, beq_self_eq_true, tabl, cellsOf, fldA, ldA, stA, entAt, partA, takeN, over, leafOk, Value.oneCell', idxA, nilA, cellsEq, fillA, elemsA, pure1, pure2, reps, chkA, tys, Tryd.results12, KX_draw, KX_drawQ, KX_tail, lastO_one, lastO_more, dropL_one, dropL_more, callP_eq, callM_true, e1, e2, e3, e15, e16, e17, d1, d2, hx', hw, coefC, hr]
      exact IH (i + 1, ps ++ [.node 3 x.1 0 []], capNew tk' c 4) _ (by first | omega | (simp only; omega)) ⟨rfl, la, hok', htk.symm, (by first | rfl | simp only [getT, List.map_append, List.map_cons, List.map_nil, predC, kidsC]), (by first | rfl | simp only [getT, List.map_append, List.map_cons, List.map_nil, predC, kidsC]), (by first | rfl | simp only [getT, List.map_append, List.map_cons, List.map_nil, predC, kidsC]), (by first | rfl | simp only [getT, List.map_append, List.map_cons, List.map_nil, predC, kidsC]), (by first | rfl | simp only [getT, List.map_append, List.map_cons, List.map_nil, predC, kidsC]), (by first | rfl | simp only [getT, List.map_append, List.map_cons, List.map_nil, predC, kidsC]), (by first | rfl | simp only [getT, List.map_append, List.map_cons, List.map_nil, predC, kidsC])⟩
    · have d2 : (x.2 != 1) = true := by simpa using h1
      have hp : partT x = .node 8 bE 0 [.node 1 bE x.2 [], .node 3 x.1 0 []] := by unfold partT; rw [if_neg h1]
      rw [hp] at htk
      simp (maxSteps := 1000000) +contextual (disch := first | with_reducible assumption | exact ⟨rfl⟩ | exact ⟨rfl, rfl⟩ | (refine _root_.id ?_; kernel_rfl) | omega) only [evs, ext_mv, nth, put, putT, getT, binInt, binStr, binBool, aUn, outA, resA, mapO, resA1, oneOf, w1, w2, w3, bots, cond_true, cond_false, if_true, if_false, ite_true, ite_false, reduceIte, reduceCtorEq, implies_true, Nat.reduceAdd, Nat.reduceSub, AV.int, AV.bool, AV.str, Nat.reduceBEq, Nat.reduceEqDiff, Nat.reduceMul, Nat.reduceLT, Nat.reduceLeDiff, Int.reduceNeg, BEq.rfl, beq_self_eq_true, tabl, cellsOf, fldA, ldA, stA, entAt, partA, takeN, over, leafOk, Value.oneCell', idxA, nilA, cellsEq, fillA, elemsA, pure1, pure2, reps, chkA, tys, Tryd.results12, KX_draw, KX_drawQ, KX_tail, lastO_one, lastO_more, dropL_one, dropL_more, callP_eq, callM_true, e1, e2, e3, e15, e16, e17, d1, d2, hx', hw, coefC, hr]
      exact IH (i + 1, ps ++ [.node 8 bE 0 [.node 1 bE x.2 [], .node 3 x.1 0 []]], capNew tk' c 4) _ (by first | omega | (simp only; omega)) ⟨rfl, la, hok', htk.symm, (by first | rfl | simp only [getT, List.map_append, List.map_cons, List.map_nil, predC, kidsC]), (by first | rfl | simp only [getT, List.map_append, List.map_cons, List.map_nil, predC, kidsC]), (by first | rfl | simp only [getT, List.map_append, List.map_cons, List.map_nil, predC, kidsC]), (by first | rfl | simp only [getT, List.map_append, List.map_cons, List.map_nil, predC, kidsC]), (by first | rfl | simp only [getT, List.map_append, List.map_cons, List.map_nil, predC, kidsC]), (by first | rfl | simp only [getT, List.map_append, List.map_cons, List.map_nil, predC, kidsC]), (by first | rfl | simp only [getT, List.map_append, List.map_cons, List.map_nil, predC, kidsC])⟩
  · have d1 : decide ((i : Int) < (cs.length : Int)) = false := by simpa using la
    have he : i = cs.length := by omega
    have hps : ps = cs.map partT := by rw [hm, he, List.take_length]
    clear IH
    generalize hfull : partsF cs n = full at *
    have hfne := partsF_ne cs n
    have hfl := partsF_len cs n
    rw [hfull] at hfne hfl
    obtain ⟨x0, rest, hx0⟩ := hfne
    have hrl : rest.length ≤ cs.length := by rw [hx0] at hfl; simp at hfl; omega
    have hx0' : nth (full.map predC) 0 = some (predC x0) := by rw [hx0]; rfl
    have hT2 : sumF x0 rest = T := by rw [← hT, hx0]; rfl
    have hsl := fun c => slice_tail (c := c) (full.map predC) rest x0 (by rw [hx0]; rfl)
    by_cases hadd : n ≠ 0 ∨ cs = []
    · have hf2 : full = ps ++ [.node 1 bE n []] := by rw [← hfull, hps]; unfold partsF; rw [if_pos hadd]
      have hfm : full.map predC = ps.map predC ++ [[.prim (.int .i64 1), .prim (.string bE), .prim (.int .i64 n), .frz [] .unk]] := by rw [hf2, List.map_append]; rfl
      have hlen1 : 1 ≤ full.length := by rw [hf2]; simp
      rw [predC_cells, hfm] at hx0'
      simp only [hfm] at hsl
      by_cases hn0 : n = 0
      · have d2 : (n != 0) = false := by simpa using hn0
        have hcs : cs = [] := hadd.resolve_left (by simp [hn0])
        have d3 : (((ps.length : Nat) : Int) == 0) = true := by rw [hps, hcs]; rfl
        simp (maxSteps := 1000000) +contextual (disch := first | with_reducible assumption | exact ⟨rfl⟩ | exact ⟨rfl, rfl⟩ | (refine _root_.id ?_; kernel_rfl) | omega) only [evs, ext_mv, nth, put, putT, getT, binInt, binStr, binBool, aUn, outA, resA, mapO, resA1, oneOf, w1, w2, w3, bots, cond_true, cond_false, if_true, if_false, ite_true, ite_false, reduceIte, reduceCtorEq, implies_true, Nat.reduceAdd, Nat.reduceSub, AV.int, AV.bool, AV.str, Nat.reduceBEq, Nat.reduceEqDiff, Nat.reduceMul, Nat.reduceLT, Nat.reduceLeDiff, Int.reduceNeg, BEq.rfl, beq_self_eq_true, tabl, cellsOf, fldA, ldA, stA, entAt, partA, takeN, over, leafOk, Value.oneCell', idxA, nilA, cellsEq, fillA, elemsA, pure1, pure2, reps, chkA, tys, Tryd.results12, KX_draw, KX_drawQ, KX_tail, lastO_one, lastO_more, dropL_one, dropL_more, callP_eq, callM_true, e1, e2, e3, e15, e16, e17, d1, d2, d3, hr, hx0', hsl, List.length_map]
        generalize n' = ep
        clear hx0 hx0' hsl hfm hr hn hok' hok hm hpl hps hT hfull
        refine loop1 (P := Tryd.prog) (fun x st => st.T.length = 68 ∧ (x.1 ≤ rest.length) ∧ (sumF x.2.1 (rest.drop x.1) = T) ∧ getT st.T 2 = .ref 1 1 0 ∧ getT st.T 7 = .ref 2 ep 0 ∧ getT st.T 56 = .frz (rest.map predC) .unk ∧ getT st.T 57 = .int (rest.length : Nat) ∧ getT st.T 58 = .int (x.1 : Nat) ∧ st.S = [⟨0, [.frz (cs.map coefC) .unk, .int n]⟩, ⟨1, [.int 0, .str bE, .int 0, .frz [] .nilc]⟩, ⟨ep, [.prim (.int .i64 x.2.1.op), .prim (.string x.2.1.name), .prim (.int .i64 x.2.1.n), .frz (kidsC x.2.1.kids) x.2.2]⟩]) (fun x => rest.length - x.1) (fun x => .agg [.prim (.int .i64 T.op), .prim (.string T.name), .prim (.int .i64 T.n), .frz (kidsC T.kids) .unk]) (0, x0, .unk) ?_ ?_
        case refine_2 => exact ⟨rfl, Nat.zero_le _, hT2, rfl, rfl, rfl, rfl, rfl, rfl⟩
        rintro ⟨j, x, c2⟩ ⟨T, S', tk', n'⟩ ⟨hl, hj2, hs, e2, e7, e56, e57, e58, eS⟩ IH
        simp only at hj2 hs e2 e7 e56 e57 e58 eS
        subst eS
        obtain ⟨g, hg, hT⟩ := tab_of hl
        rw [hg] at e2 e7 e56 e57 e58
        subst hT
        clear hg hl
        by_cases lj : j < rest.length
        · have d1 : decide ((j : Int) < (rest.length : Int)) = true := by simpa using lj
          obtain ⟨y, hy⟩ := nth_some lj
          have hy' : nth (rest.map predC) j = some (predC y) := by rw [nth_map, hy]; rfl
          have hw := wrap_add (i := j) (m := 0) (by omega)
          rw [predC_cells] at hy'
          rw [nth_drop hy] at hs
          simp only [sumF] at hs
          simp (maxSteps := 1000000) +contextual (disch := first | with_reducible assumption | exact ⟨rfl⟩ | exact ⟨rfl, rfl⟩ | (refine _root_.id ?_; kernel_rfl) | omega) only [evs, ext_mv, nth, put, putT, getT, binInt, binStr, binBool, aUn, outA, resA, mapO, resA1, oneOf, w1, w2, w3, bots, cond_true, cond_false, if_true, if_false, ite_true, ite_false, reduceIte, reduceCtorEq, implies_true, Nat.reduceAdd, Nat.reduceSub, AV.int, AV.bool, AV.str, Nat.reduceBEq, Nat.reduceEqDiff, Nat.reduceMul, Nat.reduceLT, Nat.reduceLeDiff, Int.reduceNeg, BEq.rfl, beq_self_eq_true, tabl, cellsOf, fldA, ldA, stA, entAt, partA, takeN, over, leafOk, Value.oneCell', idxA, nilA, cellsEq, fillA, elemsA, pure1, pure2, reps, chkA, tys, Tryd.results12, KX_draw, KX_drawQ, KX_tail, lastO_one, lastO_more, dropL_one, dropL_more, callP_eq, callM_true, e2, e7, e56, e57, e58, List.length_map, d1, hy', hw]
          refine IH (j + 1, .node 6 bE 0 [x, y], .tight) _ (by simp only; omega) ⟨rfl, lj, hs, rfl, rfl, rfl, rfl, rfl, ?_⟩
          simp [PT.op, PT.name, PT.n, PT.kids, kidsC, predC_cells]
        · have d1 : decide ((j : Int) < (rest.length : Int)) = false := by simpa using lj
          have he : j = rest.length := by omega
          rw [he, List.drop_length] at hs
          simp only [sumF] at hs
          subst hs
          simp (maxSteps := 1000000) +contextual (disch := first | with_reducible assumption | exact ⟨rfl⟩ | exact ⟨rfl, rfl⟩ | (refine _root_.id ?_; kernel_rfl) | omega) only [evs, ext_mv, nth, put, putT, getT, binInt, binStr, binBool, aUn, outA, resA, mapO, resA1, oneOf, w1, w2, w3, bots, cond_true, cond_false, if_true, if_false, ite_true, ite_false, reduceIte, reduceCtorEq, implies_true, Nat.reduceAdd, Nat.reduceSub, AV.int, AV.bool, AV.str, Nat.reduceBEq, Nat.reduceEqDiff, Nat.reduceMul, Nat.reduceLT, Nat.reduceLeDiff, Int.reduceNeg, BEq.rfl, beq_self_eq_true, tabl, cellsOf, fldA, ldA, stA, entAt, partA, takeN, over, leafOk, Value.oneCell', idxA, nilA, cellsEq, fillA, elemsA, pure1, pure2, reps, chkA, tys, Tryd.results12, KX_draw, KX_drawQ, KX_tail, lastO_one, lastO_more, dropL_one, dropL_more, callP_eq, callM_true, e2, e7, e56, e57, e58, List.length_map, d1]
      · have d2 : (n != 0) = true := by simpa using hn0
        simp (maxSteps := 1000000) +contextual (disch := first | with_reducible assumption | exact ⟨rfl⟩ | exact ⟨rfl, rfl⟩ | (refine _root_.id ?_; kernel_rfl) | omega) only [evs, ext_mv, nth, put, putT, getT, binInt, binStr, binBool, aUn, outA, resA, mapO, resA1, oneOf, w1, w2, w3, bots, cond_true, cond_false, if_true, if_false, ite_true, ite_false, reduceIte, reduceCtorEq, implies_true, Nat.reduceAdd, Nat.reduceSub, AV.int, AV.bool, AV.str, Nat.reduceBEq, Nat.reduceEqDiff, Nat.reduceMul, Nat.reduceLT, Nat.reduceLeDiff, Int.reduceNeg, BEq.rfl, beq_self_eq_true, tabl, cellsOf, fldA, ldA, stA, entAt, partA, takeN, over, leafOk, Value.oneCell', idxA, nilA, cellsEq, fillA, elemsA, pure1, pure2, reps, chkA, tys, Tryd.results12, KX_draw, KX_drawQ, KX_tail, lastO_one, lastO_more, dropL_one, dropL_more, callP_eq, callM_true, e1, e2, e3, e15, e16, e17, d1, d2, hr, hx0', hsl, List.length_map]
        generalize n' = ep
        clear hx0 hx0' hsl hfm hr hn hok' hok hm hpl hps hT hfull
        refine loop1 (P := Tryd.prog) (fun x st => st.T.length = 68 ∧ (x.1 ≤ rest.length) ∧ (sumF x.2.1 (rest.drop x.1) = T) ∧ getT st.T 2 = .ref 1 1 0 ∧ getT st.T 7 = .ref 2 ep 0 ∧ getT st.T 56 = .frz (rest.map predC) .unk ∧ getT st.T 57 = .int (rest.length : Nat) ∧ getT st.T 58 = .int (x.1 : Nat) ∧ st.S = [⟨0, [.frz (cs.map coefC) .unk, .int n]⟩, ⟨1, [.int 0, .str bE, .int 0, .frz [] .nilc]⟩, ⟨ep, [.prim (.int .i64 x.2.1.op), .prim (.string x.2.1.name), .prim (.int .i64 x.2.1.n), .frz (kidsC x.2.1.kids) x.2.2]⟩]) (fun x => rest.length - x.1) (fun x => .agg [.prim (.int .i64 T.op), .prim (.string T.name), .prim (.int .i64 T.n), .frz (kidsC T.kids) .unk]) (0, x0, .unk) ?_ ?_
        case refine_2 => exact ⟨rfl, Nat.zero_le _, hT2, rfl, rfl, rfl, rfl, rfl, rfl⟩
        rintro ⟨j, x, c2⟩ ⟨T, S', tk', n'⟩ ⟨hl, hj2, hs, e2, e7, e56, e57, e58, eS⟩ IH
        simp only at hj2 hs e2 e7 e56 e57 e58 eS
        subst eS
        obtain ⟨g, hg, hT⟩ := tab_of hl
        rw [hg] at e2 e7 e56 e57 e58
        subst hT
        clear hg hl
        by_cases lj : j < rest.length
        · have d1 : decide ((j : Int) < (rest.length : Int)) = true := by simpa using lj
          obtain ⟨y, hy⟩ := nth_some lj
          have hy' : nth (rest.map predC) j = some (predC y) := by rw [nth_map, hy]; rfl
          have hw := wrap_add (i := j) (m := 0) (by omega)
          rw [predC_cells] at hy'
          rw [nth_drop hy] at hs
          simp only [sumF] at hs
          simp (maxSteps := 1000000) +contextual (disch := first | with_reducible assumption | exact ⟨rfl⟩ | exact ⟨rfl, rfl⟩ | (refine _root_.id ?_; kernel_rfl) | omega) only [evs, ext_mv, nth, put, putT, getT, binInt, binStr, binBool, aUn, outA, resA, mapO, resA1, oneOf, w1, w2, w3, bots, cond_true, cond_false, if_true, if_false, ite_true, ite_false, reduceIte, reduceCtorEq, implies_true, Nat.reduceAdd, Nat.reduceSub, AV.int, AV.bool, AV.str, Nat.reduceBEq, Nat.reduceEqDiff, Nat.reduceMul, Nat.reduceLT, Nat.reduceLeDiff, Int.reduceNeg, BEq.rfl, beq_self_eq_true, tabl, cellsOf, fldA, ldA, stA, entAt, partA, takeN, over, leafOk, Value.oneCell', idxA, nilA, cellsEq, fillA, elemsA, pure1, pure2, reps, chkA, tys, Tryd.results12, KX_draw, KX_drawQ, KX_tail, lastO_one, lastO_more, dropL_one, dropL_more, callP_eq, callM_true, e2, e7, e56, e57, e58, List.length_map, d1, hy', hw]
          refine IH (j + 1, .node 6 bE 0 [x, y], .tight) _ (by simp only; omega) ⟨rfl, lj, hs, rfl, rfl, rfl, rfl, rfl, ?_⟩
          simp [PT.op, PT.name, PT.n, PT.kids, kidsC, predC_cells]
        · have d1 : decide ((j : Int) < (rest.length : Int)) = false := by simpa using lj
          have he : j = rest.length := by omega
          rw [he, List.drop_length] at hs
          simp only [sumF] at hs
          subst hs
          simp (maxSteps := 1000000) +contextual (disch := first | with_reducible assumption | exact ⟨rfl⟩ | exact ⟨rfl, rfl⟩ | (refine _root_.id ?_; kernel_rfl) | omega) only [evs, ext_mv, nth, put, putT, getT, binInt, binStr, binBool, aUn, outA, resA, mapO, resA1, oneOf, w1, w2, w3, bots, cond_true, cond_false, if_true, if_false, ite_true, ite_false, reduceIte, reduceCtorEq, implies_true, Nat.reduceAdd, Nat.reduceSub, AV.int, AV.bool, AV.str, Nat.reduceBEq, Nat.reduceEqDiff, Nat.reduceMul, Nat.reduceLT, Nat.reduceLeDiff, Int.reduceNeg, BEq.rfl, beq_self_eq_true, tabl, cellsOf, fldA, ldA, stA, entAt, partA, takeN, over, leafOk, Value.oneCell', idxA, nilA, cellsEq, fillA, elemsA, pure1, pure2, reps, chkA, tys, Tryd.results12, KX_draw, KX_drawQ, KX_tail, lastO_one, lastO_more, dropL_one, dropL_more, callP_eq, callM_true, e2, e7, e56, e57, e58, List.length_map, d1]
    · have hn0 : n = 0 := by
        by_cases h : n = 0
        · exact h
        · exact absurd (.inl h) hadd
      have hcs : cs ≠ [] := fun h => hadd (.inr h)
      have hf2 : full = ps := by rw [← hfull, hps]; unfold partsF; rw [if_neg hadd]
      have d2 : (n != 0) = false := by simpa using hn0
      have d3 : (((ps.length : Nat) : Int) == 0) = false := by
        have : 0 < cs.length := List.length_pos_iff.2 hcs
        rw [Bool.beq_eq_decide_eq]; exact decide_eq_false (by omega)
      rw [predC_cells, hf2] at hx0'
      simp only [hf2] at hsl
      simp (maxSteps := 1000000) +contextual (disch := first | with_reducible assumption | exact ⟨rfl⟩ | exact ⟨rfl, rfl⟩ | (refine _root_.id ?_; kernel_rfl) | omega) only [evs, ext_mv, nth, put, putT, getT, binInt, binStr, binBool, aUn, outA, resA, mapO, resA1, oneOf, w1, w2, w3, bots, cond_true, cond_false, if_true, if_false, ite_true, ite_false, reduceIte, reduceCtorEq, implies_true, Nat.reduceAdd, Nat.reduceSub, AV.int, AV.bool, AV.str, Nat.reduceBEq, Nat.reduceEqDiff, Nat.reduceMul, Nat.reduceLT, Nat.reduceLeDiff, Int.reduceNeg, BEq.rfl, beq_self_eq_true, tabl, cellsOf, fldA, ldA, stA, entAt, partA, takeN, over, leafOk, Value.oneCell', idxA, nilA, cellsEq, fillA, elemsA, pure1, pure2, reps, chkA, tys, Tryd.results12, KX_draw, KX_drawQ, KX_tail, lastO_one, lastO_more, dropL_one, dropL_more, callP_eq, callM_true, e1, e2, e3, e15, e16, e17, d1, d2, d3, hr, hx0', hsl, List.length_map]
      have hfm : ps.map predC = full.map predC := by rw [hf2]
      have hlen1 : 1 ≤ full.length := by rw [hf2, hpl, he]; exact List.length_pos_iff.2 hcs
      generalize n' = ep
      clear hx0 hx0' hsl hfm hr hn hok' hok hm hpl hps hT hfull
      refine loop1 (P := Tryd.prog) (fun x st => st.T.length = 68 ∧ (x.1 ≤ rest.length) ∧ (sumF x.2.1 (rest.drop x.1) = T) ∧ getT st.T 2 = .ref 1 1 0 ∧ getT st.T 7 = .ref 2 ep 0 ∧ getT st.T 56 = .frz (rest.map predC) .unk ∧ getT st.T 57 = .int (rest.length : Nat) ∧ getT st.T 58 = .int (x.1 : Nat) ∧ st.S = [⟨0, [.frz (cs.map coefC) .unk, .int n]⟩, ⟨1, [.int 0, .str bE, .int 0, .frz [] .nilc]⟩, ⟨ep, [.prim (.int .i64 x.2.1.op), .prim (.string x.2.1.name), .prim (.int .i64 x.2.1.n), .frz (kidsC x.2.1.kids) x.2.2]⟩]) (fun x => rest.length - x.1) (fun x => .agg [.prim (.int .i64 T.op), .prim (.string T.name), .prim (.int .i64 T.n), .frz (kidsC T.kids) .unk]) (0, x0, .unk) ?_ ?_
      case refine_2 => exact ⟨rfl, Nat.zero_le _, hT2, rfl, rfl, rfl, rfl, rfl, rfl⟩
      rintro ⟨j, x, c2⟩ ⟨T, S', tk', n'⟩ ⟨hl, hj2, hs, e2, e7, e56, e57, e58, eS⟩ IH
      simp only at hj2 hs e2 e7 e56 e57 e58 eS
      subst eS
      obtain ⟨g, hg, hT⟩ := tab_of hl
      rw [hg] at e2 e7 e56 e57 e58
      subst hT
      clear hg hl
      by_cases lj : j < rest.length
      · have d1 : decide ((j : Int) < (rest.length : Int)) = true := by simpa using lj
        obtain ⟨y, hy⟩ := nth_some lj
        have hy' : nth (rest.map predC) j = some (predC y) := by rw [nth_map, hy]; rfl
        have hw := wrap_add (i := j) (m := 0) (by omega)
        rw [predC_cells] at hy'
        rw [nth_drop hy] at hs
        simp only [sumF] at hs
        simp (maxSteps := 1000000) +contextual (disch := first | with_reducible assumption | exact ⟨rfl⟩ | exact ⟨rfl, rfl⟩ | (refine _root_.id ?_; kernel_rfl) | omega) only [evs, ext_mv, nth, put, putT, getT, binInt, binStr, binBool, aUn, outA, resA, mapO, resA1, oneOf, w1, w2, w3, bots, cond_true, cond_false, if_true, if_false, ite_true, ite_false, reduceIte, reduceCtorEq, implies_true, Nat.reduceAdd, Nat.reduceSub, AV.int, AV.bool, AV.str, Nat.reduceBEq, Nat.reduceEqDiff, Nat.reduceMul, Nat.reduceLT, Nat.reduceLeDiff, Int.reduceNeg, BEq.rfl, beq_self_eq_true, tabl, cellsOf, fldA, ldA, stA, entAt, partA, takeN, over, leafOk, Value.oneCell', idxA, nilA, cellsEq, fillA, elemsA, pure1, pure2, reps, chkA, tys, Tryd.results12, KX_draw, KX_drawQ, KX_tail, lastO_one, lastO_more, dropL_one, dropL_more, callP_eq, callM_true, e2, e7, e56, e57, e58, List.length_map, d1, hy', hw]
        refine IH (j + 1, .node 6 bE 0 [x, y], .tight) _ (by simp only; omega) ⟨rfl, lj, hs, rfl, rfl, rfl, rfl, rfl, ?_⟩
        simp [PT.op, PT.name, PT.n, PT.kids, kidsC, predC_cells]
      · have d1 : decide ((j : Int) < (rest.length : Int)) = false := by simpa using lj
        have he : j = rest.length := by omega
        rw [he, List.drop_length] at hs
        simp only [sumF] at hs
        subst hs
        simp (maxSteps := 1000000) +contextual (disch := first | with_reducible assumption | exact ⟨rfl⟩ | exact ⟨rfl, rfl⟩ | (refine _root_.id ?_; kernel_rfl) | omega) only [evs, ext_mv, nth, put, putT, getT, binInt, binStr, binBool, aUn, outA, resA, mapO, resA1, oneOf, w1, w2, w3, bots, cond_true, cond_false, if_true, if_false, ite_true, ite_false, reduceIte, reduceCtorEq, implies_true, Nat.reduceAdd, Nat.reduceSub, AV.int, AV.bool, AV.str, Nat.reduceBEq, Nat.reduceEqDiff, Nat.reduceMul, Nat.reduceLT, Nat.reduceLeDiff, Int.reduceNeg, BEq.rfl, beq_self_eq_true, tabl, cellsOf, fldA, ldA, stA, entAt, partA, takeN, over, leafOk, Value.oneCell', idxA, nilA, cellsEq, fillA, elemsA, pure1, pure2, reps, chkA, tys, Tryd.results12, KX_draw, KX_drawQ, KX_tail, lastO_one, lastO_more, dropL_one, dropL_more, callP_eq, callM_true, e2, e7, e56, e57, e58, List.length_map, d1]
end
end Go.Proofs.YtkghgdkkholieaaDoor
/-
  A predicate is equal to itself, by the reference.
-/


namespace Go.Proofs.YtkghgdkkholieaaDoor
open Go
theorem sEq_refl (s : ByteArray) : sEq s s = true := by simp [sEq]
section
variable (S : List Ent) (tk : List Nat) (k : Nat)
theorem Same_step (o : Int) (s : ByteArray) (n : Int) (ks : List PT) (hn : nodesP (.node o s n ks) ≤ 100000) (ih : ∀ q ∈ ks, ∀ S tk k, cL Tryd.prog 11 [.agg (predC q), .agg (predC q)] S tk k = some (.bool true, S, tk, k)) :
    cL Tryd.prog 11 [.agg (predC (.node o s n ks)), .agg (predC (.node o s n ks))] S tk k = some (.bool true, S, tk, k) := by
  simp only [nodesP] at hn
  have hlen := nodes_kids ks
  have f1 : (o != o) = false := by simp
  have f2 := sEq_refl s
  have f3 : (n != n) = false := by simp
  have f4 : ((ks.length : Int) != (ks.length : Int)) = false := by simp
  refine call_pure Tryd.func11 rfl rfl (by decide +kernel) (by decide +kernel) Tryd.ntmps11 rfl rfl _ _ _ rfl ?_; rw [RK_KX]
  simp (maxSteps := 1000000) +contextual (disch := first | with_reducible assumption | exact ⟨rfl⟩ | exact ⟨rfl, rfl⟩ | (refine _root_.id ?_; kernel_rfl) | omega) only [evs, ext_mv, nth, put, putT, getT, binInt, binStr, binBool, aUn, outA, resA, mapO, resA1, oneOf, w1, w2, w3, bots, cond_true, cond_false, if_true, if_false, ite_true, ite_false, reduceIte, reduceCtorEq, implies_true, Nat.reduceAdd, Nat.reduceSub, AV.int, AV.bool, AV.str, Nat.reduceBEq, Nat.reduceEqDiff, Nat.reduceMul, Nat.reduceLT, Nat.reduceLeDiff, Int.reduceNeg, BEq.rfl, beq_self_eq_true, tabl, cellsOf, fldA, ldA, stA, entAt, partA, takeN, over, leafOk, Value.oneCell', idxA, nilA, cellsEq, fillA, elemsA, pure1, pure2, reps, chkA, tys, Tryd.results11, KX_draw, KX_drawQ, KX_tail, lastO_one, lastO_more, dropL_one, dropL_more, callP_eq, callM_true, predC, kidsC_length, f1, f2, f3, f4]
  refine loop1 (P := Tryd.prog) (fun x st => st.T.length = 53 ∧ (x ≤ ks.length) ∧ getT st.T 2 = .ref 0 0 0 ∧ getT st.T 3 = .ref 1 1 0 ∧ getT st.T 36 = .int (ks.length : Nat) ∧ getT st.T 37 = .int (x : Nat) ∧ st.S = [⟨0, [.prim (.int .i64 o), .prim (.string s), .prim (.int .i64 n), .frz (kidsC ks) .unk]⟩, ⟨1, [.prim (.int .i64 o), .prim (.string s), .prim (.int .i64 n), .frz (kidsC ks) .unk]⟩]) (fun x => ks.length - x) (fun x => .bool true) (0) ?_ ?_
  case refine_2 => exact ⟨rfl, Nat.zero_le _, rfl, rfl, rfl, rfl, rfl⟩
  rintro j ⟨T, S', tk', n'⟩ ⟨hl, hj, e2, e3, e36, e37, eS⟩ IH
  subst eS
  obtain ⟨g, hg, hT⟩ := tab_of hl
  rw [hg] at e2 e3 e36 e37
  subst hT
  clear hg hl
  by_cases hlt : j < ks.length
  · have d1 : decide ((j : Int) < (ks.length : Int)) = true := by simpa using hlt
    obtain ⟨q, hq⟩ := nth_some hlt
    have hq' := nth_kids hq
    have hw := wrap_add (i := j) (m := 0) (by omega)
    have hN := ih q (nth_mem hq)
    rw [predC_cells] at hN hq'
    simp (maxSteps := 1000000) +contextual (disch := first | with_reducible assumption | exact ⟨rfl⟩ | exact ⟨rfl, rfl⟩ | (refine _root_.id ?_; kernel_rfl) | omega) only [evs, ext_mv, nth, put, putT, getT, binInt, binStr, binBool, aUn, outA, resA, mapO, resA1, oneOf, w1, w2, w3, bots, cond_true, cond_false, if_true, if_false, ite_true, ite_false, reduceIte, reduceCtorEq, implies_true, Nat.reduceAdd, Nat.reduceSub, AV.int, AV.bool, AV.str, Nat.reduceBEq, Nat.reduceEqDiff, Nat.reduceMul, Nat.reduceLT, Nat.reduceLeDiff, Int.reduceNeg, BEq.rfl, beq_self_eq_true, tabl, cellsOf, fldA, ldA, stA, entAt, partA, takeN, over, leafOk, Value.oneCell', idxA, nilA, cellsEq, fillA, elemsA, pure1, pure2, reps, chkA, tys, Tryd.results11, KX_draw, KX_drawQ, KX_tail, lastO_one, lastO_more, dropL_one, dropL_more, callP_eq, callM_true, e2, e3, e36, e37, d1, hq', hw, hN]
    exact IH (j + 1) _ (by first | omega | (simp only; omega)) ⟨rfl, hlt, rfl, rfl, rfl, rfl, rfl⟩
  · have d1 : decide ((j : Int) < (ks.length : Int)) = false := by simpa using hlt
    simp (maxSteps := 1000000) +contextual (disch := first | with_reducible assumption | exact ⟨rfl⟩ | exact ⟨rfl, rfl⟩ | (refine _root_.id ?_; kernel_rfl) | omega) only [evs, ext_mv, nth, put, putT, getT, binInt, binStr, binBool, aUn, outA, resA, mapO, resA1, oneOf, w1, w2, w3, bots, cond_true, cond_false, if_true, if_false, ite_true, ite_false, reduceIte, reduceCtorEq, implies_true, Nat.reduceAdd, Nat.reduceSub, AV.int, AV.bool, AV.str, Nat.reduceBEq, Nat.reduceEqDiff, Nat.reduceMul, Nat.reduceLT, Nat.reduceLeDiff, Int.reduceNeg, BEq.rfl, beq_self_eq_true, tabl, cellsOf, fldA, ldA, stA, entAt, partA, takeN, over, leafOk, Value.oneCell', idxA, nilA, cellsEq, fillA, elemsA, pure1, pure2, reps, chkA, tys, Tryd.results11, KX_draw, KX_drawQ, KX_tail, lastO_one, lastO_more, dropL_one, dropL_more, callP_eq, callM_true, e2, e3, e36, e37, d1]
end
mutual
theorem R07_Same : ∀ (p : PT), nodesP p ≤ 100000 → ∀ (S : List Ent) (tk : List Nat) (k : Nat), cL Tryd.prog 11 [.agg (predC p), .agg (predC p)] S tk k = some (.bool true, S, tk, k)
  | .node o s n ks, hn => fun S tk k => Same_step S tk k o s n ks hn (R07_SameL ks (by simp only [nodesP] at hn; omega))
theorem R07_SameL : ∀ (ks : List PT), nodesL ks ≤ 100000 → ∀ q ∈ ks, ∀ (S : List Ent) (tk : List Nat) (k : Nat), cL Tryd.prog 11 [.agg (predC q), .agg (predC q)] S tk k = some (.bool true, S, tk, k)
  | [], _ => fun q h => by simp at h
  | x :: ks, hn => fun q h => by
    simp only [nodesL] at hn
    rcases List.mem_cons.1 h with e | h
    · rw [e]; exact R07_Same x (by omega)
    · exact R07_SameL ks (by omega) q h
end
end Go.Proofs.YtkghgdkkholieaaDoor
/-
  The size of a predicate, by the law, as 64 bits hold it.
-/

namespace Go.Proofs.YtkghgdkkholieaaDoor
open Go
mutual
def sizeG : PT → Int → Int
  | .node _ s _ ks, m => sizeL ks m (IntKind.i64.wrap (1 + s.size))
def sizeL : List PT → Int → Int → Int
  | [], _, acc => acc
  | k :: ks, m, acc => if acc ≤ m then sizeL ks m (IntKind.i64.wrap (acc + sizeG k (IntKind.i64.wrap (m - acc)))) else acc
end
theorem sizeL_step {ks : List PT} {j : Nat} {q : PT} {m acc : Int} (h : nth ks j = some q) (ha : acc ≤ m) : sizeL (ks.drop j) m acc = sizeL (ks.drop (j + 1)) m (IntKind.i64.wrap (acc + sizeG q (IntKind.i64.wrap (m - acc)))) := by
  rw [nth_drop h]; simp only [sizeL]; rw [if_pos ha]
theorem sizeL_stop {l : List PT} {m acc : Int} (ha : ¬ acc ≤ m) : sizeL l m acc = acc := by
  cases l with
  | nil => rfl
  | cons k l => simp only [sizeL]; rw [if_neg ha]
section
variable (S : List Ent) (tk : List Nat) (k : Nat)
theorem size_step (o : Int) (s : ByteArray) (n : Int) (ks : List PT) (m : Int) (hlen : ks.length ≤ 9223372036854775807)
    (ih : ∀ q ∈ ks, ∀ (m : Int) S tk k, cL Tryd.prog 5 [.agg (predC q), .int m] S tk k = some (.int (sizeG q m), S, tk, k)) :
    cL Tryd.prog 5 [.agg (predC (.node o s n ks)), .int m] S tk k = some (.int (sizeG (.node o s n ks) m), S, tk, k) := by
  simp only [sizeG]
  generalize hst : IntKind.i64.wrap (1 + (s.size : Int)) = st0
  refine call_pure Tryd.func5 rfl rfl (by decide +kernel) (by decide +kernel) Tryd.ntmps5 rfl rfl _ _ _ rfl ?_; rw [RK_KX]
  simp (maxSteps := 1000000) +contextual (disch := first | with_reducible assumption | exact ⟨rfl⟩ | exact ⟨rfl, rfl⟩ | (refine _root_.id ?_; kernel_rfl) | omega) only [evs, ext_mv, nth, put, putT, getT, binInt, binStr, binBool, aUn, outA, resA, mapO, resA1, oneOf, w1, w2, w3, bots, cond_true, cond_false, if_true, if_false, ite_true, ite_false, reduceIte, reduceCtorEq, implies_true, Nat.reduceAdd, Nat.reduceSub, AV.int, AV.bool, AV.str, Nat.reduceBEq, Nat.reduceEqDiff, Nat.reduceMul, Nat.reduceLT, Nat.reduceLeDiff, Int.reduceNeg, BEq.rfl, beq_self_eq_true, tabl, cellsOf, fldA, ldA, stA, entAt, partA, takeN, over, leafOk, Value.oneCell', idxA, nilA, cellsEq, fillA, elemsA, pure1, pure2, reps, chkA, tys, Tryd.results5, KX_draw, KX_drawQ, KX_tail, lastO_one, lastO_more, dropL_one, dropL_more, callP_eq, callM_true, predC, kidsC_length, hst]
  refine loop1 (P := Tryd.prog) (fun x st => st.T.length = 35 ∧ (x.1 ≤ ks.length) ∧ (sizeL ks m st0 = sizeL (ks.drop x.1) m x.2) ∧ getT st.T 1 = .int m ∧ getT st.T 2 = .ref 0 0 0 ∧ getT st.T 5 = .int x.2 ∧ getT st.T 6 = .int (x.1 : Nat) ∧ st.S = [⟨0, [.prim (.int .i64 o), .prim (.string s), .prim (.int .i64 n), .frz (kidsC ks) .unk]⟩]) (fun x => ks.length - x.1) (fun x => .int (sizeL ks m st0)) (0, st0) ?_ ?_
  case refine_2 => exact ⟨rfl, Nat.zero_le _, rfl, rfl, rfl, rfl, rfl, rfl⟩
  rintro ⟨j, acc⟩ ⟨T, S', tk', n'⟩ ⟨hl, hj, hA, e1, e2, e5, e6, eS⟩ IH
  simp only at hj hA e1 e2 e5 e6 eS
  subst eS
  obtain ⟨g, hg, hT⟩ := tab_of hl
  rw [hg] at e1 e2 e5 e6
  subst hT
  clear hg hl
  by_cases hlt : j < ks.length
  · have d1 : decide ((j : Int) < (ks.length : Int)) = true := by simpa using hlt
    by_cases hle : acc ≤ m
    · have d2 : decide (acc ≤ m) = true := by simpa using hle
      obtain ⟨q, hq⟩ := nth_some hlt
      have hq' := nth_kids hq
      have hw := wrap_addM (i := j) (by omega)
      have hN := ih q (nth_mem hq) (IntKind.i64.wrap (m - acc))
      rw [sizeL_step hq hle] at hA
      rw [predC_cells] at hN hq'
      simp (maxSteps := 1000000) +contextual (disch := first | with_reducible assumption | exact ⟨rfl⟩ | exact ⟨rfl, rfl⟩ | (refine _root_.id ?_; kernel_rfl) | omega) only [evs, ext_mv, nth, put, putT, getT, binInt, binStr, binBool, aUn, outA, resA, mapO, resA1, oneOf, w1, w2, w3, bots, cond_true, cond_false, if_true, if_false, ite_true, ite_false, reduceIte, reduceCtorEq, implies_true, Nat.reduceAdd, Nat.reduceSub, AV.int, AV.bool, AV.str, Nat.reduceBEq, Nat.reduceEqDiff, Nat.reduceMul, Nat.reduceLT, Nat.reduceLeDiff, Int.reduceNeg, BEq.rfl, beq_self_eq_true, tabl, cellsOf, fldA, ldA, stA, entAt, partA, takeN, over, leafOk, Value.oneCell', idxA, nilA, cellsEq, fillA, elemsA, pure1, pure2, reps, chkA, tys, Tryd.results5, KX_draw, KX_drawQ, KX_tail, lastO_one, lastO_more, dropL_one, dropL_more, callP_eq, callM_true, e1, e2, e5, e6, kidsC_length, d1, d2, hq', hw, hN]
      exact IH (j + 1, IntKind.i64.wrap (acc + sizeG q (IntKind.i64.wrap (m - acc)))) _ (by first | omega | (simp only; omega)) ⟨rfl, hlt, hA, rfl, rfl, rfl, rfl, rfl⟩
    · have d2 : decide (acc ≤ m) = false := by simpa using hle
      rw [sizeL_stop hle] at hA
      simp (maxSteps := 1000000) +contextual (disch := first | with_reducible assumption | exact ⟨rfl⟩ | exact ⟨rfl, rfl⟩ | (refine _root_.id ?_; kernel_rfl) | omega) only [evs, ext_mv, nth, put, putT, getT, binInt, binStr, binBool, aUn, outA, resA, mapO, resA1, oneOf, w1, w2, w3, bots, cond_true, cond_false, if_true, if_false, ite_true, ite_false, reduceIte, reduceCtorEq, implies_true, Nat.reduceAdd, Nat.reduceSub, AV.int, AV.bool, AV.str, Nat.reduceBEq, Nat.reduceEqDiff, Nat.reduceMul, Nat.reduceLT, Nat.reduceLeDiff, Int.reduceNeg, BEq.rfl, beq_self_eq_true, tabl, cellsOf, fldA, ldA, stA, entAt, partA, takeN, over, leafOk, Value.oneCell', idxA, nilA, cellsEq, fillA, elemsA, pure1, pure2, reps, chkA, tys, Tryd.results5, KX_draw, KX_drawQ, KX_tail, lastO_one, lastO_more, dropL_one, dropL_more, callP_eq, callM_true, e1, e2, e5, e6, kidsC_length, d1, d2]
      exact hA.symm
  · have d1 : decide ((j : Int) < (ks.length : Int)) = false := by simpa using hlt
    have he : j = ks.length := by omega
    simp (maxSteps := 1000000) +contextual (disch := first | with_reducible assumption | exact ⟨rfl⟩ | exact ⟨rfl, rfl⟩ | (refine _root_.id ?_; kernel_rfl) | omega) only [evs, ext_mv, nth, put, putT, getT, binInt, binStr, binBool, aUn, outA, resA, mapO, resA1, oneOf, w1, w2, w3, bots, cond_true, cond_false, if_true, if_false, ite_true, ite_false, reduceIte, reduceCtorEq, implies_true, Nat.reduceAdd, Nat.reduceSub, AV.int, AV.bool, AV.str, Nat.reduceBEq, Nat.reduceEqDiff, Nat.reduceMul, Nat.reduceLT, Nat.reduceLeDiff, Int.reduceNeg, BEq.rfl, beq_self_eq_true, tabl, cellsOf, fldA, ldA, stA, entAt, partA, takeN, over, leafOk, Value.oneCell', idxA, nilA, cellsEq, fillA, elemsA, pure1, pure2, reps, chkA, tys, Tryd.results5, KX_draw, KX_drawQ, KX_tail, lastO_one, lastO_more, dropL_one, dropL_more, callP_eq, callM_true, e1, e2, e5, e6, kidsC_length, d1]
    rw [hA, he, List.drop_length]; rfl
end
mutual
theorem L11_size : ∀ (p : PT), kidsMax p → ∀ (m : Int) (S : List Ent) (tk : List Nat) (k : Nat), cL Tryd.prog 5 [.agg (predC p), .int m] S tk k = some (.int (sizeG p m), S, tk, k)
  | .node o s n ks, hn => fun m S tk k => size_step S tk k o s n ks m (by simp only [kidsMax] at hn; exact hn.1) (L11_sizeL ks (by simp only [kidsMax] at hn; exact hn.2))
theorem L11_sizeL : ∀ (ks : List PT), kidsMaxL ks → ∀ q ∈ ks, ∀ (m : Int) (S : List Ent) (tk : List Nat) (k : Nat), cL Tryd.prog 5 [.agg (predC q), .int m] S tk k = some (.int (sizeG q m), S, tk, k)
  | [], _ => fun q h => by simp at h
  | x :: ks, hn => fun q h => by
    simp only [kidsMaxL] at hn
    rcases List.mem_cons.1 h with e | h
    · rw [e]; exact L11_size x hn.1
    · exact L11_sizeL ks hn.2 q h
end
end Go.Proofs.YtkghgdkkholieaaDoor
