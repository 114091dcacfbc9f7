/-
  Texts laid together: FComb2, FCheck2, FTrim2, FLaw0, FLaw1, FLaw2, FSound, FScale, FLaw5.
-/
import Derived.Test.YtmgbmbganlndkaaZFScales16
/-
  Combinations of rows: the package, walked.
-/

namespace Go.Proofs.Ytmgbmbganlndkaa
open Go
/-- the values of the sums and of the constant -/
def valsI (l : List RowT) (ms : List BigT) (i : Nat) : List Int := (varsF l).map (fun v => coefD l ms v i) ++ [constD l ms i]
def startO (l : List RowT) : List (Bool × Int) := List.replicate ((varsF l).length + 1) (true, 0)
theorem vals_zero (l : List RowT) (ms : List BigT) : (startO l).map (·.2) = valsI l ms 0 := by
  unfold valsI startO
  rw [List.map_replicate, List.replicate_succ', ← List.map_const']
  rfl
section
variable (S : List Ent) (tk : List Nat) (k : Nat)
set_option maxRecDepth 100000 in
set_option maxHeartbeats 1000000 in
theorem farkas_Combine (l : List RowT) (ms : List BigT) (hl0 : ∀ r ∈ l, r.1.length ≤ 1048576) (hl1 : l.length ≤ 1000000) (hm : ∀ m ∈ ms, m.2.length ≤ 100) : cL Try.prog 9 [rowsA l, bigsA ms] S tk k = some (combA l ms, S, tk, k) := by
  have hCh := fun S tk k => simplex_Check S tk k l hl0
  refine call_pure Try.func9 rfl rfl (by decide +kernel) (by decide +kernel) Try.ntmps9 rfl rfl _ _ _ (comb_pure _ _) ?_; rw [RK_KX]
  by_cases hlen : l.length ≠ ms.length
  · have d0 : ((l.length : Int) != (ms.length : Int)) = true := by simp; omega
    simp (maxSteps := 1000000) +contextual (disch := first | with_reducible assumption | exact ⟨rfl⟩ | exact ⟨rfl, rfl⟩ | (refine _root_.id ?_; kernel_rfl) | omega) only [evs, ext_mv, nth, put, putT, getT, binInt, binStr, binBool, aUn, outA, resA, mapO, resA1, oneOf, w1, w2, w3, bots, cond_true, cond_false, if_true, if_false, ite_true, ite_false, reduceIte, reduceCtorEq, implies_true, Nat.reduceAdd, Nat.reduceSub, AV.int, AV.bool, AV.str, Nat.reduceBEq, Nat.reduceEqDiff, Nat.reduceMul, Nat.reduceLT, Nat.reduceLeDiff, Int.reduceNeg, BEq.rfl, beq_self_eq_true, tabl, cellsOf, fldA, ldA, stA, entAt, partA, takeN, over, leafOk, Value.oneCell', idxA, nilA, cellsEq, fillA, elemsA, pure1, pure2, reps, chkA, tys, Try.results9, KX_draw, KX_drawQ, KX_tail, lastO_one, lastO_more, dropL_one, dropL_more, callP_eq, callM_true, rowsA, bigsA, d0]
    have hE : combE l ms = 6 := by unfold combE; rw [if_pos hlen]
    simp only [combA, hE]; rfl
  have hlen' : l.length = ms.length := by omega
  have d0 : ((l.length : Int) != (ms.length : Int)) = false := by simp; omega
  have hAl := fun S tk k => all_valid S tk k ms (by omega) (fun m h => by have := hm m h; omega)
  rw [show ms.all pVal = allValid ms from rfl] at hAl
  simp only [bigsA] at hAl
  cases hval : allValid ms with
  | false =>
    rw [hval] at hAl
    simp (maxSteps := 1000000) +contextual (disch := first | with_reducible assumption | exact ⟨rfl⟩ | exact ⟨rfl, rfl⟩ | (refine _root_.id ?_; kernel_rfl) | omega) only [evs, ext_mv, nth, put, putT, getT, binInt, binStr, binBool, aUn, outA, resA, mapO, resA1, oneOf, w1, w2, w3, bots, cond_true, cond_false, if_true, if_false, ite_true, ite_false, reduceIte, reduceCtorEq, implies_true, Nat.reduceAdd, Nat.reduceSub, AV.int, AV.bool, AV.str, Nat.reduceBEq, Nat.reduceEqDiff, Nat.reduceMul, Nat.reduceLT, Nat.reduceLeDiff, Int.reduceNeg, BEq.rfl, beq_self_eq_true, tabl, cellsOf, fldA, ldA, stA, entAt, partA, takeN, over, leafOk, Value.oneCell', idxA, nilA, cellsEq, fillA, elemsA, pure1, pure2, reps, chkA, tys, Try.results9, KX_draw, KX_drawQ, KX_tail, lastO_one, lastO_more, dropL_one, dropL_more, callP_eq, callM_true, rowsA, bigsA, d0, hAl]
    have hE : combE l ms = 6 := by unfold combE; rw [if_neg hlen, hval]; rfl
    simp only [combA, hE]; rfl
  | true =>
  rw [hval] at hAl
  simp (maxSteps := 1000000) +contextual (disch := first | with_reducible assumption | exact ⟨rfl⟩ | exact ⟨rfl, rfl⟩ | (refine _root_.id ?_; kernel_rfl) | omega) only [evs, ext_mv, nth, put, putT, getT, binInt, binStr, binBool, aUn, outA, resA, mapO, resA1, oneOf, w1, w2, w3, bots, cond_true, cond_false, if_true, if_false, ite_true, ite_false, reduceIte, reduceCtorEq, implies_true, Nat.reduceAdd, Nat.reduceSub, AV.int, AV.bool, AV.str, Nat.reduceBEq, Nat.reduceEqDiff, Nat.reduceMul, Nat.reduceLT, Nat.reduceLeDiff, Int.reduceNeg, BEq.rfl, beq_self_eq_true, tabl, cellsOf, fldA, ldA, stA, entAt, partA, takeN, over, leafOk, Value.oneCell', idxA, nilA, cellsEq, fillA, elemsA, pure1, pure2, reps, chkA, tys, Try.results9, KX_draw, KX_drawQ, KX_tail, lastO_one, lastO_more, dropL_one, dropL_more, callP_eq, callM_true, rowsA, bigsA, d0, hAl]
  refine loop1 (fun x st => st.T.length = 125 ∧ (x ≤ ms.length) ∧ (signBad l ms = signBad (l.drop x) (ms.drop x)) ∧ getT st.T 0 = rowsA l ∧ getT st.T 1 = bigsA ms ∧ getT st.T 4 = .frz [] .nilc ∧ getT st.T 5 = .ref 0 0 0 ∧ getT st.T 6 = .int 0 ∧ getT st.T 31 = rowsA l ∧ getT st.T 32 = .int l.length ∧ getT st.T 33 = .int (x : Nat) ∧ st.S = [⟨0, [.bool false, .frz [] .nilc]⟩]) (fun x => ms.length - x) (fun x => combA l ms) (0) ?_ ?_
  case refine_2 => exact ⟨rfl, Nat.zero_le _, rfl, rfl, rfl, rfl, rfl, rfl, rfl, rfl, rfl, rfl⟩
  rintro i ⟨T, S', tk', n'⟩ ⟨hl, hi, hE, e0, e1, e4, e5, e6, e31, e32, e33, eS⟩ IH
  subst eS
  obtain ⟨g, hg, hT⟩ := tab_of hl
  rw [hg] at e0 e1 e4 e5 e6 e31 e32 e33
  subst hT
  clear hg hl
  have hiw := wrap_add (i := i) (by omega)
  by_cases hlt : i < ms.length
  · have d1 : decide ((i : Int) < (l.length : Int)) = true := by simp; omega
    obtain ⟨m, hx⟩ := nth_some hlt
    have hx' := nth_big hx
    obtain ⟨r, hr⟩ := nth_some (show i < l.length by omega)
    have hr' := nth_row hr
    rw [sign_cons hr hx] at hE
    simp only [bigC] at hx'
    simp only [rowC, coefsA] at hr'
    cases h0 : r.2.2 with
    | true =>
      rw [h0, Bool.not_true, Bool.false_and, Bool.false_or] at hE
      simp (maxSteps := 1000000) +contextual (disch := first | with_reducible assumption | exact ⟨rfl⟩ | exact ⟨rfl, rfl⟩ | (refine _root_.id ?_; kernel_rfl) | omega) only [evs, ext_mv, nth, put, putT, getT, binInt, binStr, binBool, aUn, outA, resA, mapO, resA1, oneOf, w1, w2, w3, bots, cond_true, cond_false, if_true, if_false, ite_true, ite_false, reduceIte, reduceCtorEq, implies_true, Nat.reduceAdd, Nat.reduceSub, AV.int, AV.bool, AV.str, Nat.reduceBEq, Nat.reduceEqDiff, Nat.reduceMul, Nat.reduceLT, Nat.reduceLeDiff, Int.reduceNeg, BEq.rfl, beq_self_eq_true, tabl, cellsOf, fldA, ldA, stA, entAt, partA, takeN, over, leafOk, Value.oneCell', idxA, nilA, cellsEq, fillA, elemsA, pure1, pure2, reps, chkA, tys, Try.results9, KX_draw, KX_drawQ, KX_tail, lastO_one, lastO_more, dropL_one, dropL_more, callP_eq, callM_true, e0, e1, e4, e5, e6, e31, e32, e33, d1, bigsA, rowsA, hx', hr', hiw, h0]
      exact IH (i + 1) _ (by first | omega | (simp only; omega)) ⟨rfl, by first | omega | (dsimp only; omega), hE, (by first | rfl | simp only [getT, List.map_append, List.map_cons, List.map_nil, and_self]), (by first | rfl | simp only [getT, List.map_append, List.map_cons, List.map_nil, and_self]), (by first | rfl | simp only [getT, List.map_append, List.map_cons, List.map_nil, and_self]), (by first | rfl | simp only [getT, List.map_append, List.map_cons, List.map_nil, and_self]), (by first | rfl | simp only [getT, List.map_append, List.map_cons, List.map_nil, and_self]), (by first | rfl | simp only [getT, List.map_append, List.map_cons, List.map_nil, and_self]), (by first | rfl | simp only [getT, List.map_append, List.map_cons, List.map_nil, and_self]), (by first | rfl | simp only [getT, List.map_append, List.map_cons, List.map_nil, and_self]), (by first | rfl | simp only [getT, List.map_append, List.map_cons, List.map_nil, and_self])⟩
    | false =>
      rw [h0, Bool.not_false, Bool.true_and] at hE
      cases h1 : m.1 with
      | false =>
        rw [h1, Bool.false_or] at hE
        simp (maxSteps := 1000000) +contextual (disch := first | with_reducible assumption | exact ⟨rfl⟩ | exact ⟨rfl, rfl⟩ | (refine _root_.id ?_; kernel_rfl) | omega) only [evs, ext_mv, nth, put, putT, getT, binInt, binStr, binBool, aUn, outA, resA, mapO, resA1, oneOf, w1, w2, w3, bots, cond_true, cond_false, if_true, if_false, ite_true, ite_false, reduceIte, reduceCtorEq, implies_true, Nat.reduceAdd, Nat.reduceSub, AV.int, AV.bool, AV.str, Nat.reduceBEq, Nat.reduceEqDiff, Nat.reduceMul, Nat.reduceLT, Nat.reduceLeDiff, Int.reduceNeg, BEq.rfl, beq_self_eq_true, tabl, cellsOf, fldA, ldA, stA, entAt, partA, takeN, over, leafOk, Value.oneCell', idxA, nilA, cellsEq, fillA, elemsA, pure1, pure2, reps, chkA, tys, Try.results9, KX_draw, KX_drawQ, KX_tail, lastO_one, lastO_more, dropL_one, dropL_more, callP_eq, callM_true, e0, e1, e4, e5, e6, e31, e32, e33, d1, bigsA, rowsA, hx', hr', hiw, h0, h1]
        exact IH (i + 1) _ (by first | omega | (simp only; omega)) ⟨rfl, by first | omega | (dsimp only; omega), hE, (by first | rfl | simp only [getT, List.map_append, List.map_cons, List.map_nil, and_self]), (by first | rfl | simp only [getT, List.map_append, List.map_cons, List.map_nil, and_self]), (by first | rfl | simp only [getT, List.map_append, List.map_cons, List.map_nil, and_self]), (by first | rfl | simp only [getT, List.map_append, List.map_cons, List.map_nil, and_self]), (by first | rfl | simp only [getT, List.map_append, List.map_cons, List.map_nil, and_self]), (by first | rfl | simp only [getT, List.map_append, List.map_cons, List.map_nil, and_self]), (by first | rfl | simp only [getT, List.map_append, List.map_cons, List.map_nil, and_self]), (by first | rfl | simp only [getT, List.map_append, List.map_cons, List.map_nil, and_self]), (by first | rfl | simp only [getT, List.map_append, List.map_cons, List.map_nil, and_self])⟩
      | true =>
        rw [h1, Bool.true_or] at hE
        simp (maxSteps := 1000000) +contextual (disch := first | with_reducible assumption | exact ⟨rfl⟩ | exact ⟨rfl, rfl⟩ | (refine _root_.id ?_; kernel_rfl) | omega) only [evs, ext_mv, nth, put, putT, getT, binInt, binStr, binBool, aUn, outA, resA, mapO, resA1, oneOf, w1, w2, w3, bots, cond_true, cond_false, if_true, if_false, ite_true, ite_false, reduceIte, reduceCtorEq, implies_true, Nat.reduceAdd, Nat.reduceSub, AV.int, AV.bool, AV.str, Nat.reduceBEq, Nat.reduceEqDiff, Nat.reduceMul, Nat.reduceLT, Nat.reduceLeDiff, Int.reduceNeg, BEq.rfl, beq_self_eq_true, tabl, cellsOf, fldA, ldA, stA, entAt, partA, takeN, over, leafOk, Value.oneCell', idxA, nilA, cellsEq, fillA, elemsA, pure1, pure2, reps, chkA, tys, Try.results9, KX_draw, KX_drawQ, KX_tail, lastO_one, lastO_more, dropL_one, dropL_more, callP_eq, callM_true, e0, e1, e4, e5, e6, e31, e32, e33, d1, bigsA, rowsA, hx', hr', hiw, h0, h1]
        have hE : combE l ms = 2 := by unfold combE; rw [if_neg hlen, hval, hE]; rfl
        simp only [combA, hE]; rfl
  have d1 : decide ((i : Int) < (l.length : Int)) = false := by simp; omega
  have hie : i = ms.length := by omega
  subst hie
  rw [List.drop_length, ← hlen', List.drop_length] at hE
  have hsg : signBad l ms = false := hE
  have hcE : combE l ms = sysE l := by unfold combE; rw [if_neg hlen, hval, hsg]; rfl
  simp only [rowsA] at hCh
  cases hs0 : (sysE l != 0) with
  | true =>
    simp (maxSteps := 1000000) +contextual (disch := first | with_reducible assumption | exact ⟨rfl⟩ | exact ⟨rfl, rfl⟩ | (refine _root_.id ?_; kernel_rfl) | omega) only [evs, ext_mv, nth, put, putT, getT, binInt, binStr, binBool, aUn, outA, resA, mapO, resA1, oneOf, w1, w2, w3, bots, cond_true, cond_false, if_true, if_false, ite_true, ite_false, reduceIte, reduceCtorEq, implies_true, Nat.reduceAdd, Nat.reduceSub, AV.int, AV.bool, AV.str, Nat.reduceBEq, Nat.reduceEqDiff, Nat.reduceMul, Nat.reduceLT, Nat.reduceLeDiff, Int.reduceNeg, BEq.rfl, beq_self_eq_true, tabl, cellsOf, fldA, ldA, stA, entAt, partA, takeN, over, leafOk, Value.oneCell', idxA, nilA, cellsEq, fillA, elemsA, pure1, pure2, reps, chkA, tys, Try.results9, KX_draw, KX_drawQ, KX_tail, lastO_one, lastO_more, dropL_one, dropL_more, callP_eq, callM_true, e0, e1, e4, e5, e6, e31, e32, e33, d1, bigsA, rowsA, hCh, hs0]
    have hne : ¬ sysE l = 0 := by simpa using hs0
    simp only [combA, hcE, if_neg hne]; rfl
  | false =>
  have hs : sysE l = 0 := by simpa using hs0
  have hVa := fun S tk k => simplex_Vars S tk k l hs
  simp only [rowsA, strsA] at hVa
  have hvl : (varsF l).length ≤ 24 := (sys_few hs).2.2.1
  have hl64 := (sys_few hs).2.1
  have hvw := wrap_add (i := (varsF l).length) (by omega)
  have hbo : (elemOf Try.prog 23).bind (bytesOf Try.prog) = some 32 := by kernel_rfl
  have hmk := mk_big (P := Try.prog) (t := 23) (n := (varsF l).length + 1) (by simp only [tys, Option.bind_some]) (by simp only [tys, Option.bind_some]) hbo (by omega)
  clear hE hi hiw hlt
  simp (maxSteps := 1000000) +contextual (disch := first | with_reducible assumption | exact ⟨rfl⟩ | exact ⟨rfl, rfl⟩ | (refine _root_.id ?_; kernel_rfl) | omega) only [evs, ext_mv, nth, put, putT, getT, binInt, binStr, binBool, aUn, outA, resA, mapO, resA1, oneOf, w1, w2, w3, bots, cond_true, cond_false, if_true, if_false, ite_true, ite_false, reduceIte, reduceCtorEq, implies_true, Nat.reduceAdd, Nat.reduceSub, AV.int, AV.bool, AV.str, Nat.reduceBEq, Nat.reduceEqDiff, Nat.reduceMul, Nat.reduceLT, Nat.reduceLeDiff, Int.reduceNeg, BEq.rfl, beq_self_eq_true, tabl, cellsOf, fldA, ldA, stA, entAt, partA, takeN, over, leafOk, Value.oneCell', idxA, nilA, cellsEq, fillA, elemsA, pure1, pure2, reps, chkA, tys, Try.results9, KX_draw, KX_drawQ, KX_tail, lastO_one, lastO_more, dropL_one, dropL_more, callP_eq, callM_true, e0, e1, e4, e5, e6, e31, e32, e33, d1, bigsA, rowsA, hCh, hs0, hVa, hvw, hmk, capsOk, Bool.and_self]
  generalize hn2 : n' = n2
  have hin := first_in (sys_few hs).2.2.2
  have hinc := first_inc (sys_few hs).2.2.2
  have hk1 : ∀ r ∈ l, i64 r.2.1 := fun r hr => (hin r hr).1
  have hk2 : ∀ v, ∀ r ∈ l, i64 (coefF r.1 v) := fun v r hr => coef_i64 (hin r hr).2 v
  refine loop1 (fun x st => st.T.length = 125 ∧ (x.1 ≤ l.length) ∧ (x.2.map (·.2) = valsI l ms x.1) ∧ getT st.T 0 = rowsA l ∧ getT st.T 1 = bigsA ms ∧ getT st.T 4 = .frz [] .nilc ∧ getT st.T 5 = .ref 0 0 0 ∧ getT st.T 6 = .int 0 ∧ getT st.T 10 = strsA (varsF l) ∧ getT st.T 11 = .ref 2 (n2 + 1) 0 ∧ getT st.T 12 = .ref 3 (n2 + 1 + 1) 0 ∧ getT st.T 13 = .fn 29 [.ref 2 (n2 + 1) 0, .ref 3 (n2 + 1 + 1) 0] ∧ getT st.T 63 = rowsA l ∧ getT st.T 64 = .int l.length ∧ getT st.T 65 = .int (x.1 : Nat) ∧ st.S = [⟨0, [.bool false, .frz [] .nilc]⟩, ⟨n2, ownS x.2⟩, ⟨n2 + 1, [.sref 1 n2 0 ((varsF l).length + 1) 2]⟩, ⟨n2 + 1 + 1, [.bool true]⟩]) (fun x => l.length - x.1) (fun x => combA l ms) (0, startO l) ?_ ?_
  case refine_2 => exact ⟨rfl, Nat.zero_le _, vals_zero l ms, rfl, rfl, rfl, rfl, rfl, rfl, rfl, rfl, rfl, rfl, rfl, rfl, rfl⟩
  rintro ⟨i, outs⟩ ⟨T, S', tk', n'⟩ ⟨hl, hi, hv, e0, e1, e4, e5, e6, e10, e11, e12, e13, e63, e64, e65, eS⟩ IH
  simp only at hi hv e0 e1 e4 e5 e6 e10 e11 e12 e13 e63 e64 e65 eS
  subst eS
  obtain ⟨g, hg, hT⟩ := tab_of hl
  rw [hg] at e0 e1 e4 e5 e6 e10 e11 e12 e13 e63 e64 e65
  subst hT
  clear hg hl
  have OUT := IH
  clear IH
  have hiw := wrap_add (i := i) (by omega)
  have hol : outs.length = (varsF l).length + 1 := by
    have := congrArg List.length hv
    simpa [valsI] using this
  by_cases hlt : i < l.length
  · have d2 : decide ((i : Int) < (l.length : Int)) = true := by simpa using hlt
    obtain ⟨r, hr⟩ := nth_some hlt
    obtain ⟨m, hx⟩ := nth_some (show i < ms.length by omega)
    have hr' := nth_row hr
    have hx' := nth_big hx
    have hmm := hm m (mem_nth hx)
    have hri := hinc r (mem_nth hr)
    have hrn := (hin r (mem_nth hr)).2
    have hrl := hl0 r (mem_nth hr)
    simp only [rowC, coefsA] at hr'
    simp only [bigC] at hx'
    simp (maxSteps := 1000000) +contextual (disch := first | with_reducible assumption | exact ⟨rfl⟩ | exact ⟨rfl, rfl⟩ | (refine _root_.id ?_; kernel_rfl) | omega) only [evs, ext_mv, nth, put, putT, getT, binInt, binStr, binBool, aUn, outA, resA, mapO, resA1, oneOf, w1, w2, w3, bots, cond_true, cond_false, if_true, if_false, ite_true, ite_false, reduceIte, reduceCtorEq, implies_true, Nat.reduceAdd, Nat.reduceSub, AV.int, AV.bool, AV.str, Nat.reduceBEq, Nat.reduceEqDiff, Nat.reduceMul, Nat.reduceLT, Nat.reduceLeDiff, Int.reduceNeg, BEq.rfl, beq_self_eq_true, tabl, cellsOf, fldA, ldA, stA, entAt, partA, takeN, over, leafOk, Value.oneCell', idxA, nilA, cellsEq, fillA, elemsA, pure1, pure2, reps, chkA, tys, Try.results9, KX_draw, KX_drawQ, KX_tail, lastO_one, lastO_more, dropL_one, dropL_more, callP_eq, callM_true, e0, e1, e4, e5, e6, e10, e11, e12, e13, e63, e64, e65, d2, rowsA, hr']
    refine loop1 (fun x st => st.T.length = 125 ∧ (x.1 ≤ r.1.length) ∧ (x.2.map (·.2) = (varsF l).map (valP l ms m r i x.1) ++ [constD l ms i]) ∧ getT st.T 0 = rowsA l ∧ getT st.T 1 = bigsA ms ∧ getT st.T 4 = .frz [] .nilc ∧ getT st.T 5 = .ref 0 0 0 ∧ getT st.T 6 = .int 0 ∧ getT st.T 10 = strsA (varsF l) ∧ getT st.T 11 = .ref 2 (n2 + 1) 0 ∧ getT st.T 12 = .ref 3 (n2 + 1 + 1) 0 ∧ getT st.T 13 = .fn 29 [.ref 2 (n2 + 1) 0, .ref 3 (n2 + 1 + 1) 0] ∧ getT st.T 14 = .int (i : Nat) ∧ getT st.T 15 = .ref 4 n' 0 ∧ getT st.T 63 = rowsA l ∧ getT st.T 64 = .int l.length ∧ getT st.T 65 = .int (i : Nat) ∧ getT st.T 72 = coefsA r.1 ∧ getT st.T 73 = .int r.1.length ∧ getT st.T 74 = .int (x.1 : Nat) ∧ st.S = [⟨0, [.bool false, .frz [] .nilc]⟩, ⟨n2, ownS x.2⟩, ⟨n2 + 1, [.sref 1 n2 0 ((varsF l).length + 1) 2]⟩, ⟨n2 + 1 + 1, [.bool true]⟩, ⟨n', [.frz (r.1.map coefC) .unk, .int r.2.1, .bool r.2.2]⟩]) (fun x => r.1.length - x.1) (fun x => combA l ms) (0, outs) ?_ ?_
    case refine_2 => exact ⟨rfl, Nat.zero_le _, by rw [hv, valsI]; congr 1; exact List.map_congr_left fun v _ => (valP_zero l ms m r i v).symm, rfl, rfl, rfl, rfl, rfl, rfl, rfl, rfl, rfl, rfl, rfl, rfl, rfl, rfl, rfl, rfl, rfl, rfl⟩
    rintro ⟨j, o2⟩ ⟨T, S', tk', n'⟩ ⟨hl, hj, hv2, e0, e1, e4, e5, e6, e10, e11, e12, e13, e14, e15, e63, e64, e65, e72, e73, e74, eS⟩ IH
    simp only at hj hv2 e0 e1 e4 e5 e6 e10 e11 e12 e13 e14 e15 e63 e64 e65 e72 e73 e74 eS
    subst eS
    obtain ⟨g, hg, hT⟩ := tab_of hl
    rw [hg] at e0 e1 e4 e5 e6 e10 e11 e12 e13 e14 e15 e63 e64 e65 e72 e73 e74
    subst hT
    clear hg hl
    have hjw := wrap_add (i := j) (by omega)
    have hol2 : o2.length = (varsF l).length + 1 := by
      have := congrArg List.length hv2
      simpa using this
    by_cases hlt2 : j < r.1.length
    · have d3 : decide ((j : Int) < (r.1.length : Int)) = true := by simpa using hlt2
      obtain ⟨c, hc⟩ := nth_some hlt2
      have hc' := nth_coef hc
      obtain ⟨q, hq⟩ : ∃ q, nth (varsF l) q = some c.1 := by
        obtain ⟨q, hq⟩ := List.mem_iff_getElem?.1 (var_mem (mem_nth hr) (mem_nth hc))
        exact ⟨q, by rw [nth_get]; exact hq⟩
      have hqn := nth_lt hq
      have hB := fun S tk k => BinarySearch S tk k (varsF l) c.1 q (uni_facts _).1 hq (by omega)
      obtain ⟨e, he⟩ := nth_some (show q < o2.length by omega)
      have hev : e.2 = valP l ms m r i j c.1 := by
        have h1 : nth (o2.map (·.2)) q = some e.2 := by rw [nth_map, he]; rfl
        rw [hv2, nth_get, List.getElem?_append_left (by simpa using hqn), List.getElem?_map, ← nth_get, hq] at h1
        exact (Option.some.inj h1).symm
      have hz := valP_ok (l := l) (ms := ms) hk2 hm hmm (show i ≤ 9000 by omega) hri hrn j c.1
      have hz' := valP_ok (l := l) (ms := ms) hk2 hm hmm (show i ≤ 9000 by omega) hri hrn (j + 1) c.1
      rw [valP_self hc, ← hev] at hz'
      rw [← hev] at hz
      have hA := fun tk k c0 a0 a4 a5 c4 => add_in tk k c0 a0 n2 (n2 + 1) (n2 + 1 + 1) a4 a5 c4 [.prim (.string c.1), .prim (.int .i64 c.2)] o2 q e.1 e.2 c.2 m he hz hmm (hrn c (mem_nth hc)) hz'
      rw [hol2] at hA
      simp only [coefC] at hc'
      simp only [strsA] at hB
      simp only [bigC] at hA
      simp (maxSteps := 1000000) +contextual (disch := first | with_reducible assumption | exact ⟨rfl⟩ | exact ⟨rfl, rfl⟩ | (refine _root_.id ?_; kernel_rfl) | omega) only [evs, ext_mv, nth, put, putT, getT, binInt, binStr, binBool, aUn, outA, resA, mapO, resA1, oneOf, w1, w2, w3, bots, cond_true, cond_false, if_true, if_false, ite_true, ite_false, reduceIte, reduceCtorEq, implies_true, Nat.reduceAdd, Nat.reduceSub, AV.int, AV.bool, AV.str, Nat.reduceBEq, Nat.reduceEqDiff, Nat.reduceMul, Nat.reduceLT, Nat.reduceLeDiff, Int.reduceNeg, BEq.rfl, beq_self_eq_true, tabl, cellsOf, fldA, ldA, stA, entAt, partA, takeN, over, leafOk, Value.oneCell', idxA, nilA, cellsEq, fillA, elemsA, pure1, pure2, reps, chkA, tys, Try.results9, KX_draw, KX_drawQ, KX_tail, lastO_one, lastO_more, dropL_one, dropL_more, callP_eq, callM_true, e0, e1, e4, e5, e6, e10, e11, e12, e13, e14, e15, e63, e64, e65, e72, e73, e74, d3, rowsA, bigsA, strsA, coefsA, hc', hx', hB, hA, hjw, capsOk, Bool.and_self]
      have hvn : (o2.set q (false, e.2 + vB m * c.2)).map (·.2) = (varsF l).map (valP l ms m r i (j + 1)) ++ [constD l ms i] := by
        rw [List.map_set, hv2, List.set_append_left _ _ (by simpa using hqn)]
        congr 1
        have h1 := map_set (g := valP l ms m r i j) (g' := valP l ms m r i (j + 1)) (fun v hvv => valP_other hc v hvv) (uni_facts (namesOf l)).1 hq
        rw [valP_self hc, ← hev] at h1
        exact h1
      exact IH (j + 1, o2.set q (false, e.2 + vB m * c.2)) _ (by first | omega | (simp only; omega)) ⟨rfl, by first | omega | (dsimp only; omega), hvn, (by first | rfl | simp only [getT, List.map_append, List.map_cons, List.map_nil, and_self]), (by first | rfl | simp only [getT, List.map_append, List.map_cons, List.map_nil, and_self]), (by first | rfl | simp only [getT, List.map_append, List.map_cons, List.map_nil, and_self]), (by first | rfl | simp only [getT, List.map_append, List.map_cons, List.map_nil, and_self]), (by first | rfl | simp only [getT, List.map_append, List.map_cons, List.map_nil, and_self]), (by first | rfl | simp only [getT, List.map_append, List.map_cons, List.map_nil, and_self]), (by first | rfl | simp only [getT, List.map_append, List.map_cons, List.map_nil, and_self]), (by first | rfl | simp only [getT, List.map_append, List.map_cons, List.map_nil, and_self]), (by first | rfl | simp only [getT, List.map_append, List.map_cons, List.map_nil, and_self]), (by first | rfl | simp only [getT, List.map_append, List.map_cons, List.map_nil, and_self]), (by first | rfl | simp only [getT, List.map_append, List.map_cons, List.map_nil, and_self]), (by first | rfl | simp only [getT, List.map_append, List.map_cons, List.map_nil, and_self]), (by first | rfl | simp only [getT, List.map_append, List.map_cons, List.map_nil, and_self]), (by first | rfl | simp only [getT, List.map_append, List.map_cons, List.map_nil, and_self]), (by first | rfl | simp only [getT, List.map_append, List.map_cons, List.map_nil, and_self]), (by first | rfl | simp only [getT, List.map_append, List.map_cons, List.map_nil, and_self]), (by first | rfl | simp only [getT, List.map_append, List.map_cons, List.map_nil, and_self]), (by first | rfl | simp only [getT, List.map_append, List.map_cons, List.map_nil, and_self])⟩
    · have d3 : decide ((j : Int) < (r.1.length : Int)) = false := by simpa using hlt2
      have hje : j = r.1.length := by omega
      subst hje
      have hev2 : o2.map (·.2) = (varsF l).map (fun v => coefD l ms v (i + 1)) ++ [constD l ms i] := by
        rw [hv2]; congr 1; exact List.map_congr_left fun v _ => valP_end hr hx hri v
      obtain ⟨e, he⟩ := nth_some (show (varsF l).length < o2.length by omega)
      have hev : e.2 = constD l ms i := by
        have h1 : nth (o2.map (·.2)) (varsF l).length = some e.2 := by rw [nth_map, he]; rfl
        rw [hev2, nth_get, List.getElem?_append_right (by simp)] at h1
        simp at h1
        exact h1.symm
      have hcs : constD l ms (i + 1) = e.2 + vB m * r.2.1 := by rw [hev]; exact dot_succ (f := fun r => r.2.1) hr hx
      have hz : okZ e.2 = true := by rw [hev]; exact ok_le (by omega) (dot_lt hk1 hm i)
      have hz' : okZ (e.2 + vB m * r.2.1) = true := by rw [← hcs]; exact ok_le (by omega) (dot_lt hk1 hm (i + 1))
      have hA := fun tk k c0 a0 a4 c4 => add_last tk k c0 a0 n2 (n2 + 1) (n2 + 1 + 1) a4 0 c4 [] o2 (varsF l).length e.1 e.2 r.2.1 m he hz hmm (hk1 r (mem_nth hr)) hz'
      rw [hol2] at hA
      simp only [bigC] at hA
      simp (maxSteps := 1000000) +contextual (disch := first | with_reducible assumption | exact ⟨rfl⟩ | exact ⟨rfl, rfl⟩ | (refine _root_.id ?_; kernel_rfl) | omega) only [evs, ext_mv, nth, put, putT, getT, binInt, binStr, binBool, aUn, outA, resA, mapO, resA1, oneOf, w1, w2, w3, bots, cond_true, cond_false, if_true, if_false, ite_true, ite_false, reduceIte, reduceCtorEq, implies_true, Nat.reduceAdd, Nat.reduceSub, AV.int, AV.bool, AV.str, Nat.reduceBEq, Nat.reduceEqDiff, Nat.reduceMul, Nat.reduceLT, Nat.reduceLeDiff, Int.reduceNeg, BEq.rfl, beq_self_eq_true, tabl, cellsOf, fldA, ldA, stA, entAt, partA, takeN, over, leafOk, Value.oneCell', idxA, nilA, cellsEq, fillA, elemsA, pure1, pure2, reps, chkA, tys, Try.results9, KX_draw, KX_drawQ, KX_tail, lastO_one, lastO_more, dropL_one, dropL_more, callP_eq, callM_true, e0, e1, e4, e5, e6, e10, e11, e12, e13, e14, e15, e63, e64, e65, e72, e73, e74, d3, rowsA, bigsA, strsA, coefsA, hx', hA, hiw, capsOk, Bool.and_self]
      have hvn : (o2.set (varsF l).length (false, e.2 + vB m * r.2.1)).map (·.2) = valsI l ms (i + 1) := by
        rw [List.map_set, hev2, List.set_append_right _ _ (by simp), valsI, hcs]
        simp
      exact OUT (i + 1, o2.set (varsF l).length (false, e.2 + vB m * r.2.1)) _ (by first | omega | (simp only; omega)) ⟨rfl, by first | omega | (dsimp only; omega), hvn, (by first | rfl | simp only [getT, List.map_append, List.map_cons, List.map_nil, and_self]), (by first | rfl | simp only [getT, List.map_append, List.map_cons, List.map_nil, and_self]), (by first | rfl | simp only [getT, List.map_append, List.map_cons, List.map_nil, and_self]), (by first | rfl | simp only [getT, List.map_append, List.map_cons, List.map_nil, and_self]), (by first | rfl | simp only [getT, List.map_append, List.map_cons, List.map_nil, and_self]), (by first | rfl | simp only [getT, List.map_append, List.map_cons, List.map_nil, and_self]), (by first | rfl | simp only [getT, List.map_append, List.map_cons, List.map_nil, and_self]), (by first | rfl | simp only [getT, List.map_append, List.map_cons, List.map_nil, and_self]), (by first | rfl | simp only [getT, List.map_append, List.map_cons, List.map_nil, and_self]), (by first | rfl | simp only [getT, List.map_append, List.map_cons, List.map_nil, and_self]), (by first | rfl | simp only [getT, List.map_append, List.map_cons, List.map_nil, and_self]), (by first | rfl | simp only [getT, List.map_append, List.map_cons, List.map_nil, and_self]), (by first | rfl | simp only [getT, List.map_append, List.map_cons, List.map_nil, and_self])⟩
  · have d2 : decide ((i : Int) < (l.length : Int)) = false := by simpa using hlt
    have hie : i = l.length := by omega
    subst hie
    obtain ⟨e, he⟩ := nth_some (show (varsF l).length < outs.length by omega)
    have hev : e.2 = constD l ms l.length := by
      have h1 : nth (outs.map (·.2)) (varsF l).length = some e.2 := by rw [nth_map, he]; rfl
      rw [hv, valsI, nth_get, List.getElem?_append_right (by simp)] at h1
      simp at h1
      exact h1.symm
    have hld := own_take he
    have hrw := own_rows (n := (varsF l).length) (l := outs) (by omega)
    have hfz := own_fz (outs.take (varsF l).length)
    have hts : (outs.take (varsF l).length).map (fun e => zB e.2) = (varsF l).map fun v => zB (sumF l ms v) := by
      have h1 : (outs.take (varsF l).length).map (·.2) = (varsF l).map fun v => coefD l ms v l.length := by
        rw [List.map_take, hv, valsI, List.take_append_of_le_length (by simp), List.take_of_length_le (by simp)]
      have h2 := congrArg (List.map zB) h1
      rw [List.map_map, List.map_map] at h2
      exact h2
    rw [hts] at hfz
    simp only [ownC, hev] at hld
    have hln : (varsF l).length < (varsF l).length + 1 := by omega
    have hle : (varsF l).length ≤ (varsF l).length + 1 := by omega
    simp (maxSteps := 1000000) +contextual (disch := first | with_reducible assumption | exact ⟨rfl⟩ | exact ⟨rfl, rfl⟩ | (refine _root_.id ?_; kernel_rfl) | omega) only [evs, ext_mv, nth, put, putT, getT, binInt, binStr, binBool, aUn, outA, resA, mapO, resA1, oneOf, w1, w2, w3, bots, cond_true, cond_false, if_true, if_false, ite_true, ite_false, reduceIte, reduceCtorEq, implies_true, Nat.reduceAdd, Nat.reduceSub, AV.int, AV.bool, AV.str, Nat.reduceBEq, Nat.reduceEqDiff, Nat.reduceMul, Nat.reduceLT, Nat.reduceLeDiff, Int.reduceNeg, BEq.rfl, beq_self_eq_true, tabl, cellsOf, fldA, ldA, stA, entAt, partA, takeN, over, leafOk, Value.oneCell', idxA, nilA, cellsEq, fillA, elemsA, pure1, pure2, reps, chkA, tys, Try.results9, KX_draw, KX_drawQ, KX_tail, lastO_one, lastO_more, dropL_one, dropL_more, callP_eq, callM_true, e0, e1, e4, e5, e6, e10, e11, e12, e13, e63, e64, e65, d2, rowsA, bigsA, strsA, hld, hrw, hln, hle, sliceA, bound, intN_cast, Nat.le_refl, Nat.zero_le, Nat.zero_mul, Nat.sub_zero, Nat.add_zero, Nat.zero_add, Option.isSome_some, Option.isSome_none]
    rw [hfz]
    have : combE l ms = 0 := by rw [hcE, hs]
    simp only [combA, this]
    rfl
end
end Go.Proofs.Ytmgbmbganlndkaa
/-
  Which combinations refute: of the package.
-/

namespace Go.Proofs.Ytmgbmbganlndkaa
open Go
theorem cmp_gt (z : Int) : decide (cmpZ z 0 > 0) = decide (0 < z) := by
  unfold cmpZ
  by_cases h1 : z < 0
  · rw [if_pos h1]; have : ¬ 0 < z := by omega
    simp [this]
  · rw [if_neg h1]
    by_cases h2 : 0 < z
    · rw [if_pos h2]; simp [h2]
    · rw [if_neg h2]; simp [h2]
section
variable (S : List Ent) (tk : List Nat) (k : Nat)
theorem farkas_Check (l : List RowT) (ms : List BigT) (hl0 : ∀ r ∈ l, r.1.length ≤ 1048576) (hl1 : l.length ≤ 1000000) (hm : ∀ m ∈ ms, m.2.length ≤ 100) : cL Try.prog 13 [rowsA l, bigsA ms] S tk k = some (.bool (checkB l ms), S, tk, k) := by
  have hC := fun S tk k => farkas_Combine S tk k l ms hl0 hl1 hm
  refine call_pure Try.func13 rfl rfl (by decide +kernel) (by decide +kernel) Try.ntmps13 rfl rfl _ _ _ rfl ?_; rw [RK_KX]
  by_cases hE : combE l ms = 0
  · simp only [combA, hE, if_true] at hC
    have hs : sysE l = 0 := by
      unfold combE at hE
      split at hE
      · cases hE
      · split at hE
        · cases hE
        · split at hE
          · cases hE
          · exact hE
    have hvl : (varsF l).length ≤ 24 := (sys_few hs).2.2.1
    have hlen := (sys_few hs).2.1
    have hin := first_in (sys_few hs).2.2.2
    have ok1 : ∀ v, okZ (sumF l ms v) = true := fun v => ok_le (by omega) (dot_lt (fun r hr => coef_i64 (hin r hr).2 v) hm l.length)
    have ok2 : okZ (constF l ms) = true := ok_le (by omega) (dot_lt (fun r hr => (hin r hr).1) hm l.length)
    have hB : checkB l ms = (noSums l ms (varsF l) && decide (0 < constF l ms)) := by simp [checkB, hE, Bool.and_comm]
    have hA := fun S tk k => all_zero S tk k ((varsF l).map fun v => zB (sumF l ms v)) (by simp; omega) (fun m h => by
      obtain ⟨v, -, rfl⟩ := List.mem_map.1 h
      have := zA_len (ok1 v)
      show (dig (sumF l ms v).natAbs).length ≤ 1000000
      omega)
    have hal : ((varsF l).map fun v => zB (sumF l ms v)).all pZero = noSums l ms (varsF l) := by
      rw [List.all_map]
      unfold noSums
      congr 1
      funext v
      show decide (vB (zB (sumF l ms v)) = 0) = _
      rw [vB_zB (ok1 v)]
    rw [hal] at hA
    have hD := fun S tk k => Cmp_zero S tk k (decide (constF l ms < 0)) (dig (constF l ms).natAbs) (by have := zA_len ok2; omega)
    rw [V_zA ok2] at hD
    have hg := cmp_gt (constF l ms)
    rw [hB]
    simp only [rowsA, bigsA, zA, bigA, digA] at hC hA hD
    have dz : ((0 : Int) == 0) = true := rfl
    cases h1 : noSums l ms (varsF l) with
    | true =>
      rw [h1] at hA
      simp (maxSteps := 1000000) +contextual (disch := first | with_reducible assumption | exact ⟨rfl⟩ | exact ⟨rfl, rfl⟩ | (refine _root_.id ?_; kernel_rfl) | omega) only [evs, ext_mv, nth, put, putT, getT, binInt, binStr, binBool, aUn, outA, resA, mapO, resA1, oneOf, w1, w2, w3, bots, cond_true, cond_false, if_true, if_false, ite_true, ite_false, reduceIte, reduceCtorEq, implies_true, Nat.reduceAdd, Nat.reduceSub, AV.int, AV.bool, AV.str, Nat.reduceBEq, Nat.reduceEqDiff, Nat.reduceMul, Nat.reduceLT, Nat.reduceLeDiff, Int.reduceNeg, BEq.rfl, beq_self_eq_true, tabl, cellsOf, fldA, ldA, stA, entAt, partA, takeN, over, leafOk, Value.oneCell', idxA, nilA, cellsEq, fillA, elemsA, pure1, pure2, reps, chkA, tys, Try.results13, KX_draw, KX_drawQ, KX_tail, lastO_one, lastO_more, dropL_one, dropL_more, callP_eq, callM_true, rowsA, bigsA, hC, hA, hD, hg, dz, Bool.true_and]
    | false =>
      rw [h1] at hA
      simp (maxSteps := 1000000) +contextual (disch := first | with_reducible assumption | exact ⟨rfl⟩ | exact ⟨rfl, rfl⟩ | (refine _root_.id ?_; kernel_rfl) | omega) only [evs, ext_mv, nth, put, putT, getT, binInt, binStr, binBool, aUn, outA, resA, mapO, resA1, oneOf, w1, w2, w3, bots, cond_true, cond_false, if_true, if_false, ite_true, ite_false, reduceIte, reduceCtorEq, implies_true, Nat.reduceAdd, Nat.reduceSub, AV.int, AV.bool, AV.str, Nat.reduceBEq, Nat.reduceEqDiff, Nat.reduceMul, Nat.reduceLT, Nat.reduceLeDiff, Int.reduceNeg, BEq.rfl, beq_self_eq_true, tabl, cellsOf, fldA, ldA, stA, entAt, partA, takeN, over, leafOk, Value.oneCell', idxA, nilA, cellsEq, fillA, elemsA, pure1, pure2, reps, chkA, tys, Try.results13, KX_draw, KX_drawQ, KX_tail, lastO_one, lastO_more, dropL_one, dropL_more, callP_eq, callM_true, rowsA, bigsA, hC, hA, hD, hg, dz, Bool.false_and]
  · have d0 : (combE l ms == 0) = false := by simpa using hE
    have hB : checkB l ms = false := by simp [checkB, hE]
    simp only [combA, if_neg hE] at hC
    simp only [rowsA, bigsA, zA, bigA, digA] at hC
    simp (maxSteps := 1000000) +contextual (disch := first | with_reducible assumption | exact ⟨rfl⟩ | exact ⟨rfl, rfl⟩ | (refine _root_.id ?_; kernel_rfl) | omega) only [evs, ext_mv, nth, put, putT, getT, binInt, binStr, binBool, aUn, outA, resA, mapO, resA1, oneOf, w1, w2, w3, bots, cond_true, cond_false, if_true, if_false, ite_true, ite_false, reduceIte, reduceCtorEq, implies_true, Nat.reduceAdd, Nat.reduceSub, AV.int, AV.bool, AV.str, Nat.reduceBEq, Nat.reduceEqDiff, Nat.reduceMul, Nat.reduceLT, Nat.reduceLeDiff, Int.reduceNeg, BEq.rfl, beq_self_eq_true, tabl, cellsOf, fldA, ldA, stA, entAt, partA, takeN, over, leafOk, Value.oneCell', idxA, nilA, cellsEq, fillA, elemsA, pure1, pure2, reps, chkA, tys, Try.results13, KX_draw, KX_drawQ, KX_tail, lastO_one, lastO_more, dropL_one, dropL_more, callP_eq, callM_true, rowsA, bigsA, hC, d0]
    rw [hB]
end
end Go.Proofs.Ytmgbmbganlndkaa
/-
  Refutations made smaller: of the package.
-/

namespace Go.Proofs.Ytmgbmbganlndkaa
open Go
section
variable (S : List Ent) (tk : List Nat) (k : Nat)
set_option maxRecDepth 100000 in
set_option maxHeartbeats 1000000 in
theorem farkas_Trim (l : List RowT) (ms : List BigT) (hl0 : ∀ r ∈ l, r.1.length ≤ 1048576) (hl1 : l.length ≤ 1000000) (hml : ms.length ≤ 1000) (hm : ∀ m ∈ ms, m.2.length ≤ 100) : cL Try.prog 15 [rowsA l, bigsA ms] S tk k = some (bigsA (if checkB l ms = true then trimL' ms else []), S, tk, k) := by
  have hC := fun S tk k => farkas_Check S tk k l ms hl0 hl1 hm
  simp only [rowsA, bigsA] at hC
  refine call_pure Try.func15 rfl rfl (by decide +kernel) (by decide +kernel) Try.ntmps15 rfl rfl _ _ _ rfl ?_; rw [RK_KX]
  cases hc : checkB l ms with
  | false =>
    rw [hc] at hC
    simp (maxSteps := 1000000) +contextual (disch := first | with_reducible assumption | exact ⟨rfl⟩ | exact ⟨rfl, rfl⟩ | (refine _root_.id ?_; kernel_rfl) | omega) only [evs, ext_mv, nth, put, putT, getT, binInt, binStr, binBool, aUn, outA, resA, mapO, resA1, oneOf, w1, w2, w3, bots, cond_true, cond_false, if_true, if_false, ite_true, ite_false, reduceIte, reduceCtorEq, implies_true, Nat.reduceAdd, Nat.reduceSub, AV.int, AV.bool, AV.str, Nat.reduceBEq, Nat.reduceEqDiff, Nat.reduceMul, Nat.reduceLT, Nat.reduceLeDiff, Int.reduceNeg, BEq.rfl, beq_self_eq_true, tabl, cellsOf, fldA, ldA, stA, entAt, partA, takeN, over, leafOk, Value.oneCell', idxA, nilA, cellsEq, fillA, elemsA, pure1, pure2, reps, chkA, tys, Try.results15, KX_draw, KX_drawQ, KX_tail, lastO_one, lastO_more, dropL_one, dropL_more, callP_eq, callM_true, rowsA, bigsA, hC]
  | true =>
  rw [hc] at hC
  rw [if_pos rfl]
  simp (maxSteps := 1000000) +contextual (disch := first | with_reducible assumption | exact ⟨rfl⟩ | exact ⟨rfl, rfl⟩ | (refine _root_.id ?_; kernel_rfl) | omega) only [evs, ext_mv, nth, put, putT, getT, binInt, binStr, binBool, aUn, outA, resA, mapO, resA1, oneOf, w1, w2, w3, bots, cond_true, cond_false, if_true, if_false, ite_true, ite_false, reduceIte, reduceCtorEq, implies_true, Nat.reduceAdd, Nat.reduceSub, AV.int, AV.bool, AV.str, Nat.reduceBEq, Nat.reduceEqDiff, Nat.reduceMul, Nat.reduceLT, Nat.reduceLeDiff, Int.reduceNeg, BEq.rfl, beq_self_eq_true, tabl, cellsOf, fldA, ldA, stA, entAt, partA, takeN, over, leafOk, Value.oneCell', idxA, nilA, cellsEq, fillA, elemsA, pure1, pure2, reps, chkA, tys, Try.results15, KX_draw, KX_drawQ, KX_tail, lastO_one, lastO_more, dropL_one, dropL_more, callP_eq, callM_true, rowsA, bigsA, hC]
  refine loop1 (fun x st => st.T.length = 48 ∧ (x ≤ ms.length) ∧ getT st.T 1 = bigsA ms ∧ getT st.T 5 = .ref 0 0 0 ∧ getT st.T 19 = bigsA ms ∧ getT st.T 20 = .int ms.length ∧ getT st.T 21 = .int (x : Nat) ∧ st.S = [⟨0, gcdC ms x⟩]) (fun x => ms.length - x) (fun x => bigsA (trimL' ms)) (0) ?_ ?_
  case refine_2 => exact ⟨rfl, Nat.zero_le _, rfl, rfl, rfl, rfl, rfl, rfl⟩
  rintro i ⟨T, S', tk', n'⟩ ⟨hl, hi, e1, e5, e19, e20, e21, eS⟩ IH
  subst eS
  obtain ⟨g, hg, hT⟩ := tab_of hl
  rw [hg] at e1 e5 e19 e20 e21
  subst hT
  clear hg hl
  have hiw := wrap_add (i := i) (by omega)
  rw [gcdC_eq]
  by_cases hlt : i < ms.length
  · have d1 : decide ((i : Int) < (ms.length : Int)) = true := by simpa using hlt
    obtain ⟨m, hx⟩ := nth_some hlt
    have hx' := nth_big hx
    have hz := zA_len (gcd_ok hm i)
    have hG := fun S tk k => (gcd_w Try.prog (f := 41) (p := decide (gcdN ms i < 0)) (l := dig (gcdN ms i).natAbs) (c := i == 0) rfl).trans (big_Gcd S tk k (decide (gcdN ms i < 0)) m.1 (dig (gcdN ms i).natAbs) m.2 (by omega) (by have := hm m (mem_nth hx); omega))
    rw [V_zA (gcd_ok hm i), show V m.1 m.2 = vB m from rfl, ← gcd_succ hx] at hG
    simp only [bigC] at hx'
    simp only [bigA, digA, zA] at hG
    simp (maxSteps := 1000000) +contextual (disch := first | with_reducible assumption | exact ⟨rfl⟩ | exact ⟨rfl, rfl⟩ | (refine _root_.id ?_; kernel_rfl) | omega) only [evs, ext_mv, nth, put, putT, getT, binInt, binStr, binBool, aUn, outA, resA, mapO, resA1, oneOf, w1, w2, w3, bots, cond_true, cond_false, if_true, if_false, ite_true, ite_false, reduceIte, reduceCtorEq, implies_true, Nat.reduceAdd, Nat.reduceSub, AV.int, AV.bool, AV.str, Nat.reduceBEq, Nat.reduceEqDiff, Nat.reduceMul, Nat.reduceLT, Nat.reduceLeDiff, Int.reduceNeg, BEq.rfl, beq_self_eq_true, tabl, cellsOf, fldA, ldA, stA, entAt, partA, takeN, over, leafOk, Value.oneCell', idxA, nilA, cellsEq, fillA, elemsA, pure1, pure2, reps, chkA, tys, Try.results15, KX_draw, KX_drawQ, KX_tail, lastO_one, lastO_more, dropL_one, dropL_more, callP_eq, callM_true, e1, e5, e19, e20, e21, d1, bigsA, hx', hG, hiw, ownC]
    exact IH (i + 1) _ (by first | omega | (simp only; omega)) ⟨rfl, by first | omega | (dsimp only; omega), (by first | rfl | simp only [getT, List.map_append, List.map_cons, List.map_nil, and_self, digC, bigC, zB]), (by first | rfl | simp only [getT, List.map_append, List.map_cons, List.map_nil, and_self, digC, bigC, zB]), (by first | rfl | simp only [getT, List.map_append, List.map_cons, List.map_nil, and_self, digC, bigC, zB]), (by first | rfl | simp only [getT, List.map_append, List.map_cons, List.map_nil, and_self, digC, bigC, zB]), (by first | rfl | simp only [getT, List.map_append, List.map_cons, List.map_nil, and_self, digC, bigC, zB]), (by first | rfl | simp only [getT, List.map_append, List.map_cons, List.map_nil, and_self, digC, bigC, zB])⟩
  have d1 : decide ((i : Int) < (ms.length : Int)) = false := by simpa using hlt
  have hie : i = ms.length := by omega
  subst hie
  simp (maxSteps := 1000000) +contextual (disch := first | with_reducible assumption | exact ⟨rfl⟩ | exact ⟨rfl, rfl⟩ | (refine _root_.id ?_; kernel_rfl) | omega) only [evs, ext_mv, nth, put, putT, getT, binInt, binStr, binBool, aUn, outA, resA, mapO, resA1, oneOf, w1, w2, w3, bots, cond_true, cond_false, if_true, if_false, ite_true, ite_false, reduceIte, reduceCtorEq, implies_true, Nat.reduceAdd, Nat.reduceSub, AV.int, AV.bool, AV.str, Nat.reduceBEq, Nat.reduceEqDiff, Nat.reduceMul, Nat.reduceLT, Nat.reduceLeDiff, Int.reduceNeg, BEq.rfl, beq_self_eq_true, tabl, cellsOf, fldA, ldA, stA, entAt, partA, takeN, over, leafOk, Value.oneCell', idxA, nilA, cellsEq, fillA, elemsA, pure1, pure2, reps, chkA, tys, Try.results15, KX_draw, KX_drawQ, KX_tail, lastO_one, lastO_more, dropL_one, dropL_more, callP_eq, callM_true, e1, e5, e19, e20, e21, d1, bigsA]
  generalize hb9 : (ms.length == 0) = b9
  refine loop1 (fun x st => st.T.length = 48 ∧ (x.1 ≤ ms.length) ∧ (x.2.1 = (ms.take x.1).map fun m => zB (quoZ (vB m) (gcdN ms ms.length))) ∧ (okCap st.tk x.2.2 2 = true) ∧ getT st.T 1 = bigsA ms ∧ getT st.T 5 = .ref 0 0 0 ∧ getT st.T 8 = .frz (x.2.1.map bigC) x.2.2 ∧ getT st.T 29 = bigsA ms ∧ getT st.T 30 = .int ms.length ∧ getT st.T 31 = .int (x.1 : Nat) ∧ st.S = [⟨0, ownC (b9, gcdN ms ms.length)⟩]) (fun x => ms.length - x.1) (fun x => bigsA (trimL' ms)) (0, [], .nilc) ?_ ?_
  case refine_2 => exact ⟨rfl, Nat.zero_le _, rfl, rfl, rfl, rfl, rfl, rfl, rfl, rfl, rfl⟩
  rintro ⟨i, out, c⟩ ⟨T, S', tk', n'⟩ ⟨hl, hi, he, hok, e1, e5, e8, e29, e30, e31, eS⟩ IH
  simp only at hi he hok e1 e5 e8 e29 e30 e31 eS
  subst eS
  obtain ⟨g, hg, hT⟩ := tab_of hl
  rw [hg] at e1 e5 e8 e29 e30 e31
  subst hT
  clear hg hl
  have hiw := wrap_add (i := i) (by omega)
  by_cases hlt : i < ms.length
  · have d1 : decide ((i : Int) < (ms.length : Int)) = true := by simpa using hlt
    obtain ⟨m, hx⟩ := nth_some hlt
    have hx' := nth_big hx
    have hz := zA_len (gcd_ok hm ms.length)
    have hD := fun S tk k => (div_w Try.prog (f := 42) (p := decide (gcdN ms ms.length < 0)) (l := dig (gcdN ms ms.length).natAbs) (c := b9) rfl).trans (big_Div S tk k m.1 (decide (gcdN ms ms.length < 0)) m.2 (dig (gcdN ms ms.length).natAbs) (by have := hm m (mem_nth hx); omega) (by omega))
    rw [V_zA (gcd_ok hm ms.length), show V m.1 m.2 = vB m from rfl, divA, ← quoZ, ← remZ] at hD
    have hol : out.length ≤ ms.length := by rw [he]; simp; omega
    have hr := rowsOk_big out
    have hok' := okCap_new hok
    have hn1 : (out.map bigC).length + 1 ≤ 1048576 := by simp; omega
    have hts := take_snoc hx
    simp only [bigC] at hx'
    simp only [bigA, digA, zA] at hD
    simp (maxSteps := 1000000) +contextual (disch := first | with_reducible assumption | exact ⟨rfl⟩ | exact ⟨rfl, rfl⟩ | (refine _root_.id ?_; kernel_rfl) | omega) only [evs, ext_mv, nth, put, putT, getT, binInt, binStr, binBool, aUn, outA, resA, mapO, resA1, oneOf, w1, w2, w3, bots, cond_true, cond_false, if_true, if_false, ite_true, ite_false, reduceIte, reduceCtorEq, implies_true, Nat.reduceAdd, Nat.reduceSub, AV.int, AV.bool, AV.str, Nat.reduceBEq, Nat.reduceEqDiff, Nat.reduceMul, Nat.reduceLT, Nat.reduceLeDiff, Int.reduceNeg, BEq.rfl, beq_self_eq_true, tabl, cellsOf, fldA, ldA, stA, entAt, partA, takeN, over, leafOk, Value.oneCell', idxA, nilA, cellsEq, fillA, elemsA, pure1, pure2, reps, chkA, tys, Try.results15, KX_draw, KX_drawQ, KX_tail, lastO_one, lastO_more, dropL_one, dropL_more, callP_eq, callM_true, e1, e5, e8, e29, e30, e31, d1, bigsA, hx', hD, hiw, ownC, hr]
    exact IH (i + 1, out ++ [zB (quoZ (vB m) (gcdN ms ms.length))], capNew tk' c 2) _ (by first | omega | (simp only; omega)) ⟨rfl, by first | omega | (dsimp only; omega), by rw [hts, List.map_append, he]; rfl, hok', (by first | rfl | simp only [getT, List.map_append, List.map_cons, List.map_nil, and_self, digC, bigC, zB]), (by first | rfl | simp only [getT, List.map_append, List.map_cons, List.map_nil, and_self, digC, bigC, zB]), (by first | rfl | simp only [getT, List.map_append, List.map_cons, List.map_nil, and_self, digC, bigC, zB]), (by first | rfl | simp only [getT, List.map_append, List.map_cons, List.map_nil, and_self, digC, bigC, zB]), (by first | rfl | simp only [getT, List.map_append, List.map_cons, List.map_nil, and_self, digC, bigC, zB]), (by first | rfl | simp only [getT, List.map_append, List.map_cons, List.map_nil, and_self, digC, bigC, zB]), (by first | rfl | simp only [getT, List.map_append, List.map_cons, List.map_nil, and_self, digC, bigC, zB])⟩
  · have d1 : decide ((i : Int) < (ms.length : Int)) = false := by simpa using hlt
    have hie : i = ms.length := by omega
    subst hie
    rw [List.take_length] at he
    simp (maxSteps := 1000000) +contextual (disch := first | with_reducible assumption | exact ⟨rfl⟩ | exact ⟨rfl, rfl⟩ | (refine _root_.id ?_; kernel_rfl) | omega) only [evs, ext_mv, nth, put, putT, getT, binInt, binStr, binBool, aUn, outA, resA, mapO, resA1, oneOf, w1, w2, w3, bots, cond_true, cond_false, if_true, if_false, ite_true, ite_false, reduceIte, reduceCtorEq, implies_true, Nat.reduceAdd, Nat.reduceSub, AV.int, AV.bool, AV.str, Nat.reduceBEq, Nat.reduceEqDiff, Nat.reduceMul, Nat.reduceLT, Nat.reduceLeDiff, Int.reduceNeg, BEq.rfl, beq_self_eq_true, tabl, cellsOf, fldA, ldA, stA, entAt, partA, takeN, over, leafOk, Value.oneCell', idxA, nilA, cellsEq, fillA, elemsA, pure1, pure2, reps, chkA, tys, Try.results15, KX_draw, KX_drawQ, KX_tail, lastO_one, lastO_more, dropL_one, dropL_more, callP_eq, callM_true, e1, e5, e8, e29, e30, e31, d1, bigsA]
    rw [he]; rfl
end
end Go.Proofs.Ytmgbmbganlndkaa
/-
  The law's own small functions: one, row, awake.
-/



namespace Go.Proofs.Ytmgbmbganlndkaa
open Go
def nX : ByteArray := ⟨#[120]⟩
def nY : ByteArray := ⟨#[121]⟩
section
variable (S : List Ent) (tk : List Nat) (k : Nat)
theorem L14_one (n : Int) (hn : i64 n) : cL Try.prog 23 [.int n] S tk k = some (.agg (bigC (zB n)), S, tk, k) := by
  have hC := fun S tk k => R02_Of S tk k n hn
  simp only [zA_zB] at hC
  refine call_pure Try.func23 rfl rfl (by decide +kernel) (by decide +kernel) Try.ntmps23 rfl rfl _ _ _ rfl ?_; rw [RK_KX]
  simp (maxSteps := 1000000) +contextual (disch := first | with_reducible assumption | exact ⟨rfl⟩ | exact ⟨rfl, rfl⟩ | (refine _root_.id ?_; kernel_rfl) | omega) only [evs, ext_mv, nth, put, putT, getT, binInt, binStr, binBool, aUn, outA, resA, mapO, resA1, oneOf, w1, w2, w3, bots, cond_true, cond_false, if_true, if_false, ite_true, ite_false, reduceIte, reduceCtorEq, implies_true, Nat.reduceAdd, Nat.reduceSub, AV.int, AV.bool, AV.str, Nat.reduceBEq, Nat.reduceEqDiff, Nat.reduceMul, Nat.reduceLT, Nat.reduceLeDiff, Int.reduceNeg, BEq.rfl, beq_self_eq_true, tabl, cellsOf, fldA, ldA, stA, entAt, partA, takeN, over, leafOk, Value.oneCell', idxA, nilA, cellsEq, fillA, elemsA, pure1, pure2, reps, chkA, tys, Try.results23, KX_draw, KX_drawQ, KX_tail, lastO_one, lastO_more, dropL_one, dropL_more, callP_eq, callM_true, hC, bigC, zB]
set_option maxRecDepth 100000 in
theorem L14_row1 (x c : Int) (eq : Bool) (hx : (x != 0) = true) : cL Try.prog 24 [.int x, .int 0, .int c, .bool eq] S tk k = some (.agg (rowC ([(nX, x)], c, eq)), S, tk, k) := by
  refine call_pure Try.func24 rfl rfl (by decide +kernel) (by decide +kernel) Try.ntmps24 rfl rfl _ _ _ rfl ?_; rw [RK_KX]
  have hA := fun (a b : AV) => apB_one (tk := []) (c := .nilc) (es := []) (y := [a, b]) (sz := 2) rfl rfl rfl (by decide)
  simp (maxSteps := 1000000) +contextual (disch := first | with_reducible assumption | exact ⟨rfl⟩ | exact ⟨rfl, rfl⟩ | (refine _root_.id ?_; kernel_rfl) | omega) only [evs, ext_mv, nth, put, putT, getT, binInt, binStr, binBool, aUn, outA, resA, mapO, resA1, oneOf, w1, w2, w3, bots, cond_true, cond_false, if_true, if_false, ite_true, ite_false, reduceIte, reduceCtorEq, implies_true, Nat.reduceAdd, Nat.reduceSub, AV.int, AV.bool, AV.str, Nat.reduceBEq, Nat.reduceEqDiff, Nat.reduceMul, Nat.reduceLT, Nat.reduceLeDiff, Int.reduceNeg, BEq.rfl, beq_self_eq_true, tabl, cellsOf, fldA, ldA, stA, entAt, partA, takeN, over, leafOk, Value.oneCell', idxA, nilA, cellsEq, fillA, elemsA, pure1, pure2, reps, chkA, tys, Try.results24, KX_draw, KX_drawQ, KX_tail, lastO_one, lastO_more, dropL_one, dropL_more, callP_eq, callM_true, hx, bne_self_eq_false, hA]
  rfl
set_option maxRecDepth 100000 in
theorem L14_row2 (x y c : Int) (eq : Bool) (hx : (x != 0) = true) (hy : (y != 0) = true) : cL Try.prog 24 [.int x, .int y, .int c, .bool eq] S tk k = some (.agg (rowC ([(nX, x), (nY, y)], c, eq)), S, tk, k) := by
  refine call_pure Try.func24 rfl rfl (by decide +kernel) (by decide +kernel) Try.ntmps24 rfl rfl _ _ _ rfl ?_; rw [RK_KX]
  have hA := fun (a b : AV) => apB_one (tk := []) (c := .nilc) (es := []) (y := [a, b]) (sz := 2) rfl rfl rfl (by decide)
  have hA2 := fun (a b c d : AV) => apB_one (tk := capPut [] .nilc) (c := capNew [] .nilc 2) (es := [[a, b]]) (y := [c, d]) (sz := 2) rfl rfl rfl (by simp)
  simp (maxSteps := 1000000) +contextual (disch := first | with_reducible assumption | exact ⟨rfl⟩ | exact ⟨rfl, rfl⟩ | (refine _root_.id ?_; kernel_rfl) | omega) only [evs, ext_mv, nth, put, putT, getT, binInt, binStr, binBool, aUn, outA, resA, mapO, resA1, oneOf, w1, w2, w3, bots, cond_true, cond_false, if_true, if_false, ite_true, ite_false, reduceIte, reduceCtorEq, implies_true, Nat.reduceAdd, Nat.reduceSub, AV.int, AV.bool, AV.str, Nat.reduceBEq, Nat.reduceEqDiff, Nat.reduceMul, Nat.reduceLT, Nat.reduceLeDiff, Int.reduceNeg, BEq.rfl, beq_self_eq_true, tabl, cellsOf, fldA, ldA, stA, entAt, partA, takeN, over, leafOk, Value.oneCell', idxA, nilA, cellsEq, fillA, elemsA, pure1, pure2, reps, chkA, tys, Try.results24, KX_draw, KX_drawQ, KX_tail, lastO_one, lastO_more, dropL_one, dropL_more, callP_eq, callM_true, hx, hy, hA, hA2, List.nil_append, List.singleton_append]
  rfl
end
def l1 : List RowT := [([(nX, 1)], 0, false), ([(nX, -1)], 1, false)]
def l2 : List RowT := [([(nX, 1), (nY, -1)], 0, true), ([(nX, -1), (nY, 1)], 1, false)]
theorem chk1 : checkB l1 [zB 1, zB 1] = true := by decide +kernel
theorem chk2 : checkB l1 [zB 3, zB 3] = true := by decide +kernel
theorem chk3 : checkB l2 [zB 1, zB 1] = true := by decide +kernel
theorem chk4 : checkB l2 [zB (-1), zB 1] = false := by decide +kernel
theorem chk5 : checkB l1 [zB 0, zB 0] = false := by decide +kernel
theorem chk6 : trimL' [zB 3, zB 3] = [zB 1, zB 1] := by decide +kernel
theorem chk7 : usedL 0 [zB 0, zB 2] = [1] := by decide +kernel
theorem chk8 : sameB [zB 1, zB 1] [zB 1, zB 1] = true := by decide +kernel
section
variable {S : List Ent} {tk : List Nat} {k : Nat} {A B : List (List AV)}
theorem check_t : cL Try.prog 13 [.frz A .tight, .frz B .tight] S tk k = cL Try.prog 13 [.frz A .unk, .frz B .unk] S tk k := cL_w2 rfl rfl rfl
theorem trim_t : cL Try.prog 15 [.frz A .tight, .frz B .tight] S tk k = cL Try.prog 15 [.frz A .unk, .frz B .unk] S tk k := cL_w2 rfl rfl rfl
theorem same_t : cL Try.prog 11 [.frz A .unk, .frz B .tight] S tk k = cL Try.prog 11 [.frz A .unk, .frz B .unk] S tk k := cL_w2 rfl rfl rfl
theorem used_t : cL Try.prog 18 [.frz B .tight] S tk k = cL Try.prog 18 [.frz B .unk] S tk k := cL_w2 rfl rfl rfl
end
section
variable (S : List Ent) (tk : List Nat) (k : Nat)
theorem small_l1 : ∀ r ∈ l1, r.1.length ≤ 1048576 := by
  intro r hr
  simp only [l1, List.mem_cons, List.not_mem_nil, or_false] at hr
  rcases hr with rfl | rfl <;> decide
theorem small_l2 : ∀ r ∈ l2, r.1.length ≤ 1048576 := by
  intro r hr
  simp only [l2, List.mem_cons, List.not_mem_nil, or_false] at hr
  rcases hr with rfl | rfl <;> decide
theorem small_two (a b : Int) (h : (dig a.natAbs).length ≤ 100 ∧ (dig b.natAbs).length ≤ 100) : ∀ m ∈ [zB a, zB b], m.2.length ≤ 100 := by
  intro m hm
  simp only [List.mem_cons, List.not_mem_nil, or_false] at hm
  rcases hm with rfl | rfl
  · exact h.1
  · exact h.2
set_option maxRecDepth 100000 in
set_option maxHeartbeats 1000000 in
theorem L14_awake : cL Try.prog 8 [] S tk k = some (.bool true, S, tk, k) := by
  have hO1 := fun S tk k => L14_one S tk k 1 (by unfold i64; omega)
  have hO3 := fun S tk k => L14_one S tk k 3 (by unfold i64; omega)
  have hO0 := fun S tk k => L14_one S tk k 0 (by unfold i64; omega)
  have hO2 := fun S tk k => L14_one S tk k 2 (by unfold i64; omega)
  have hOm := fun S tk k => L14_one S tk k (-1) (by unfold i64; omega)
  have hR1 := fun S tk k => L14_row1 S tk k 1 0 false rfl
  have hR2 := fun S tk k => L14_row1 S tk k (-1) 1 false rfl
  have hR3 := fun S tk k => L14_row2 S tk k 1 (-1) 0 true rfl rfl
  have hR4 := fun S tk k => L14_row2 S tk k (-1) 1 1 false rfl rfl
  have e1 : rowsA l1 = .frz [rowC ([(nX, 1)], 0, false), rowC ([(nX, -1)], 1, false)] .unk := rfl
  have e2 : rowsA l2 = .frz [rowC ([(nX, 1), (nY, -1)], 0, true), rowC ([(nX, -1), (nY, 1)], 1, false)] .unk := rfl
  have f2 : ∀ a b : BigT, bigsA [a, b] = .frz [bigC a, bigC b] .unk := fun _ _ => rfl
  have hC1 := fun S tk k => farkas_Check S tk k l1 [zB 1, zB 1] small_l1 (by decide) (small_two 1 1 (by decide +kernel))
  have hC2 := fun S tk k => farkas_Trim S tk k l1 [zB 3, zB 3] small_l1 (by decide) (by decide) (small_two 3 3 (by decide +kernel))
  have hC3 := fun S tk k => farkas_Check S tk k l2 [zB 1, zB 1] small_l2 (by decide) (small_two 1 1 (by decide +kernel))
  have hC4 := fun S tk k => farkas_Check S tk k l2 [zB (-1), zB 1] small_l2 (by decide) (small_two (-1) 1 (by decide +kernel))
  have hC5 := fun S tk k => farkas_Check S tk k l1 [zB 0, zB 0] small_l1 (by decide) (small_two 0 0 (by decide +kernel))
  have hU := fun S tk k => farkas_Used S tk k [zB 0, zB 2] (by decide) (small_two 0 2 (by decide +kernel))
  have hS := fun S tk k => R14_Same S tk k [zB 1, zB 1] [zB 1, zB 1] (by decide) (by decide)
  rw [chk1, e1, f2] at hC1
  rw [chk2, if_pos rfl, chk6, e1, f2, f2] at hC2
  rw [chk3, e2, f2] at hC3
  rw [chk4, e2, f2] at hC4
  rw [chk5, e1, f2] at hC5
  rw [chk7, f2] at hU
  rw [chk8, f2] at hS
  generalize zB 1 = z1 at *
  generalize zB 3 = z3 at *
  generalize zB 0 = z0 at *
  generalize zB 2 = z2 at *
  generalize zB (-1) = zm at *
  generalize ([(nX, (1 : Int))], (0 : Int), false) = r1 at *
  generalize ([(nX, (-1 : Int))], (1 : Int), false) = r2 at *
  generalize ([(nX, (1 : Int)), (nY, (-1 : Int))], (0 : Int), true) = r3 at *
  generalize ([(nX, (-1 : Int)), (nY, (1 : Int))], (1 : Int), false) = r4 at *
  simp only [bigC, rowC, coefsA] at *
  refine call_pure Try.func8 rfl rfl (by decide +kernel) (by decide +kernel) Try.ntmps8 rfl rfl _ _ _ rfl ?_; rw [RK_KX]
  simp (maxSteps := 1000000) +contextual (disch := first | with_reducible assumption | exact ⟨rfl⟩ | exact ⟨rfl, rfl⟩ | (refine _root_.id ?_; kernel_rfl) | omega) only [evs, ext_mv, nth, put, putT, getT, binInt, binStr, binBool, aUn, outA, resA, mapO, resA1, oneOf, w1, w2, w3, bots, cond_true, cond_false, if_true, if_false, ite_true, ite_false, reduceIte, reduceCtorEq, implies_true, Nat.reduceAdd, Nat.reduceSub, AV.int, AV.bool, AV.str, Nat.reduceBEq, Nat.reduceEqDiff, Nat.reduceMul, Nat.reduceLT, Nat.reduceLeDiff, Int.reduceNeg, BEq.rfl, beq_self_eq_true, tabl, cellsOf, fldA, ldA, stA, entAt, partA, takeN, over, leafOk, Value.oneCell', idxA, nilA, cellsEq, fillA, elemsA, pure1, pure2, reps, chkA, tys, Try.results8, KX_draw, KX_drawQ, KX_tail, lastO_one, lastO_more, dropL_one, dropL_more, callP_eq, callM_true, hO1, hO3, hO0, hO2, hOm, hR1, hR2, hR3, hR4, hC1, hC2, hC3, hC4, hC5, hU, hS, digA, check_t, trim_t, same_t, used_t]
  rfl
end
end Go.Proofs.Ytmgbmbganlndkaa
/-
  The law's own loops: small, numbers; the first two laws.
-/

namespace Go.Proofs.Ytmgbmbganlndkaa
open Go
def okR (r : RowT) : Bool := decide (r.1.length ≤ 30) && r.1.all fun c => decide (c.1.size ≤ 500)
def okM (m : BigT) : Bool := decide (m.2.length ≤ 30)
def smallB (l : List RowT) (ms : List BigT) : Bool := decide (l.length ≤ 70) && (decide (ms.length ≤ 70) && (l.all okR && ms.all okM))
section
variable (S : List Ent) (tk : List Nat) (k : Nat)
set_option maxRecDepth 100000 in
set_option maxHeartbeats 1000000 in
theorem L14_small (l : List RowT) (ms : List BigT) : cL Try.prog 7 [rowsA l, bigsA ms] S tk k = some (.bool (smallB l ms), S, tk, k) := by
  refine call_pure Try.func7 rfl rfl (by decide +kernel) (by decide +kernel) Try.ntmps7 rfl rfl _ _ _ rfl ?_; rw [RK_KX]
  by_cases h1 : l.length ≤ 70
  rotate_left
  · have d0 : decide ((l.length : Int) > 70) = true := by simp; omega
    have hr : smallB l ms = false := by unfold smallB; simp [h1]
    simp (maxSteps := 1000000) +contextual (disch := first | with_reducible assumption | exact ⟨rfl⟩ | exact ⟨rfl, rfl⟩ | (refine _root_.id ?_; kernel_rfl) | omega) only [evs, ext_mv, nth, put, putT, getT, binInt, binStr, binBool, aUn, outA, resA, mapO, resA1, oneOf, w1, w2, w3, bots, cond_true, cond_false, if_true, if_false, ite_true, ite_false, reduceIte, reduceCtorEq, implies_true, Nat.reduceAdd, Nat.reduceSub, AV.int, AV.bool, AV.str, Nat.reduceBEq, Nat.reduceEqDiff, Nat.reduceMul, Nat.reduceLT, Nat.reduceLeDiff, Int.reduceNeg, BEq.rfl, beq_self_eq_true, tabl, cellsOf, fldA, ldA, stA, entAt, partA, takeN, over, leafOk, Value.oneCell', idxA, nilA, cellsEq, fillA, elemsA, pure1, pure2, reps, chkA, tys, Try.results7, KX_draw, KX_drawQ, KX_tail, lastO_one, lastO_more, dropL_one, dropL_more, callP_eq, callM_true, rowsA, bigsA, d0]
    rw [hr]
  have d0 : decide ((l.length : Int) > 70) = false := by simp; omega
  by_cases h2 : ms.length ≤ 70
  rotate_left
  · have d1 : decide ((ms.length : Int) > 70) = true := by simp; omega
    have hr : smallB l ms = false := by unfold smallB; simp [h2]
    simp (maxSteps := 1000000) +contextual (disch := first | with_reducible assumption | exact ⟨rfl⟩ | exact ⟨rfl, rfl⟩ | (refine _root_.id ?_; kernel_rfl) | omega) only [evs, ext_mv, nth, put, putT, getT, binInt, binStr, binBool, aUn, outA, resA, mapO, resA1, oneOf, w1, w2, w3, bots, cond_true, cond_false, if_true, if_false, ite_true, ite_false, reduceIte, reduceCtorEq, implies_true, Nat.reduceAdd, Nat.reduceSub, AV.int, AV.bool, AV.str, Nat.reduceBEq, Nat.reduceEqDiff, Nat.reduceMul, Nat.reduceLT, Nat.reduceLeDiff, Int.reduceNeg, BEq.rfl, beq_self_eq_true, tabl, cellsOf, fldA, ldA, stA, entAt, partA, takeN, over, leafOk, Value.oneCell', idxA, nilA, cellsEq, fillA, elemsA, pure1, pure2, reps, chkA, tys, Try.results7, KX_draw, KX_drawQ, KX_tail, lastO_one, lastO_more, dropL_one, dropL_more, callP_eq, callM_true, rowsA, bigsA, d0, d1]
    rw [hr]
  have d1 : decide ((ms.length : Int) > 70) = false := by simp; omega
  have hsm : smallB l ms = (l.all okR && ms.all okM) := by unfold smallB; simp [h1, h2]
  rw [hsm]
  simp (maxSteps := 1000000) +contextual (disch := first | with_reducible assumption | exact ⟨rfl⟩ | exact ⟨rfl, rfl⟩ | (refine _root_.id ?_; kernel_rfl) | omega) only [evs, ext_mv, nth, put, putT, getT, binInt, binStr, binBool, aUn, outA, resA, mapO, resA1, oneOf, w1, w2, w3, bots, cond_true, cond_false, if_true, if_false, ite_true, ite_false, reduceIte, reduceCtorEq, implies_true, Nat.reduceAdd, Nat.reduceSub, AV.int, AV.bool, AV.str, Nat.reduceBEq, Nat.reduceEqDiff, Nat.reduceMul, Nat.reduceLT, Nat.reduceLeDiff, Int.reduceNeg, BEq.rfl, beq_self_eq_true, tabl, cellsOf, fldA, ldA, stA, entAt, partA, takeN, over, leafOk, Value.oneCell', idxA, nilA, cellsEq, fillA, elemsA, pure1, pure2, reps, chkA, tys, Try.results7, KX_draw, KX_drawQ, KX_tail, lastO_one, lastO_more, dropL_one, dropL_more, callP_eq, callM_true, rowsA, bigsA, d0, d1]
  clear d0 d1 hsm
  refine loop1 (fun x st => st.T.length = 60 ∧ (x ≤ l.length) ∧ (l.all okR = (l.drop x).all okR) ∧ getT st.T 0 = rowsA l ∧ getT st.T 1 = bigsA ms ∧ getT st.T 5 = .int (x : Nat) ∧ st.S = []) (fun x => l.length - x) (fun x => .bool (l.all okR && ms.all okM)) (0) ?_ ?_
  case refine_2 => exact ⟨rfl, Nat.zero_le _, rfl, rfl, rfl, rfl, rfl⟩
  rintro i ⟨T, S', tk', n'⟩ ⟨hl, hi, hE, e0, e1, e5, eS⟩ IH
  subst eS
  obtain ⟨g, hg, hT⟩ := tab_of hl
  rw [hg] at e0 e1 e5
  subst hT
  clear hg hl
  have OUT := IH
  clear IH
  have hiw := wrap_add (i := i) (by omega)
  by_cases hlt : i < l.length
  · have d1 : decide ((i : Int) < (l.length : Int)) = true := by simpa using hlt
    obtain ⟨r, hr⟩ := nth_some hlt
    have hr' := nth_row hr
    rw [nth_drop hr, List.all_cons] at hE
    simp only [rowC] at hr'
    simp (maxSteps := 1000000) +contextual (disch := first | with_reducible assumption | exact ⟨rfl⟩ | exact ⟨rfl, rfl⟩ | (refine _root_.id ?_; kernel_rfl) | omega) only [evs, ext_mv, nth, put, putT, getT, binInt, binStr, binBool, aUn, outA, resA, mapO, resA1, oneOf, w1, w2, w3, bots, cond_true, cond_false, if_true, if_false, ite_true, ite_false, reduceIte, reduceCtorEq, implies_true, Nat.reduceAdd, Nat.reduceSub, AV.int, AV.bool, AV.str, Nat.reduceBEq, Nat.reduceEqDiff, Nat.reduceMul, Nat.reduceLT, Nat.reduceLeDiff, Int.reduceNeg, BEq.rfl, beq_self_eq_true, tabl, cellsOf, fldA, ldA, stA, entAt, partA, takeN, over, leafOk, Value.oneCell', idxA, nilA, cellsEq, fillA, elemsA, pure1, pure2, reps, chkA, tys, Try.results7, KX_draw, KX_drawQ, KX_tail, lastO_one, lastO_more, dropL_one, dropL_more, callP_eq, callM_true, e0, e1, e5, d1, rowsA, bigsA, hr']
    refine loop1 (fun x st => st.T.length = 60 ∧ (x ≤ r.1.length) ∧ (x ≤ 30) ∧ (okR r = (decide (r.1.length ≤ 30) && (r.1.drop x).all fun c => decide (c.1.size ≤ 500))) ∧ getT st.T 0 = rowsA l ∧ getT st.T 1 = bigsA ms ∧ getT st.T 5 = .int (i : Nat) ∧ getT st.T 6 = .int (x : Nat) ∧ st.S = []) (fun x => r.1.length - x) (fun x => .bool (l.all okR && ms.all okM)) (0) ?_ ?_
    case refine_2 => exact ⟨rfl, Nat.zero_le _, Nat.zero_le _, rfl, rfl, rfl, rfl, rfl, rfl⟩
    rintro j ⟨T, S', tk', n'⟩ ⟨hl, hj, hj30, hR, e0, e1, e5, e6, eS⟩ IH
    subst eS
    obtain ⟨g, hg, hT⟩ := tab_of hl
    rw [hg] at e0 e1 e5 e6
    subst hT
    clear hg hl
    have hjw := wrap_add (i := j) (by omega)
    by_cases hlt2 : j < r.1.length
    · have d2 : decide ((j : Int) < (r.1.length : Int)) = true := by simpa using hlt2
      obtain ⟨c, hc⟩ := nth_some hlt2
      have hc' := nth_coef hc
      rw [nth_drop hc, List.all_cons] at hR
      simp only [coefC] at hc'
      by_cases h30 : 30 ≤ j
      · have d3 : decide ((j : Int) ≥ 30) = true := by simp; omega
        simp (maxSteps := 1000000) +contextual (disch := first | with_reducible assumption | exact ⟨rfl⟩ | exact ⟨rfl, rfl⟩ | (refine _root_.id ?_; kernel_rfl) | omega) only [evs, ext_mv, nth, put, putT, getT, binInt, binStr, binBool, aUn, outA, resA, mapO, resA1, oneOf, w1, w2, w3, bots, cond_true, cond_false, if_true, if_false, ite_true, ite_false, reduceIte, reduceCtorEq, implies_true, Nat.reduceAdd, Nat.reduceSub, AV.int, AV.bool, AV.str, Nat.reduceBEq, Nat.reduceEqDiff, Nat.reduceMul, Nat.reduceLT, Nat.reduceLeDiff, Int.reduceNeg, BEq.rfl, beq_self_eq_true, tabl, cellsOf, fldA, ldA, stA, entAt, partA, takeN, over, leafOk, Value.oneCell', idxA, nilA, cellsEq, fillA, elemsA, pure1, pure2, reps, chkA, tys, Try.results7, KX_draw, KX_drawQ, KX_tail, lastO_one, lastO_more, dropL_one, dropL_more, callP_eq, callM_true, e0, e1, e5, e6, d1, d2, d3, rowsA, bigsA, coefsA, hr', hc']
        have : decide (r.1.length ≤ 30) = false := by simp; omega
        rw [hE, hR, this]; rfl
      · have d3 : decide ((j : Int) ≥ 30) = false := by simp; omega
        by_cases h500 : c.1.size ≤ 500
        · have d4 : decide ((c.1.size : Int) > 500) = false := by simp; omega
          simp (maxSteps := 1000000) +contextual (disch := first | with_reducible assumption | exact ⟨rfl⟩ | exact ⟨rfl, rfl⟩ | (refine _root_.id ?_; kernel_rfl) | omega) only [evs, ext_mv, nth, put, putT, getT, binInt, binStr, binBool, aUn, outA, resA, mapO, resA1, oneOf, w1, w2, w3, bots, cond_true, cond_false, if_true, if_false, ite_true, ite_false, reduceIte, reduceCtorEq, implies_true, Nat.reduceAdd, Nat.reduceSub, AV.int, AV.bool, AV.str, Nat.reduceBEq, Nat.reduceEqDiff, Nat.reduceMul, Nat.reduceLT, Nat.reduceLeDiff, Int.reduceNeg, BEq.rfl, beq_self_eq_true, tabl, cellsOf, fldA, ldA, stA, entAt, partA, takeN, over, leafOk, Value.oneCell', idxA, nilA, cellsEq, fillA, elemsA, pure1, pure2, reps, chkA, tys, Try.results7, KX_draw, KX_drawQ, KX_tail, lastO_one, lastO_more, dropL_one, dropL_more, callP_eq, callM_true, e0, e1, e5, e6, d1, d2, d3, d4, rowsA, bigsA, coefsA, hr', hc', hjw]
          exact IH (j + 1) _ (by first | omega | (simp only; omega)) ⟨rfl, by first | omega | (dsimp only; omega), by first | omega | (dsimp only; omega), by rw [hR]; simp [h500], (by first | rfl | simp only [getT, List.map_append, List.map_cons, List.map_nil, and_self]), (by first | rfl | simp only [getT, List.map_append, List.map_cons, List.map_nil, and_self]), (by first | rfl | simp only [getT, List.map_append, List.map_cons, List.map_nil, and_self]), (by first | rfl | simp only [getT, List.map_append, List.map_cons, List.map_nil, and_self]), (by first | rfl | simp only [getT, List.map_append, List.map_cons, List.map_nil, and_self])⟩
        · have d4 : decide ((c.1.size : Int) > 500) = true := by simp; omega
          simp (maxSteps := 1000000) +contextual (disch := first | with_reducible assumption | exact ⟨rfl⟩ | exact ⟨rfl, rfl⟩ | (refine _root_.id ?_; kernel_rfl) | omega) only [evs, ext_mv, nth, put, putT, getT, binInt, binStr, binBool, aUn, outA, resA, mapO, resA1, oneOf, w1, w2, w3, bots, cond_true, cond_false, if_true, if_false, ite_true, ite_false, reduceIte, reduceCtorEq, implies_true, Nat.reduceAdd, Nat.reduceSub, AV.int, AV.bool, AV.str, Nat.reduceBEq, Nat.reduceEqDiff, Nat.reduceMul, Nat.reduceLT, Nat.reduceLeDiff, Int.reduceNeg, BEq.rfl, beq_self_eq_true, tabl, cellsOf, fldA, ldA, stA, entAt, partA, takeN, over, leafOk, Value.oneCell', idxA, nilA, cellsEq, fillA, elemsA, pure1, pure2, reps, chkA, tys, Try.results7, KX_draw, KX_drawQ, KX_tail, lastO_one, lastO_more, dropL_one, dropL_more, callP_eq, callM_true, e0, e1, e5, e6, d1, d2, d3, d4, rowsA, bigsA, coefsA, hr', hc', hjw]
          rw [hE, hR]; simp [h500]
    · have d2 : decide ((j : Int) < (r.1.length : Int)) = false := by simpa using hlt2
      have hje : j = r.1.length := by omega
      simp (maxSteps := 1000000) +contextual (disch := first | with_reducible assumption | exact ⟨rfl⟩ | exact ⟨rfl, rfl⟩ | (refine _root_.id ?_; kernel_rfl) | omega) only [evs, ext_mv, nth, put, putT, getT, binInt, binStr, binBool, aUn, outA, resA, mapO, resA1, oneOf, w1, w2, w3, bots, cond_true, cond_false, if_true, if_false, ite_true, ite_false, reduceIte, reduceCtorEq, implies_true, Nat.reduceAdd, Nat.reduceSub, AV.int, AV.bool, AV.str, Nat.reduceBEq, Nat.reduceEqDiff, Nat.reduceMul, Nat.reduceLT, Nat.reduceLeDiff, Int.reduceNeg, BEq.rfl, beq_self_eq_true, tabl, cellsOf, fldA, ldA, stA, entAt, partA, takeN, over, leafOk, Value.oneCell', idxA, nilA, cellsEq, fillA, elemsA, pure1, pure2, reps, chkA, tys, Try.results7, KX_draw, KX_drawQ, KX_tail, lastO_one, lastO_more, dropL_one, dropL_more, callP_eq, callM_true, e0, e1, e5, e6, d1, d2, rowsA, bigsA, coefsA, hr', hiw]
      exact OUT (i + 1) _ (by first | omega | (simp only; omega)) ⟨rfl, by first | omega | (dsimp only; omega), by rw [hE, hR, hje]; simp; omega, (by first | rfl | simp only [getT, List.map_append, List.map_cons, List.map_nil, and_self]), (by first | rfl | simp only [getT, List.map_append, List.map_cons, List.map_nil, and_self]), (by first | rfl | simp only [getT, List.map_append, List.map_cons, List.map_nil, and_self]), (by first | rfl | simp only [getT, List.map_append, List.map_cons, List.map_nil, and_self])⟩
  have d1 : decide ((i : Int) < (l.length : Int)) = false := by simpa using hlt
  have hie : i = l.length := by omega
  have hA : l.all okR = true := by rw [hE, hie, List.drop_length]; rfl
  rw [hA, Bool.true_and]
  simp (maxSteps := 1000000) +contextual (disch := first | with_reducible assumption | exact ⟨rfl⟩ | exact ⟨rfl, rfl⟩ | (refine _root_.id ?_; kernel_rfl) | omega) only [evs, ext_mv, nth, put, putT, getT, binInt, binStr, binBool, aUn, outA, resA, mapO, resA1, oneOf, w1, w2, w3, bots, cond_true, cond_false, if_true, if_false, ite_true, ite_false, reduceIte, reduceCtorEq, implies_true, Nat.reduceAdd, Nat.reduceSub, AV.int, AV.bool, AV.str, Nat.reduceBEq, Nat.reduceEqDiff, Nat.reduceMul, Nat.reduceLT, Nat.reduceLeDiff, Int.reduceNeg, BEq.rfl, beq_self_eq_true, tabl, cellsOf, fldA, ldA, stA, entAt, partA, takeN, over, leafOk, Value.oneCell', idxA, nilA, cellsEq, fillA, elemsA, pure1, pure2, reps, chkA, tys, Try.results7, KX_draw, KX_drawQ, KX_tail, lastO_one, lastO_more, dropL_one, dropL_more, callP_eq, callM_true, e0, e1, e5, d1, rowsA, bigsA]
  clear hE hi hiw hlt d1 hie
  refine loop1 (fun x st => st.T.length = 60 ∧ (x ≤ ms.length) ∧ (ms.all okM = (ms.drop x).all okM) ∧ getT st.T 0 = rowsA l ∧ getT st.T 1 = bigsA ms ∧ getT st.T 7 = .int (x : Nat) ∧ st.S = []) (fun x => ms.length - x) (fun x => .bool (ms.all okM)) (0) ?_ ?_
  case refine_2 => exact ⟨rfl, Nat.zero_le _, rfl, rfl, rfl, rfl, rfl⟩
  rintro i ⟨T, S', tk', n'⟩ ⟨hl, hi, hE, e0, e1, e7, eS⟩ IH
  subst eS
  obtain ⟨g, hg, hT⟩ := tab_of hl
  rw [hg] at e0 e1 e7
  subst hT
  clear hg hl
  have hiw := wrap_add (i := i) (by omega)
  by_cases hlt : i < ms.length
  · have d1 : decide ((i : Int) < (ms.length : Int)) = true := by simpa using hlt
    obtain ⟨m, hx⟩ := nth_some hlt
    have hx' := nth_big hx
    rw [nth_drop hx, List.all_cons] at hE
    have hL := fun S tk k => R02_Long S tk k m.1 m.2 30
    simp only [bigC] at hx'
    simp only [bigA, digA] at hL
    by_cases h30 : m.2.length ≤ 30
    · have d2 : decide ((m.2.length : Int) > 30) = false := by simp; omega
      simp (maxSteps := 1000000) +contextual (disch := first | with_reducible assumption | exact ⟨rfl⟩ | exact ⟨rfl, rfl⟩ | (refine _root_.id ?_; kernel_rfl) | omega) only [evs, ext_mv, nth, put, putT, getT, binInt, binStr, binBool, aUn, outA, resA, mapO, resA1, oneOf, w1, w2, w3, bots, cond_true, cond_false, if_true, if_false, ite_true, ite_false, reduceIte, reduceCtorEq, implies_true, Nat.reduceAdd, Nat.reduceSub, AV.int, AV.bool, AV.str, Nat.reduceBEq, Nat.reduceEqDiff, Nat.reduceMul, Nat.reduceLT, Nat.reduceLeDiff, Int.reduceNeg, BEq.rfl, beq_self_eq_true, tabl, cellsOf, fldA, ldA, stA, entAt, partA, takeN, over, leafOk, Value.oneCell', idxA, nilA, cellsEq, fillA, elemsA, pure1, pure2, reps, chkA, tys, Try.results7, KX_draw, KX_drawQ, KX_tail, lastO_one, lastO_more, dropL_one, dropL_more, callP_eq, callM_true, e0, e1, e7, d1, d2, rowsA, bigsA, hx', hL, hiw]
      exact IH (i + 1) _ (by first | omega | (simp only; omega)) ⟨rfl, by first | omega | (dsimp only; omega), by rw [hE]; simp [okM, h30], (by first | rfl | simp only [getT, List.map_append, List.map_cons, List.map_nil, and_self]), (by first | rfl | simp only [getT, List.map_append, List.map_cons, List.map_nil, and_self]), (by first | rfl | simp only [getT, List.map_append, List.map_cons, List.map_nil, and_self]), (by first | rfl | simp only [getT, List.map_append, List.map_cons, List.map_nil, and_self])⟩
    · have d2 : decide ((m.2.length : Int) > 30) = true := by simp; omega
      simp (maxSteps := 1000000) +contextual (disch := first | with_reducible assumption | exact ⟨rfl⟩ | exact ⟨rfl, rfl⟩ | (refine _root_.id ?_; kernel_rfl) | omega) only [evs, ext_mv, nth, put, putT, getT, binInt, binStr, binBool, aUn, outA, resA, mapO, resA1, oneOf, w1, w2, w3, bots, cond_true, cond_false, if_true, if_false, ite_true, ite_false, reduceIte, reduceCtorEq, implies_true, Nat.reduceAdd, Nat.reduceSub, AV.int, AV.bool, AV.str, Nat.reduceBEq, Nat.reduceEqDiff, Nat.reduceMul, Nat.reduceLT, Nat.reduceLeDiff, Int.reduceNeg, BEq.rfl, beq_self_eq_true, tabl, cellsOf, fldA, ldA, stA, entAt, partA, takeN, over, leafOk, Value.oneCell', idxA, nilA, cellsEq, fillA, elemsA, pure1, pure2, reps, chkA, tys, Try.results7, KX_draw, KX_drawQ, KX_tail, lastO_one, lastO_more, dropL_one, dropL_more, callP_eq, callM_true, e0, e1, e7, d1, d2, rowsA, bigsA, hx', hL, hiw]
      rw [hE]; simp [okM, h30]
  · have d1 : decide ((i : Int) < (ms.length : Int)) = false := by simpa using hlt
    have hie : i = ms.length := by omega
    simp (maxSteps := 1000000) +contextual (disch := first | with_reducible assumption | exact ⟨rfl⟩ | exact ⟨rfl, rfl⟩ | (refine _root_.id ?_; kernel_rfl) | omega) only [evs, ext_mv, nth, put, putT, getT, binInt, binStr, binBool, aUn, outA, resA, mapO, resA1, oneOf, w1, w2, w3, bots, cond_true, cond_false, if_true, if_false, ite_true, ite_false, reduceIte, reduceCtorEq, implies_true, Nat.reduceAdd, Nat.reduceSub, AV.int, AV.bool, AV.str, Nat.reduceBEq, Nat.reduceEqDiff, Nat.reduceMul, Nat.reduceLT, Nat.reduceLeDiff, Int.reduceNeg, BEq.rfl, beq_self_eq_true, tabl, cellsOf, fldA, ldA, stA, entAt, partA, takeN, over, leafOk, Value.oneCell', idxA, nilA, cellsEq, fillA, elemsA, pure1, pure2, reps, chkA, tys, Try.results7, KX_draw, KX_drawQ, KX_tail, lastO_one, lastO_more, dropL_one, dropL_more, callP_eq, callM_true, e0, e1, e7, d1, rowsA, bigsA]
    rw [hE, hie, List.drop_length]; rfl
end
theorem small_facts {l : List RowT} {ms : List BigT} (h : smallB l ms = true) : l.length ≤ 70 ∧ ms.length ≤ 70 ∧ (∀ r ∈ l, r.1.length ≤ 30) ∧ ∀ m ∈ ms, m.2.length ≤ 30 := by
  unfold smallB at h
  simp only [Bool.and_eq_true, decide_eq_true_eq, List.all_eq_true] at h
  refine ⟨h.1, h.2.1, fun r hr => ?_, fun m hm => ?_⟩
  · have := h.2.2.1 r hr
    simp only [okR, Bool.and_eq_true, decide_eq_true_eq] at this
    exact this.1
  · have := h.2.2.2 m hm
    simpa [okM] using this
theorem sameB_self : ∀ l : List BigT, sameB l l = true
  | [] => rfl
  | a :: l => by simp [sameB, sameB_self l]
end Go.Proofs.Ytmgbmbganlndkaa
/-
  The first two laws, walked.
-/

namespace Go.Proofs.Ytmgbmbganlndkaa
open Go
theorem gcd_nn (ms : List BigT) : ∀ i, 0 ≤ gcdN ms i
  | 0 => Int.le_refl _
  | i + 1 => by
    rw [gcdN]
    split
    · exact Int.natCast_nonneg _
    · exact gcd_nn ms i
theorem quo_ok {ms : List BigT} (hm : ∀ m ∈ ms, m.2.length ≤ 100) {m : BigT} (h : m ∈ ms) (i : Nat) : okZ (quoZ (vB m) (gcdN ms i)) = true := by
  unfold quoZ
  split
  · rfl
  · rw [Int.fdiv_eq_ediv_of_nonneg _ (gcd_nn ms i)]
    exact okZ_of (Nat.lt_of_le_of_lt (Int.natAbs_ediv_le_natAbs _ _) (V_small m.1 m.2 (hm m h))) (by decide)
theorem trim_small {ms : List BigT} (hm : ∀ m ∈ ms, m.2.length ≤ 100) : ∀ m ∈ trimL' ms, m.2.length ≤ 1000000 := by
  intro m h
  obtain ⟨a, ha, rfl⟩ := List.mem_map.1 h
  have := zA_len (quo_ok hm ha ms.length)
  show (dig (quoZ (vB a) (gcdN ms ms.length)).natAbs).length ≤ 1000000
  omega
section
variable (S : List Ent) (tk : List Nat) (k : Nat)
theorem L14_numbers (a b : List Int) (hl : a.length ≤ 1000000) : cL Try.prog 17 [digA a, digA b] S tk k = some (.bool (decide (a = b)), S, tk, k) := by
  refine call_pure Try.func17 rfl rfl (by decide +kernel) (by decide +kernel) Try.ntmps17 rfl rfl _ _ _ rfl ?_; rw [RK_KX]
  by_cases hlen : a.length = b.length
  rotate_left
  · have d0 : ((a.length : Int) != (b.length : Int)) = true := by simp; omega
    have hr : decide (a = b) = false := by
      simp only [decide_eq_false_iff_not]; intro h; subst h; exact hlen rfl
    simp (maxSteps := 1000000) +contextual (disch := first | with_reducible assumption | exact ⟨rfl⟩ | exact ⟨rfl, rfl⟩ | (refine _root_.id ?_; kernel_rfl) | omega) only [evs, ext_mv, nth, put, putT, getT, binInt, binStr, binBool, aUn, outA, resA, mapO, resA1, oneOf, w1, w2, w3, bots, cond_true, cond_false, if_true, if_false, ite_true, ite_false, reduceIte, reduceCtorEq, implies_true, Nat.reduceAdd, Nat.reduceSub, AV.int, AV.bool, AV.str, Nat.reduceBEq, Nat.reduceEqDiff, Nat.reduceMul, Nat.reduceLT, Nat.reduceLeDiff, Int.reduceNeg, BEq.rfl, beq_self_eq_true, tabl, cellsOf, fldA, ldA, stA, entAt, partA, takeN, over, leafOk, Value.oneCell', idxA, nilA, cellsEq, fillA, elemsA, pure1, pure2, reps, chkA, tys, Try.results17, KX_draw, KX_drawQ, KX_tail, lastO_one, lastO_more, dropL_one, dropL_more, callP_eq, callM_true, digA, d0]
    rw [hr]
  have d0 : ((a.length : Int) != (b.length : Int)) = false := by simp; omega
  simp (maxSteps := 1000000) +contextual (disch := first | with_reducible assumption | exact ⟨rfl⟩ | exact ⟨rfl, rfl⟩ | (refine _root_.id ?_; kernel_rfl) | omega) only [evs, ext_mv, nth, put, putT, getT, binInt, binStr, binBool, aUn, outA, resA, mapO, resA1, oneOf, w1, w2, w3, bots, cond_true, cond_false, if_true, if_false, ite_true, ite_false, reduceIte, reduceCtorEq, implies_true, Nat.reduceAdd, Nat.reduceSub, AV.int, AV.bool, AV.str, Nat.reduceBEq, Nat.reduceEqDiff, Nat.reduceMul, Nat.reduceLT, Nat.reduceLeDiff, Int.reduceNeg, BEq.rfl, beq_self_eq_true, tabl, cellsOf, fldA, ldA, stA, entAt, partA, takeN, over, leafOk, Value.oneCell', idxA, nilA, cellsEq, fillA, elemsA, pure1, pure2, reps, chkA, tys, Try.results17, KX_draw, KX_drawQ, KX_tail, lastO_one, lastO_more, dropL_one, dropL_more, callP_eq, callM_true, digA, d0]
  refine loop1 (fun x st => st.T.length = 26 ∧ (x ≤ a.length) ∧ (decide (a = b) = decide (a.drop x = b.drop x)) ∧ getT st.T 0 = digA a ∧ getT st.T 1 = digA b ∧ getT st.T 5 = .int (x : Nat) ∧ st.S = []) (fun x => a.length - x) (fun x => .bool (decide (a = b))) (0) ?_ ?_
  case refine_2 => exact ⟨rfl, Nat.zero_le _, rfl, rfl, rfl, rfl, rfl⟩
  rintro i ⟨T, S', tk', n'⟩ ⟨hl, hi, hE, e0, e1, e5, eS⟩ IH
  subst eS
  obtain ⟨g, hg, hT⟩ := tab_of hl
  rw [hg] at e0 e1 e5
  subst hT
  clear hg hl
  have hiw := wrap_add (i := i) (by omega)
  by_cases hlt : i < a.length
  · have d1 : decide ((i : Int) < (a.length : Int)) = true := by simpa using hlt
    obtain ⟨x, hx⟩ := nth_some hlt
    obtain ⟨y, hy⟩ := nth_some (show i < b.length by omega)
    have hx' : nth (a.map digC) i = some [.prim (.int .i64 x)] := by rw [nth_map, hx]; rfl
    have hy' : nth (b.map digC) i = some [.prim (.int .i64 y)] := by rw [nth_map, hy]; rfl
    rw [nth_drop hx, nth_drop hy] at hE
    by_cases h0 : x = y
    · have d2 : (x != y) = false := by simpa using h0
      simp (maxSteps := 1000000) +contextual (disch := first | with_reducible assumption | exact ⟨rfl⟩ | exact ⟨rfl, rfl⟩ | (refine _root_.id ?_; kernel_rfl) | omega) only [evs, ext_mv, nth, put, putT, getT, binInt, binStr, binBool, aUn, outA, resA, mapO, resA1, oneOf, w1, w2, w3, bots, cond_true, cond_false, if_true, if_false, ite_true, ite_false, reduceIte, reduceCtorEq, implies_true, Nat.reduceAdd, Nat.reduceSub, AV.int, AV.bool, AV.str, Nat.reduceBEq, Nat.reduceEqDiff, Nat.reduceMul, Nat.reduceLT, Nat.reduceLeDiff, Int.reduceNeg, BEq.rfl, beq_self_eq_true, tabl, cellsOf, fldA, ldA, stA, entAt, partA, takeN, over, leafOk, Value.oneCell', idxA, nilA, cellsEq, fillA, elemsA, pure1, pure2, reps, chkA, tys, Try.results17, KX_draw, KX_drawQ, KX_tail, lastO_one, lastO_more, dropL_one, dropL_more, callP_eq, callM_true, e0, e1, e5, d1, d2, digA, hx', hy', hiw]
      exact IH (i + 1) _ (by first | omega | (simp only; omega)) ⟨rfl, by first | omega | (dsimp only; omega), by rw [hE, h0]; simp, (by first | rfl | simp only [getT, List.map_append, List.map_cons, List.map_nil, and_self]), (by first | rfl | simp only [getT, List.map_append, List.map_cons, List.map_nil, and_self]), (by first | rfl | simp only [getT, List.map_append, List.map_cons, List.map_nil, and_self]), (by first | rfl | simp only [getT, List.map_append, List.map_cons, List.map_nil, and_self])⟩
    · have d2 : (x != y) = true := by simpa using h0
      simp (maxSteps := 1000000) +contextual (disch := first | with_reducible assumption | exact ⟨rfl⟩ | exact ⟨rfl, rfl⟩ | (refine _root_.id ?_; kernel_rfl) | omega) only [evs, ext_mv, nth, put, putT, getT, binInt, binStr, binBool, aUn, outA, resA, mapO, resA1, oneOf, w1, w2, w3, bots, cond_true, cond_false, if_true, if_false, ite_true, ite_false, reduceIte, reduceCtorEq, implies_true, Nat.reduceAdd, Nat.reduceSub, AV.int, AV.bool, AV.str, Nat.reduceBEq, Nat.reduceEqDiff, Nat.reduceMul, Nat.reduceLT, Nat.reduceLeDiff, Int.reduceNeg, BEq.rfl, beq_self_eq_true, tabl, cellsOf, fldA, ldA, stA, entAt, partA, takeN, over, leafOk, Value.oneCell', idxA, nilA, cellsEq, fillA, elemsA, pure1, pure2, reps, chkA, tys, Try.results17, KX_draw, KX_drawQ, KX_tail, lastO_one, lastO_more, dropL_one, dropL_more, callP_eq, callM_true, e0, e1, e5, d1, d2, digA, hx', hy', hiw]
      rw [hE]; simp [h0]
  · have d1 : decide ((i : Int) < (a.length : Int)) = false := by simpa using hlt
    have hie : i = a.length := by omega
    simp (maxSteps := 1000000) +contextual (disch := first | with_reducible assumption | exact ⟨rfl⟩ | exact ⟨rfl, rfl⟩ | (refine _root_.id ?_; kernel_rfl) | omega) only [evs, ext_mv, nth, put, putT, getT, binInt, binStr, binBool, aUn, outA, resA, mapO, resA1, oneOf, w1, w2, w3, bots, cond_true, cond_false, if_true, if_false, ite_true, ite_false, reduceIte, reduceCtorEq, implies_true, Nat.reduceAdd, Nat.reduceSub, AV.int, AV.bool, AV.str, Nat.reduceBEq, Nat.reduceEqDiff, Nat.reduceMul, Nat.reduceLT, Nat.reduceLeDiff, Int.reduceNeg, BEq.rfl, beq_self_eq_true, tabl, cellsOf, fldA, ldA, stA, entAt, partA, takeN, over, leafOk, Value.oneCell', idxA, nilA, cellsEq, fillA, elemsA, pure1, pure2, reps, chkA, tys, Try.results17, KX_draw, KX_drawQ, KX_tail, lastO_one, lastO_more, dropL_one, dropL_more, callP_eq, callM_true, e0, e1, e5, d1, digA]
    have e1 : a.drop i = [] := by rw [hie, List.drop_length]
    have e2 : b.drop i = [] := by rw [hie, hlen, List.drop_length]
    rw [hE, e1, e2]; rfl
theorem comb_facts {l : List RowT} {ms : List BigT} (hm : ∀ m ∈ ms, m.2.length ≤ 100) (hE : combE l ms = 0) : sysE l = 0 ∧ (varsF l).length ≤ 24 ∧ l.length ≤ 64 ∧ (∀ v, okZ (sumF l ms v) = true) ∧ okZ (constF l ms) = true := by
  have hs : sysE l = 0 := by
    unfold combE at hE
    split at hE
    · cases hE
    · split at hE
      · cases hE
      · split at hE
        · cases hE
        · exact hE
  have hlen := (sys_few hs).2.1
  have hin := first_in (sys_few hs).2.2.2
  exact ⟨hs, (sys_few hs).2.2.1, hlen, fun v => ok_le (by omega) (dot_lt (fun r hr => coef_i64 (hin r hr).2 v) hm l.length), ok_le (by omega) (dot_lt (fun r hr => (hin r hr).1) hm l.length)⟩
set_option maxRecDepth 100000 in
theorem L14_FarkasCombines (l : List RowT) (ms : List BigT) : cL Try.prog 3 [rowsA l, bigsA ms] S tk k = some (.bool true, S, tk, k) := by
  have hS := fun S tk k => L14_small S tk k l ms
  have hA := fun S tk k => L14_awake S tk k
  simp only [rowsA, bigsA] at hS
  refine call_pure Try.func3 rfl rfl (by decide +kernel) (by decide +kernel) Try.ntmps3 rfl rfl _ _ _ rfl ?_; rw [RK_KX]
  cases hsm : smallB l ms with
  | false =>
    rw [hsm] at hS
    simp (maxSteps := 1000000) +contextual (disch := first | with_reducible assumption | exact ⟨rfl⟩ | exact ⟨rfl, rfl⟩ | (refine _root_.id ?_; kernel_rfl) | omega) only [evs, ext_mv, nth, put, putT, getT, binInt, binStr, binBool, aUn, outA, resA, mapO, resA1, oneOf, w1, w2, w3, bots, cond_true, cond_false, if_true, if_false, ite_true, ite_false, reduceIte, reduceCtorEq, implies_true, Nat.reduceAdd, Nat.reduceSub, AV.int, AV.bool, AV.str, Nat.reduceBEq, Nat.reduceEqDiff, Nat.reduceMul, Nat.reduceLT, Nat.reduceLeDiff, Int.reduceNeg, BEq.rfl, beq_self_eq_true, tabl, cellsOf, fldA, ldA, stA, entAt, partA, takeN, over, leafOk, Value.oneCell', idxA, nilA, cellsEq, fillA, elemsA, pure1, pure2, reps, chkA, tys, Try.results3, KX_draw, KX_drawQ, KX_tail, lastO_one, lastO_more, dropL_one, dropL_more, callP_eq, callM_true, rowsA, bigsA, hS, hA]
  | true =>
    rw [hsm] at hS
    obtain ⟨h1, h2, h3, h4⟩ := small_facts hsm
    have hl0 : ∀ r ∈ l, r.1.length ≤ 1048576 := fun r hr => by have := h3 r hr; omega
    have hm : ∀ m ∈ ms, m.2.length ≤ 100 := fun m hm => by have := h4 m hm; omega
    have hC1 := fun S tk k => farkas_Combine S tk k l ms hl0 (by omega) hm
    have hC2 := fun S tk k => R14_Combine S tk k l ms hl0 (by omega) hm
    have hK1 := fun S tk k => farkas_Check S tk k l ms hl0 (by omega) hm
    have hK2 := fun S tk k => R14_Check S tk k l ms hl0 (by omega) hm
    have hR1 := fun S tk k => R14_Same S tk k [] [] (by decide) (by simp)
    have dz := fun n : Int => beq_self_eq_true n
    simp only [rowsA, bigsA] at hC1 hC2 hK1 hK2 hR1
    by_cases hE : combE l ms = 0
    · obtain ⟨hs, hv, hln, o1, o2⟩ := comb_facts hm hE
      have hR2 := fun S tk k => R14_Same S tk k ((varsF l).map fun v => zB (sumF l ms v)) ((varsF l).map fun v => zB (sumF l ms v)) (by simp; omega) (fun m h => by
        obtain ⟨v, -, rfl⟩ := List.mem_map.1 h
        have := zA_len (o1 v)
        show (dig (sumF l ms v).natAbs).length ≤ 1000000
        omega)
      have hR3 := fun S tk k => R02_Same S tk k (decide (constF l ms < 0)) (decide (constF l ms < 0)) (dig (constF l ms).natAbs) (dig (constF l ms).natAbs) (by have := zA_len o2; omega)
      rw [sameB_self] at hR2
      simp only [and_self, decide_true] at hR3
      simp only [combA, if_pos hE, zA, bigA, digA, bigsA] at hC1 hC2 hR2 hR3
      simp (maxSteps := 1000000) +contextual (disch := first | with_reducible assumption | exact ⟨rfl⟩ | exact ⟨rfl, rfl⟩ | (refine _root_.id ?_; kernel_rfl) | omega) only [evs, ext_mv, nth, put, putT, getT, binInt, binStr, binBool, aUn, outA, resA, mapO, resA1, oneOf, w1, w2, w3, bots, cond_true, cond_false, if_true, if_false, ite_true, ite_false, reduceIte, reduceCtorEq, implies_true, Nat.reduceAdd, Nat.reduceSub, AV.int, AV.bool, AV.str, Nat.reduceBEq, Nat.reduceEqDiff, Nat.reduceMul, Nat.reduceLT, Nat.reduceLeDiff, Int.reduceNeg, BEq.rfl, beq_self_eq_true, tabl, cellsOf, fldA, ldA, stA, entAt, partA, takeN, over, leafOk, Value.oneCell', idxA, nilA, cellsEq, fillA, elemsA, pure1, pure2, reps, chkA, tys, Try.results3, KX_draw, KX_drawQ, KX_tail, lastO_one, lastO_more, dropL_one, dropL_more, callP_eq, callM_true, rowsA, bigsA, hS, hA, hC1, hC2, hK1, hK2, hR2, hR3, dz]
    · have hR3 := fun S tk k => R02_Same S tk k false false [] [] (by decide)
      have hz : zA 0 = .agg [.prim (.bool false), .frz [] .unk] := rfl
      simp only [and_self, decide_true, bigA, digA, List.map_nil] at hR3
      rw [sameB_self] at hR1
      simp only [combA, if_neg hE, hz, bigA, digA, bigsA, List.map_nil] at hC1 hC2 hR1
      simp (maxSteps := 1000000) +contextual (disch := first | with_reducible assumption | exact ⟨rfl⟩ | exact ⟨rfl, rfl⟩ | (refine _root_.id ?_; kernel_rfl) | omega) only [evs, ext_mv, nth, put, putT, getT, binInt, binStr, binBool, aUn, outA, resA, mapO, resA1, oneOf, w1, w2, w3, bots, cond_true, cond_false, if_true, if_false, ite_true, ite_false, reduceIte, reduceCtorEq, implies_true, Nat.reduceAdd, Nat.reduceSub, AV.int, AV.bool, AV.str, Nat.reduceBEq, Nat.reduceEqDiff, Nat.reduceMul, Nat.reduceLT, Nat.reduceLeDiff, Int.reduceNeg, BEq.rfl, beq_self_eq_true, tabl, cellsOf, fldA, ldA, stA, entAt, partA, takeN, over, leafOk, Value.oneCell', idxA, nilA, cellsEq, fillA, elemsA, pure1, pure2, reps, chkA, tys, Try.results3, KX_draw, KX_drawQ, KX_tail, lastO_one, lastO_more, dropL_one, dropL_more, callP_eq, callM_true, rowsA, bigsA, hS, hA, hC1, hC2, hK1, hK2, hR1, hR3, dz]
set_option maxRecDepth 100000 in
theorem L14_FarkasTrims (l : List RowT) (ms : List BigT) : cL Try.prog 4 [rowsA l, bigsA ms] S tk k = some (.bool true, S, tk, k) := by
  have hS := fun S tk k => L14_small S tk k l ms
  have hA := fun S tk k => L14_awake S tk k
  simp only [rowsA, bigsA] at hS
  refine call_pure Try.func4 rfl rfl (by decide +kernel) (by decide +kernel) Try.ntmps4 rfl rfl _ _ _ rfl ?_; rw [RK_KX]
  cases hsm : smallB l ms with
  | false =>
    rw [hsm] at hS
    simp (maxSteps := 1000000) +contextual (disch := first | with_reducible assumption | exact ⟨rfl⟩ | exact ⟨rfl, rfl⟩ | (refine _root_.id ?_; kernel_rfl) | omega) only [evs, ext_mv, nth, put, putT, getT, binInt, binStr, binBool, aUn, outA, resA, mapO, resA1, oneOf, w1, w2, w3, bots, cond_true, cond_false, if_true, if_false, ite_true, ite_false, reduceIte, reduceCtorEq, implies_true, Nat.reduceAdd, Nat.reduceSub, AV.int, AV.bool, AV.str, Nat.reduceBEq, Nat.reduceEqDiff, Nat.reduceMul, Nat.reduceLT, Nat.reduceLeDiff, Int.reduceNeg, BEq.rfl, beq_self_eq_true, tabl, cellsOf, fldA, ldA, stA, entAt, partA, takeN, over, leafOk, Value.oneCell', idxA, nilA, cellsEq, fillA, elemsA, pure1, pure2, reps, chkA, tys, Try.results4, KX_draw, KX_drawQ, KX_tail, lastO_one, lastO_more, dropL_one, dropL_more, callP_eq, callM_true, rowsA, bigsA, hS, hA]
  | true =>
    rw [hsm] at hS
    obtain ⟨h1, h2, h3, h4⟩ := small_facts hsm
    have hl0 : ∀ r ∈ l, r.1.length ≤ 1048576 := fun r hr => by have := h3 r hr; omega
    have hm : ∀ m ∈ ms, m.2.length ≤ 100 := fun m hm => by have := h4 m hm; omega
    have hC1 := fun S tk k => farkas_Trim S tk k l ms hl0 (by omega) (by omega) hm
    have hC2 := fun S tk k => R14_Trim S tk k l ms hl0 (by omega) (by omega) hm
    have hU1 := fun S tk k => farkas_Used S tk k ms (by omega) hm
    have hU2 := fun S tk k => R14_Used S tk k ms (by omega) hm
    have hlm := trim_small hm
    generalize hT : (if checkB l ms = true then trimL' ms else []) = T at hC1 hC2
    have hTl : T.length ≤ 1048576 ∧ ∀ m ∈ T, m.2.length ≤ 1000000 := by
      subst hT
      split
      · exact ⟨by simp [trimL']; omega, fun m h => hlm m h⟩
      · exact ⟨by simp, by simp⟩
    have hR := fun S tk k => R14_Same S tk k T T hTl.1 hTl.2
    have hN := fun S tk k => L14_numbers S tk k (usedL 0 ms) (usedL 0 ms) (by have := used_len 0 ms; omega)
    rw [sameB_self] at hR
    simp only [decide_true] at hN
    simp only [rowsA, bigsA, digA] at hC1 hC2 hU1 hU2 hR hN
    simp (maxSteps := 1000000) +contextual (disch := first | with_reducible assumption | exact ⟨rfl⟩ | exact ⟨rfl, rfl⟩ | (refine _root_.id ?_; kernel_rfl) | omega) only [evs, ext_mv, nth, put, putT, getT, binInt, binStr, binBool, aUn, outA, resA, mapO, resA1, oneOf, w1, w2, w3, bots, cond_true, cond_false, if_true, if_false, ite_true, ite_false, reduceIte, reduceCtorEq, implies_true, Nat.reduceAdd, Nat.reduceSub, AV.int, AV.bool, AV.str, Nat.reduceBEq, Nat.reduceEqDiff, Nat.reduceMul, Nat.reduceLT, Nat.reduceLeDiff, Int.reduceNeg, BEq.rfl, beq_self_eq_true, tabl, cellsOf, fldA, ldA, stA, entAt, partA, takeN, over, leafOk, Value.oneCell', idxA, nilA, cellsEq, fillA, elemsA, pure1, pure2, reps, chkA, tys, Try.results4, KX_draw, KX_drawQ, KX_tail, lastO_one, lastO_more, dropL_one, dropL_more, callP_eq, callM_true, rowsA, bigsA, digA, hS, hA, hC1, hC2, hU1, hU2, hR, hN]
end
end Go.Proofs.Ytmgbmbganlndkaa
/-
  Refuted rows have no common point, plainly.
-/

namespace Go.Proofs.Ytmgbmbganlndkaa
open Go
def ptF (X Y : Int) (s : ByteArray) : Int := if s = nX then X else if s = nY then Y else 0
def sumP (X Y : Int) : List (ByteArray × Int) → Int
  | [] => 0
  | c :: cs => c.2 * ptF X Y c.1 + sumP X Y cs
def valR (X Y : Int) (r : RowT) : Int := r.2.1 + sumP X Y r.1
def holdsB (X Y : Int) (r : RowT) : Bool := decide (valR X Y r ≤ 0) && (!r.2.2 || valR X Y r == 0)
theorem xy_ne : nX ≠ nY := by decide
theorem sumP_snoc (X Y : Int) (c : ByteArray × Int) : ∀ cs : List (ByteArray × Int), sumP X Y (cs ++ [c]) = sumP X Y cs + c.2 * ptF X Y c.1
  | [] => by simp [sumP]
  | d :: cs => by simp only [List.cons_append, sumP, sumP_snoc X Y c cs]; omega
theorem sumP_eq (X Y : Int) : ∀ cs : List (ByteArray × Int), sumP X Y cs = sumC nX cs * X + sumC nY cs * Y
  | [] => by simp [sumP, sumC]
  | c :: cs => by
    rw [sumP, sumC, sumC, sumP_eq X Y cs, ptF]
    by_cases h1 : c.1 = nX
    · have h2 : ¬ c.1 = nY := fun h => xy_ne (h1.symm.trans h)
      rw [if_pos h1, if_pos h1, if_neg h2, Int.add_mul, Int.zero_add]; omega
    · by_cases h2 : c.1 = nY
      · rw [if_neg h1, if_pos h2, if_neg h1, if_pos h2, Int.add_mul, Int.add_mul, Int.zero_mul, Int.zero_add]; omega
      · rw [if_neg h1, if_neg h2, if_neg h1, if_neg h2, Int.mul_zero, Int.zero_add, Int.zero_add, Int.zero_add]
theorem coefF_none {s : ByteArray} : ∀ {cs : List (ByteArray × Int)}, (∀ c ∈ cs, c.1 ≠ s) → coefF cs s = 0
  | [], _ => rfl
  | c :: cs, h => by
    rw [coefF, sEq_nm, if_neg (by simpa using h c (by simp)), coefF_none fun x hx => h x (by simp [hx])]
theorem dot_le {f : RowT → Int} {l : List RowT} {ms : List BigT} (h : ∀ i r m, nth l i = some r → nth ms i = some m → vB m * f r ≤ 0) : ∀ i, dotN f l ms i ≤ 0
  | 0 => Int.le_refl _
  | i + 1 => by
    have ih := dot_le h i
    rw [dotN]
    cases h1 : nth l i with
    | none => simpa using ih
    | some r =>
      cases h2 : nth ms i with
      | none => simpa using ih
      | some m => have := h i r m h1 h2; simp only; omega
theorem dot_lin {f g h0 : RowT → Int} {l : List RowT} {ms : List BigT} {X : Int} (h : ∀ r ∈ l, f r = g r + h0 r * X) : ∀ i, dotN f l ms i = dotN g l ms i + dotN h0 l ms i * X
  | 0 => by simp [dotN]
  | i + 1 => by
    rw [dotN, dotN, dotN, dot_lin h i]
    cases h1 : nth l i with
    | none => simp
    | some r =>
      cases h2 : nth ms i with
      | none => simp
      | some m =>
        simp only
        rw [h r (mem_nth h1), Int.mul_add, Int.add_mul, Int.mul_assoc]
        omega
theorem dot_none {f : RowT → Int} {l : List RowT} {ms : List BigT} (h : ∀ r ∈ l, f r = 0) : ∀ i, dotN f l ms i = 0
  | 0 => rfl
  | i + 1 => by
    rw [dotN, dot_none h i]
    cases h1 : nth l i with
    | none => simp
    | some r =>
      cases h2 : nth ms i with
      | none => simp
      | some m => simp only [h r (mem_nth h1), Int.mul_zero, Int.add_zero]
theorem sign_at : ∀ {l : List RowT} {ms : List BigT} {i : Nat} {r : RowT} {m : BigT}, signBad l ms = false → nth l i = some r → nth ms i = some m → r.2.2 = true ∨ m.1 = false
  | r0 :: l, m0 :: ms, 0, r, m, h, h1, h2 => by
    simp only [nth, Option.some.injEq] at h1 h2
    subst h1; subst h2
    simp only [signBad, Bool.or_eq_false_iff] at h
    cases hr : r0.2.2 with
    | true => exact .inl rfl
    | false => simpa [hr] using h.1
  | r0 :: l, m0 :: ms, i + 1, r, m, h, h1, h2 => by
    simp only [signBad, Bool.or_eq_false_iff] at h
    exact sign_at (i := i) h.2 h1 h2
theorem vB_nn {m : BigT} (h : m.1 = false) : 0 ≤ vB m := by
  have hv := V_small (n := m.2.length) m.1 m.2 (Nat.le_refl _)
  unfold vB V
  split
  · rename_i hval
    rw [h, if_neg (by simp)]
    exact val_nonneg (valid_dig hval).2.1
  · exact Int.le_refl _
theorem check_parts {l : List RowT} {ms : List BigT} (h : checkB l ms = true) : combE l ms = 0 ∧ 0 < constF l ms ∧ noSums l ms (varsF l) = true := by
  unfold checkB at h
  simp only [Bool.and_eq_true, decide_eq_true_eq] at h
  exact ⟨h.1, h.2.1, h.2.2⟩
theorem comb_zero {l : List RowT} {ms : List BigT} (h : combE l ms = 0) : l.length = ms.length ∧ allValid ms = true ∧ signBad l ms = false ∧ sysE l = 0 := by
  unfold combE at h
  split at h
  · cases h
  · rename_i h1
    split at h
    · cases h
    · rename_i h2
      split at h
      · cases h
      · rename_i h3
        exact ⟨by simpa using h1, by simpa using h2, by simpa using h3, h⟩
theorem sum_zero {l : List RowT} {ms : List BigT} (h : noSums l ms (varsF l) = true) (v : ByteArray) : sumF l ms v = 0 := by
  by_cases hv : v ∈ varsF l
  · have := List.all_eq_true.1 h v hv
    simpa using this
  · exact dot_none (fun r hr => coefF_none fun c hc e => hv (by rw [← e]; exact var_mem hr hc)) _
theorem sound {l : List RowT} {ms : List BigT} (h : checkB l ms = true) (X Y : Int) : l.all (holdsB X Y) = false := by
  obtain ⟨h1, h2, h3⟩ := check_parts h
  obtain ⟨-, -, h4, h5⟩ := comb_zero h1
  have hinc := first_inc (sys_few h5).2.2.2
  cases hall : l.all (holdsB X Y) with
  | false => rfl
  | true =>
    exfalso
    rw [List.all_eq_true] at hall
    have e1 : dotN (valR X Y) l ms l.length ≤ 0 := by
      refine dot_le (fun i r m hr hm => ?_) _
      have hh := hall r (mem_nth hr)
      unfold holdsB at hh
      simp only [Bool.and_eq_true, Bool.or_eq_true, decide_eq_true_eq, beq_iff_eq] at hh
      rcases sign_at h4 hr hm with he | hn
      · have : valR X Y r = 0 := by
          rcases hh.2 with h | h
          · rw [he] at h; simp at h
          · exact h
        rw [this, Int.mul_zero]; exact Int.le_refl _
      · exact Int.mul_nonpos_of_nonneg_of_nonpos (vB_nn hn) hh.1
    have e2 : dotN (valR X Y) l ms l.length = dotN (fun r => r.2.1 + coefF r.1 nX * X) l ms l.length + sumF l ms nY * Y :=
      dot_lin (fun r hr => by rw [valR, sumP_eq, sumC_coef nX (hinc r hr), sumC_coef nY (hinc r hr)]; omega) _
    have e3 : dotN (fun r => r.2.1 + coefF r.1 nX * X) l ms l.length = constF l ms + sumF l ms nX * X := dot_lin (fun r hr => rfl) _
    rw [sum_zero h3, Int.zero_mul] at e2 e3
    omega
end Go.Proofs.Ytmgbmbganlndkaa
/-
  Refutations times a number, and with a row more: plainly.
-/

namespace Go.Proofs.Ytmgbmbganlndkaa
open Go
def timesB (b : Int) (ms : List BigT) : List BigT := ms.map fun m => zB (vB m * b)
theorem times_ok {m : BigT} {b : Int} (hm : m.2.length ≤ 20) (hb : 0 < b ∧ b ≤ 65535) : okZ (vB m * b) = true := by
  refine okZ_of (m := 22) ?_ (by decide)
  have h1 : (vB m).natAbs < 10000 ^ 20 := V_small m.1 m.2 hm
  rw [Int.natAbs_mul, show (22 : Nat) = 20 + 2 from rfl, Nat.pow_add]
  exact Nat.mul_lt_mul_of_lt_of_le h1 (by omega) (by omega)
theorem times_v {m : BigT} {b : Int} (hm : m.2.length ≤ 20) (hb : 0 < b ∧ b ≤ 65535) : vB (zB (vB m * b)) = vB m * b := vB_zB (times_ok hm hb)
theorem nth_times {b : Int} {ms : List BigT} {i : Nat} : nth (timesB b ms) i = (nth ms i).map fun m => zB (vB m * b) := nth_map _ _ _
theorem dot_times {f : RowT → Int} {l : List RowT} {ms : List BigT} {b : Int} (hm : ∀ m ∈ ms, m.2.length ≤ 20) (hb : 0 < b ∧ b ≤ 65535) : ∀ i, dotN f l (timesB b ms) i = dotN f l ms i * b
  | 0 => by simp [dotN]
  | i + 1 => by
    rw [dotN, dotN, dot_times hm hb i, nth_times, Int.add_mul]
    congr 1
    cases h1 : nth l i with
    | none => simp
    | some r =>
      cases h2 : nth ms i with
      | none => simp
      | some m =>
        simp only [Option.map_some]
        rw [times_v (hm m (mem_nth h2)) hb, Int.mul_assoc, Int.mul_comm b, ← Int.mul_assoc]
theorem sign_times {b : Int} (hb : 0 < b) : ∀ {l : List RowT} {ms : List BigT}, signBad l ms = false → signBad l (timesB b ms) = false
  | [], _, _ => by unfold signBad; rfl
  | _ :: _, [], _ => by simp [timesB, signBad]
  | r :: l, m :: ms, h => by
    simp only [signBad, Bool.or_eq_false_iff] at h
    have ih := sign_times hb (l := l) (ms := ms) h.2
    rw [show timesB b (m :: ms) = zB (vB m * b) :: timesB b ms from rfl, signBad, ih, Bool.or_false]
    cases hr : r.2.2 with
    | true => rfl
    | false =>
      have hn : m.1 = false := by simpa [hr] using h.1
      have : 0 ≤ vB m * b := Int.mul_nonneg (vB_nn hn) (by omega)
      simp [zB]; omega
theorem scale_check {l : List RowT} {ms : List BigT} {b : Int} (hm : ∀ m ∈ ms, m.2.length ≤ 20) (hb : 0 < b ∧ b ≤ 65535) (h : checkB l ms = true) : checkB l (timesB b ms) = true := by
  obtain ⟨h1, h2, h3⟩ := check_parts h
  obtain ⟨a1, a2, a3, a4⟩ := comb_zero h1
  have hE : combE l (timesB b ms) = 0 := by
    unfold combE
    rw [if_neg (by simp [timesB, a1]), if_neg, if_neg]
    · exact a4
    · rw [sign_times hb.1 a3]; simp
    · have : allValid (timesB b ms) = true := by
        unfold allValid timesB
        rw [List.all_eq_true]
        intro m hx
        obtain ⟨a, ha, rfl⟩ := List.mem_map.1 hx
        exact valid_of _ (zA_len (times_ok (hm a ha) hb))
      simp [this]
  have hc : 0 < constF l (timesB b ms) := by
    unfold constF
    rw [dot_times hm hb]
    exact Int.mul_pos h2 hb.1
  have hs : noSums l (timesB b ms) (varsF l) = true := by
    unfold noSums
    rw [List.all_eq_true]
    intro v _
    have := sum_zero h3 v
    unfold sumF at this ⊢
    rw [dot_times hm hb, this]; simp
  simp [checkB, hE, hc, hs]
theorem gcd_times {ms : List BigT} {b : Int} (hm : ∀ m ∈ ms, m.2.length ≤ 20) (hb : 0 < b ∧ b ≤ 65535) : ∀ i, gcdN (timesB b ms) i = gcdN ms i * b
  | 0 => by simp [gcdN]
  | i + 1 => by
    rw [gcdN, gcdN, gcd_times hm hb i, nth_times]
    cases h : nth ms i with
    | none => simp
    | some m =>
      simp only [Option.map_some]
      rw [times_v (hm m (mem_nth h)) hb, Int.gcd_mul_right]
      simp only [Int.natCast_mul]
      rw [show (b.natAbs : Int) = b by omega]
theorem trim_times {ms : List BigT} {b : Int} (hm : ∀ m ∈ ms, m.2.length ≤ 20) (hb : 0 < b ∧ b ≤ 65535) : trimL' (timesB b ms) = trimL' ms := by
  have hl : (timesB b ms).length = ms.length := by simp [timesB]
  unfold trimL'
  rw [hl, gcd_times hm hb]
  unfold timesB
  rw [List.map_map]
  refine List.map_congr_left fun m hx => ?_
  simp only [Function.comp]
  rw [times_v (hm m hx) hb]
  congr 1
  unfold quoZ
  by_cases h0 : gcdN ms ms.length = 0
  · rw [h0]; simp
  · have hne : ¬ gcdN ms ms.length * b = 0 := by
      intro h
      rcases Int.mul_eq_zero.1 h with h | h
      · exact h0 h
      · omega
    rw [if_neg h0, if_neg hne, Int.fdiv_eq_ediv_of_nonneg _ (gcd_nn ms _), Int.fdiv_eq_ediv_of_nonneg _ (Int.mul_nonneg (gcd_nn ms _) (by omega)), Int.mul_ediv_mul_of_pos_left _ _ hb.1]
theorem nth_snocs {α : Type} {l : List α} {x : α} {i : Nat} (h : i < l.length) : nth (l ++ [x]) i = nth l i := by
  rw [nth_get, nth_get, List.getElem?_append_left h]
theorem dot_more {f : RowT → Int} {l : List RowT} {ms : List BigT} {r : RowT} {m : BigT} (h : l.length = ms.length) (hz : vB m = 0) : dotN f (l ++ [r]) (ms ++ [m]) (l ++ [r]).length = dotN f l ms l.length := by
  have key : ∀ i, i ≤ l.length → dotN f (l ++ [r]) (ms ++ [m]) i = dotN f l ms i := by
    intro i
    induction i with
    | zero => intro _; rfl
    | succ i ih =>
      intro hi
      rw [dotN, dotN, ih (by omega), nth_snocs (by omega), nth_snocs (by omega)]
  rw [show (l ++ [r]).length = l.length + 1 from by simp, dotN, key _ (Nat.le_refl _)]
  have e1 : nth (l ++ [r]) l.length = some r := by rw [nth_get]; simp
  have e2 : nth (ms ++ [m]) l.length = some m := by rw [nth_get, h]; simp
  rw [e1, e2]
  simp [hz]
theorem more_check {l : List RowT} {ms : List BigT} {r : RowT} (h : checkB l ms = true) (hE : combE (l ++ [r]) (ms ++ [(false, [])]) = 0) : checkB (l ++ [r]) (ms ++ [(false, [])]) = true := by
  obtain ⟨h1, h2, h3⟩ := check_parts h
  obtain ⟨a1, -, -, -⟩ := comb_zero h1
  have hz : vB (false, []) = 0 := rfl
  have hc : 0 < constF (l ++ [r]) (ms ++ [(false, [])]) := by
    unfold constF
    rw [dot_more a1 hz]; exact h2
  have hs : noSums (l ++ [r]) (ms ++ [(false, [])]) (varsF (l ++ [r])) = true := by
    unfold noSums
    rw [List.all_eq_true]
    intro v _
    have := sum_zero h3 v
    unfold sumF at this ⊢
    rw [dot_more a1 hz, this]; rfl
  simp [checkB, hE, hc, hs]
end Go.Proofs.Ytmgbmbganlndkaa
/-
  The fourth law, walked.
-/

namespace Go.Proofs.Ytmgbmbganlndkaa
open Go
section
variable {S : List Ent} {tk : List Nat} {k : Nat} {A B : List (List AV)} {c d : Cap} (hc : okCap [] c 2 = true)
theorem comb_t {A B : List (List AV)} {c d : Cap} : cL Try.prog 10 [.frz A c, .frz B d] S tk k = cL Try.prog 10 [.frz A .unk, .frz B .unk] S tk k := cL_w2 rfl rfl rfl
theorem check_c {A B : List (List AV)} {c d : Cap} : cL Try.prog 13 [.frz A c, .frz B d] S tk k = cL Try.prog 13 [.frz A .unk, .frz B .unk] S tk k := cL_w2 rfl rfl rfl
theorem trim_c {A B : List (List AV)} {c d : Cap} : cL Try.prog 15 [.frz A c, .frz B d] S tk k = cL Try.prog 15 [.frz A .unk, .frz B .unk] S tk k := cL_w2 rfl rfl rfl
end
section
variable (S : List Ent) (tk : List Nat) (k : Nat)
theorem rowsOk_row (l : List RowT) : rowsOk 3 (l.map rowC) = true := rowsOk_map (f := rowC) (sz := 3) (fun _ => rfl) l
theorem rowsOk_more (l : List RowT) (r : RowT) : rowsOk 3 (l.map rowC ++ [rowC r]) = true := by
  have := rowsOk_row (l ++ [r])
  rwa [List.map_append] at this
set_option maxRecDepth 100000 in
set_option maxHeartbeats 4000000 in
theorem L14_FarkasScales (a : List RowT) (ms : List BigT) (b : Int) (hal : a.length ≤ maxLen) (hb0 : 0 ≤ b ∧ b ≤ 65535) :
    cL Try.prog 6 [rowsA a, bigsA ms, .prim (.int .u16 b)] S tk k = some (.bool true, S, tk, k) := by
  have hA := fun S tk k => L14_awake S tk k
  have hS := fun S tk k => L14_small S tk k a ms
  simp only [rowsA, bigsA] at hS
  refine call_pure Try.func6 rfl rfl (by decide +kernel) (by decide +kernel) Try.ntmps6 rfl rfl _ _ _ rfl ?_; rw [RK_KX]
  by_cases ha : a = []
  · subst ha
    have d0 : (((0 : Nat) : Int) == 0) = true := rfl
    simp (maxSteps := 1000000) +contextual (disch := first | with_reducible assumption | exact ⟨rfl⟩ | exact ⟨rfl, rfl⟩ | (refine _root_.id ?_; kernel_rfl) | omega) only [evs, ext_mv, nth, put, putT, getT, binInt, binStr, binBool, aUn, outA, resA, mapO, resA1, oneOf, w1, w2, w3, bots, cond_true, cond_false, if_true, if_false, ite_true, ite_false, reduceIte, reduceCtorEq, implies_true, Nat.reduceAdd, Nat.reduceSub, AV.int, AV.bool, AV.str, Nat.reduceBEq, Nat.reduceEqDiff, Nat.reduceMul, Nat.reduceLT, Nat.reduceLeDiff, Int.reduceNeg, BEq.rfl, beq_self_eq_true, tabl, cellsOf, fldA, ldA, stA, entAt, partA, takeN, over, leafOk, Value.oneCell', idxA, nilA, cellsEq, fillA, elemsA, pure1, pure2, reps, chkA, tys, Try.results6, KX_draw, KX_drawQ, KX_tail, lastO_one, lastO_more, dropL_one, dropL_more, callP_eq, callM_true, rowsA, bigsA, hA, List.map_nil, List.length_nil, d0]
  obtain ⟨l, r, rfl⟩ : ∃ l r, a = l ++ [r] := ⟨a.dropLast, a.getLast ha, (List.dropLast_concat_getLast ha).symm⟩
  rw [List.length_append, List.length_singleton] at hal
  have hln : ((l ++ [r]).map rowC).length = l.length + 1 := by simp
  have d0 : (((l.length + 1 : Nat) : Int) == 0) = false := by simp; omega
  have hwl : IntKind.i64.wrap (((l.length + 1 : Nat) : Int) - 1) = (l.length : Nat) := by
    have h1 : l.length + 1 ≤ 9223372036854775807 := by simpa [maxLen] using hal
    rw [wrap_of (by unfold i64; omega)]; omega
  have hnt : nth ((l ++ [r]).map rowC) l.length = some [coefsA r.1, .prim (.int .i64 r.2.1), .prim (.bool r.2.2)] := by rw [nth_get]; simp [rowC]
  have hsl : sliceA Try.prog 22 (.frz ((l ++ [r]).map rowC) .unk) none (some (AV.prim (.int .i64 (l.length : Nat)))) none = some (.frz (l.map rowC) .unk) := by
    have h1 : (elemOf Try.prog 22).bind (szOf Try.prog) = some 3 := by simp only [tys, Option.bind_some]
    unfold sliceA
    simp only [h1, rowsOk_row, if_true, bound, intN_cast, hln]
    rw [if_pos (by omega)]
    simp
  generalize hes : (l ++ [r]).map rowC = es at *
  cases hsm : smallB (l ++ [r]) ms with
  | false =>
    rw [hsm] at hS
    simp (maxSteps := 1000000) +contextual (disch := first | with_reducible assumption | exact ⟨rfl⟩ | exact ⟨rfl, rfl⟩ | (refine _root_.id ?_; kernel_rfl) | omega) only [evs, ext_mv, nth, put, putT, getT, binInt, binStr, binBool, aUn, outA, resA, mapO, resA1, oneOf, w1, w2, w3, bots, cond_true, cond_false, if_true, if_false, ite_true, ite_false, reduceIte, reduceCtorEq, implies_true, Nat.reduceAdd, Nat.reduceSub, AV.int, AV.bool, AV.str, Nat.reduceBEq, Nat.reduceEqDiff, Nat.reduceMul, Nat.reduceLT, Nat.reduceLeDiff, Int.reduceNeg, BEq.rfl, beq_self_eq_true, tabl, cellsOf, fldA, ldA, stA, entAt, partA, takeN, over, leafOk, Value.oneCell', idxA, nilA, cellsEq, fillA, elemsA, pure1, pure2, reps, chkA, tys, Try.results6, KX_draw, KX_drawQ, KX_tail, lastO_one, lastO_more, dropL_one, dropL_more, callP_eq, callM_true, rowsA, bigsA, hes, hA, hln, d0, hwl, hnt, hsl, hS, coefsA]
  | true =>
  rw [hsm] at hS
  by_cases hb1 : b = 0
  · have d1 : (b == 0) = true := by simpa using hb1
    simp (maxSteps := 1000000) +contextual (disch := first | with_reducible assumption | exact ⟨rfl⟩ | exact ⟨rfl, rfl⟩ | (refine _root_.id ?_; kernel_rfl) | omega) only [evs, ext_mv, nth, put, putT, getT, binInt, binStr, binBool, aUn, outA, resA, mapO, resA1, oneOf, w1, w2, w3, bots, cond_true, cond_false, if_true, if_false, ite_true, ite_false, reduceIte, reduceCtorEq, implies_true, Nat.reduceAdd, Nat.reduceSub, AV.int, AV.bool, AV.str, Nat.reduceBEq, Nat.reduceEqDiff, Nat.reduceMul, Nat.reduceLT, Nat.reduceLeDiff, Int.reduceNeg, BEq.rfl, beq_self_eq_true, tabl, cellsOf, fldA, ldA, stA, entAt, partA, takeN, over, leafOk, Value.oneCell', idxA, nilA, cellsEq, fillA, elemsA, pure1, pure2, reps, chkA, tys, Try.results6, KX_draw, KX_drawQ, KX_tail, lastO_one, lastO_more, dropL_one, dropL_more, callP_eq, callM_true, rowsA, bigsA, hes, hA, hln, d0, hwl, hnt, hsl, hS, coefsA, d1]
  have d1 : (b == 0) = false := by simpa using hb1
  have hb : 0 < b ∧ b ≤ 65535 := ⟨by omega, hb0.2⟩
  obtain ⟨h1, h2, h3, h4⟩ := small_facts hsm
  have hl0' : ∀ r' ∈ l ++ [r], r'.1.length ≤ 1048576 := fun r hr => by have := h3 r hr; omega
  have hl0 : ∀ r' ∈ l, r'.1.length ≤ 1048576 := fun r' hr => hl0' r' (List.mem_append_left _ hr)
  have h1' : l.length ≤ 69 := by simp at h1; omega
  have hm : ∀ m ∈ ms, m.2.length ≤ 100 := fun m hm => by have := h4 m hm; omega
  have hK := fun S tk k => farkas_Check S tk k l ms hl0 (by omega) hm
  simp only [rowsA, bigsA] at hK
  cases hc : checkB l ms with
  | false =>
    rw [hc] at hK
    simp (maxSteps := 1000000) +contextual (disch := first | with_reducible assumption | exact ⟨rfl⟩ | exact ⟨rfl, rfl⟩ | (refine _root_.id ?_; kernel_rfl) | omega) only [evs, ext_mv, nth, put, putT, getT, binInt, binStr, binBool, aUn, outA, resA, mapO, resA1, oneOf, w1, w2, w3, bots, cond_true, cond_false, if_true, if_false, ite_true, ite_false, reduceIte, reduceCtorEq, implies_true, Nat.reduceAdd, Nat.reduceSub, AV.int, AV.bool, AV.str, Nat.reduceBEq, Nat.reduceEqDiff, Nat.reduceMul, Nat.reduceLT, Nat.reduceLeDiff, Int.reduceNeg, BEq.rfl, beq_self_eq_true, tabl, cellsOf, fldA, ldA, stA, entAt, partA, takeN, over, leafOk, Value.oneCell', idxA, nilA, cellsEq, fillA, elemsA, pure1, pure2, reps, chkA, tys, Try.results6, KX_draw, KX_drawQ, KX_tail, lastO_one, lastO_more, dropL_one, dropL_more, callP_eq, callM_true, rowsA, bigsA, hes, hA, hln, d0, hwl, hnt, hsl, hS, coefsA, d1, hK]
  | true =>
  rw [hc] at hK
  simp (maxSteps := 1000000) +contextual (disch := first | with_reducible assumption | exact ⟨rfl⟩ | exact ⟨rfl, rfl⟩ | (refine _root_.id ?_; kernel_rfl) | omega) only [evs, ext_mv, nth, put, putT, getT, binInt, binStr, binBool, aUn, outA, resA, mapO, resA1, oneOf, w1, w2, w3, bots, cond_true, cond_false, if_true, if_false, ite_true, ite_false, reduceIte, reduceCtorEq, implies_true, Nat.reduceAdd, Nat.reduceSub, AV.int, AV.bool, AV.str, Nat.reduceBEq, Nat.reduceEqDiff, Nat.reduceMul, Nat.reduceLT, Nat.reduceLeDiff, Int.reduceNeg, BEq.rfl, beq_self_eq_true, tabl, cellsOf, fldA, ldA, stA, entAt, partA, takeN, over, leafOk, Value.oneCell', idxA, nilA, cellsEq, fillA, elemsA, pure1, pure2, reps, chkA, tys, Try.results6, KX_draw, KX_drawQ, KX_tail, lastO_one, lastO_more, dropL_one, dropL_more, callP_eq, callM_true, rowsA, bigsA, hes, hA, hln, d0, hwl, hnt, hsl, hS, coefsA, d1, hK]
  clear hS hsl hnt hwl d0
  refine loop1 (fun x st => st.T.length = 121 ∧ (x.1 ≤ ms.length) ∧ (x.2.1 = timesB b (ms.take x.1)) ∧ (okCap st.tk x.2.2 2 = true) ∧ (∀ m ∈ ms.take x.1, m.2.length ≤ 20) ∧ getT st.T 1 = bigsA ms ∧ getT st.T 2 = .prim (.int .u16 b) ∧ getT st.T 7 = rowsA l ∧ getT st.T 8 = .ref 0 0 0 ∧ getT st.T 9 = .frz (x.2.1.map bigC) x.2.2 ∧ getT st.T 10 = .int (x.1 : Nat) ∧ st.S = [⟨0, rowC r⟩]) (fun x => ms.length - x.1) (fun x => .bool true) (0, [], .nilc) ?_ ?_
  case refine_2 => exact ⟨rfl, Nat.zero_le _, rfl, rfl, fun m h => by simp at h, rfl, rfl, rfl, rfl, rfl, rfl, rfl⟩
  rintro ⟨i, out, c⟩ ⟨T, S', tk', n'⟩ ⟨hl, hi, he, hok, h20, e1, e2, e7, e8, e9, e10, eS⟩ IH
  simp only at hi he hok h20 e1 e2 e7 e8 e9 e10 eS
  subst eS
  obtain ⟨g, hg, hT⟩ := tab_of hl
  rw [hg] at e1 e2 e7 e8 e9 e10
  subst hT
  clear hg hl
  have hiw := wrap_add (i := i) (by omega)
  by_cases hlt : i < ms.length
  · have d2 : decide ((i : Int) < (ms.length : Int)) = true := by simpa using hlt
    obtain ⟨m, hx⟩ := nth_some hlt
    have hx' := nth_big hx
    have hL := fun S tk k => R02_Long S tk k m.1 m.2 20
    simp only [bigC] at hx'
    simp only [bigA, digA] at hL
    by_cases h5 : m.2.length ≤ 20
    rotate_left
    · have d3 : decide ((m.2.length : Int) > 20) = true := by simp; omega
      simp (maxSteps := 1000000) +contextual (disch := first | with_reducible assumption | exact ⟨rfl⟩ | exact ⟨rfl, rfl⟩ | (refine _root_.id ?_; kernel_rfl) | omega) only [evs, ext_mv, nth, put, putT, getT, binInt, binStr, binBool, aUn, outA, resA, mapO, resA1, oneOf, w1, w2, w3, bots, cond_true, cond_false, if_true, if_false, ite_true, ite_false, reduceIte, reduceCtorEq, implies_true, Nat.reduceAdd, Nat.reduceSub, AV.int, AV.bool, AV.str, Nat.reduceBEq, Nat.reduceEqDiff, Nat.reduceMul, Nat.reduceLT, Nat.reduceLeDiff, Int.reduceNeg, BEq.rfl, beq_self_eq_true, tabl, cellsOf, fldA, ldA, stA, entAt, partA, takeN, over, leafOk, Value.oneCell', idxA, nilA, cellsEq, fillA, elemsA, pure1, pure2, reps, chkA, tys, Try.results6, KX_draw, KX_drawQ, KX_tail, lastO_one, lastO_more, dropL_one, dropL_more, callP_eq, callM_true, e1, e2, e7, e8, e9, e10, d2, d3, bigsA, hx', hL, hA]
    have d3 : decide ((m.2.length : Int) > 20) = false := by simp; omega
    have hO := fun S tk k => L14_one S tk k b (by unfold i64; omega)
    have hzb : okZ b = true := okZ_i64 (by unfold i64; omega)
    have hM := fun S tk k => R02_Mul' S tk k m.1 (decide (b < 0)) m.2 (dig b.natAbs) (by omega) (by have := zA_len hzb; omega)
    rw [V_zA hzb, show V m.1 m.2 = vB m from rfl, sgnZ_ok (times_ok h5 hb)] at hM
    have hwb : IntKind.i64.wrap b = b := wrap_of (by unfold i64; omega)
    have hol : out.length ≤ ms.length := by rw [he]; simp [timesB]; omega
    have hr := rowsOk_big out
    have hok' := okCap_new hok
    have hn1 : (out.map bigC).length + 1 ≤ 1048576 := by simp; omega
    have hts := take_snoc hx
    simp only [bigC, zB] at hO
    simp only [bigA, digA, zA] at hM
    simp (maxSteps := 1000000) +contextual (disch := first | with_reducible assumption | exact ⟨rfl⟩ | exact ⟨rfl, rfl⟩ | (refine _root_.id ?_; kernel_rfl) | omega) only [evs, ext_mv, nth, put, putT, getT, binInt, binStr, binBool, aUn, outA, resA, mapO, resA1, oneOf, w1, w2, w3, bots, cond_true, cond_false, if_true, if_false, ite_true, ite_false, reduceIte, reduceCtorEq, implies_true, Nat.reduceAdd, Nat.reduceSub, AV.int, AV.bool, AV.str, Nat.reduceBEq, Nat.reduceEqDiff, Nat.reduceMul, Nat.reduceLT, Nat.reduceLeDiff, Int.reduceNeg, BEq.rfl, beq_self_eq_true, tabl, cellsOf, fldA, ldA, stA, entAt, partA, takeN, over, leafOk, Value.oneCell', idxA, nilA, cellsEq, fillA, elemsA, pure1, pure2, reps, chkA, tys, Try.results6, KX_draw, KX_drawQ, KX_tail, lastO_one, lastO_more, dropL_one, dropL_more, callP_eq, callM_true, e1, e2, e7, e8, e9, e10, d2, d3, bigsA, hx', hL, hA, hO, hM, hwb, hiw, hr]
    have h20' : ∀ m' ∈ ms.take (i + 1), m'.2.length ≤ 20 := by
      intro m' h
      rw [hts, List.mem_append] at h
      rcases h with h | h
      · exact h20 m' h
      · have : m' = m := by simpa using h
        subst this; exact h5
    exact IH (i + 1, out ++ [zB (vB m * b)], capNew tk' c 2) _ (by first | omega | (simp only; omega)) ⟨rfl, by first | omega | (dsimp only; omega), by rw [hts, timesB, List.map_append, he]; rfl, hok', h20', (by first | rfl | simp only [getT, List.map_append, List.map_cons, List.map_nil, and_self, digC, bigC, zB]), (by first | rfl | simp only [getT, List.map_append, List.map_cons, List.map_nil, and_self, digC, bigC, zB]), (by first | rfl | simp only [getT, List.map_append, List.map_cons, List.map_nil, and_self, digC, bigC, zB]), (by first | rfl | simp only [getT, List.map_append, List.map_cons, List.map_nil, and_self, digC, bigC, zB]), (by first | rfl | simp only [getT, List.map_append, List.map_cons, List.map_nil, and_self, digC, bigC, zB]), (by first | rfl | simp only [getT, List.map_append, List.map_cons, List.map_nil, and_self, digC, bigC, zB]), (by first | rfl | simp only [getT, List.map_append, List.map_cons, List.map_nil, and_self, digC, bigC, zB])⟩
  have d2 : decide ((i : Int) < (ms.length : Int)) = false := by simpa using hlt
  have hie : i = ms.length := by omega
  subst hie
  rw [List.take_length] at he h20
  subst he
  have htl : (timesB b ms).length ≤ 70 := by simpa [timesB] using h2
  have htm : ∀ m ∈ timesB b ms, m.2.length ≤ 100 := by
    intro m h
    obtain ⟨a, ha, rfl⟩ := List.mem_map.1 h
    have h1 : (vB a * b).natAbs < 10000 ^ 22 := by
      have h1 : (vB a).natAbs < 10000 ^ 20 := V_small a.1 a.2 (h20 a ha)
      rw [Int.natAbs_mul, show (22 : Nat) = 20 + 2 from rfl, Nat.pow_add]
      exact Nat.mul_lt_mul_of_lt_of_le h1 (by omega) (by omega)
    have := dig_len.2 h1
    show (dig (vB a * b).natAbs).length ≤ 100
    omega
  have hnm : ∀ m ∈ ms ++ [((false, []) : BigT)], m.2.length ≤ 100 := by
    intro m h
    rcases List.mem_append.1 h with h | h
    · exact hm m h
    · have : m = (false, []) := by simpa using h
      subst this; simp
  have hCT := fun c d S tk k => (check_c (S := S) (tk := tk) (k := k) (c := c) (d := d)).trans (farkas_Check S tk k l (timesB b ms) hl0 (by omega) htm)
  have hTT := fun c d S tk k => (trim_c (S := S) (tk := tk) (k := k) (c := c) (d := d)).trans (farkas_Trim S tk k l (timesB b ms) hl0 (by omega) (by omega) htm)
  have hTM := fun S tk k => farkas_Trim S tk k l ms hl0 (by omega) (by omega) hm
  rw [scale_check h20 hb hc] at hCT
  rw [scale_check h20 hb hc, if_pos rfl, trim_times h20 hb] at hTT
  rw [hc, if_pos rfl] at hTM
  have hSm := fun S tk k => R14_Same S tk k (trimL' ms) (trimL' ms) (by simp [trimL']; omega) (trim_small hm)
  rw [sameB_self] at hSm
  have hCo := fun c d S tk k => (comb_t (S := S) (tk := tk) (k := k) (c := c) (d := d)).trans (R14_Combine S tk k (l ++ [r]) (ms ++ [(false, [])]) hl0' (by omega) hnm)
  have hCk := fun c d S tk k => (check_c (S := S) (tk := tk) (k := k) (c := c) (d := d)).trans (farkas_Check S tk k (l ++ [r]) (ms ++ [(false, [])]) hl0' (by omega) hnm)
  have hAr := fun tk => apB_all (tk := tk) (c := .tight) (es := []) (ys := l.map rowC) (sz := 3) rfl rfl (rowsOk_row l) (by simp; omega)
  have hAr2 := fun tk => apB_one (tk := capPut tk .tight) (c := capNew tk .tight 3) (es := l.map rowC) (y := [coefsA r.1, .prim (.int .i64 r.2.1), .prim (.bool r.2.2)]) (sz := 3) (okCap_new rfl) (rowsOk_row l) rfl (by simp; omega)
  have hAm := fun tk => apB_all (tk := tk) (c := .tight) (es := []) (ys := ms.map bigC) (sz := 2) rfl rfl (rowsOk_big ms) (by simp; omega)
  have hAm2 := fun tk => apB_one (tk := capPut tk .tight) (c := capNew tk .tight 2) (es := ms.map bigC) (y := [.prim (.bool false), .frz [] .unk]) (sz := 2) (okCap_new rfl) (rowsOk_big ms) rfl (by simp; omega)
  simp only [List.map_append, List.map_cons, List.map_nil, bigC, rowC, coefsA] at hCo hCk
  simp only [rowsA, bigsA, coefsA, List.nil_append] at hTT hTM hSm hAr hAm hAr2 hAm2
  by_cases hE : combE (l ++ [r]) (ms ++ [(false, [])]) = 0
  · have hK2 := more_check hc hE
    rw [hK2] at hCk
    simp only [combA, if_pos hE] at hCo
    have dz : ((0 : Int) != 0) = false := rfl
    simp only [bigsA, zA, bigA, digA] at hCo
    simp (maxSteps := 1000000) +contextual (disch := first | with_reducible assumption | exact ⟨rfl⟩ | exact ⟨rfl, rfl⟩ | (refine _root_.id ?_; kernel_rfl) | omega) only [evs, ext_mv, nth, put, putT, getT, binInt, binStr, binBool, aUn, outA, resA, mapO, resA1, oneOf, w1, w2, w3, bots, cond_true, cond_false, if_true, if_false, ite_true, ite_false, reduceIte, reduceCtorEq, implies_true, Nat.reduceAdd, Nat.reduceSub, AV.int, AV.bool, AV.str, Nat.reduceBEq, Nat.reduceEqDiff, Nat.reduceMul, Nat.reduceLT, Nat.reduceLeDiff, Int.reduceNeg, BEq.rfl, beq_self_eq_true, tabl, cellsOf, fldA, ldA, stA, entAt, partA, takeN, over, leafOk, Value.oneCell', idxA, nilA, cellsEq, fillA, elemsA, pure1, pure2, reps, chkA, tys, Try.results6, KX_draw, KX_drawQ, KX_tail, lastO_one, lastO_more, dropL_one, dropL_more, callP_eq, callM_true, e1, e2, e7, e8, e9, e10, d2, rowsA, bigsA, coefsA, hA, hCT, hTT, hTM, hSm, hAr, hAr2, hAm, hAm2, hCo, hCk, dz, List.nil_append, rowC]
  · have dz : (combE (l ++ [r]) (ms ++ [(false, [])]) != 0) = true := by simpa using hE
    simp only [combA, if_neg hE] at hCo
    simp only [bigsA, zA, bigA, digA] at hCo
    simp (maxSteps := 1000000) +contextual (disch := first | with_reducible assumption | exact ⟨rfl⟩ | exact ⟨rfl, rfl⟩ | (refine _root_.id ?_; kernel_rfl) | omega) only [evs, ext_mv, nth, put, putT, getT, binInt, binStr, binBool, aUn, outA, resA, mapO, resA1, oneOf, w1, w2, w3, bots, cond_true, cond_false, if_true, if_false, ite_true, ite_false, reduceIte, reduceCtorEq, implies_true, Nat.reduceAdd, Nat.reduceSub, AV.int, AV.bool, AV.str, Nat.reduceBEq, Nat.reduceEqDiff, Nat.reduceMul, Nat.reduceLT, Nat.reduceLeDiff, Int.reduceNeg, BEq.rfl, beq_self_eq_true, tabl, cellsOf, fldA, ldA, stA, entAt, partA, takeN, over, leafOk, Value.oneCell', idxA, nilA, cellsEq, fillA, elemsA, pure1, pure2, reps, chkA, tys, Try.results6, KX_draw, KX_drawQ, KX_tail, lastO_one, lastO_more, dropL_one, dropL_more, callP_eq, callM_true, e1, e2, e7, e8, e9, e10, d2, rowsA, bigsA, coefsA, hA, hCT, hTT, hTM, hSm, hAr, hAr2, hAm, hAm2, hCo, hCk, dz, List.nil_append, rowC]
end
end Go.Proofs.Ytmgbmbganlndkaa
