/-
  Texts laid together: S9, T1, T2, T3.
-/
import Derived.Test.YtgadegdhfjnoaaaDoorZR18
/-
  What the functions of the reference of the fractions compute: right fractions, lowest terms, sums, products.
-/

namespace Go.Proofs.YtgadegdhfjnoaaaDoor
open Go
theorem len_one {n : Nat} : (decide ((dig n).length = 1) && ((nth (dig n) 0).getD 0 == 1)) = decide (n = 1) := by
  rw [Bool.eq_iff_iff]
  simp only [Bool.and_eq_true, decide_eq_true_eq, beq_iff_eq]
  constructor
  · rintro ⟨h1, h2⟩
    have h3 : val (dig n) = n := val_dig n
    match hd : dig n, h1 with
    | [x], _ =>
      rw [hd] at h2 h3
      simp only [nth, Option.getD_some] at h2
      simp only [val] at h3
      omega
  · rintro rfl
    have h1' : dig 1 = [(1 : Int)] := dig_one (d := (1 : Int)) (by omega) (by omega)
    rw [h1']; exact ⟨rfl, rfl⟩
theorem gcd_len {a b : Nat} (hb : 0 < b) (h : (dig b).length ≤ 200) : (dig (a.gcd b)).length ≤ 200 :=
  Nat.le_trans (dig_len.2 (Nat.lt_of_le_of_lt (Nat.gcd_le_right _ hb) (dig_len.1 (Nat.le_refl _)))) h
section
variable (S : List Ent) (tk : List Nat) (k : Nat)
set_option maxRecDepth 100000 in
theorem R03_product (x y : Int) (hx : (dig x.natAbs).length ≤ 45000) (hy : (dig y.natAbs).length ≤ 45000) : cL Tryd.prog 60 [zA x, zA y] S tk k = some (zA (x * y), S, tk, k) := by
  refine call_pure Tryd.func60 rfl rfl (by decide +kernel) (by decide +kernel) Tryd.ntmps60 rfl rfl _ _ _ (rfl) ?_; rw [RK_KX]
  have hT := fun S tk k => R03_times S tk k x.natAbs y.natAbs hx hy
  have hs := sg_mulZ x y
  have hp := dlen_pos (x.natAbs * y.natAbs)
  simp only [digA] at hT
  rw [← hs]
  have hbn : (decide (x < 0) != decide (y < 0)) = !(decide (x < 0) == decide (y < 0)) := rfl
  rw [hbn]
  cases d3 : decide (x < 0) == decide (y < 0) with
  | true => simp (maxSteps := 1000000) +contextual (disch := first | with_reducible assumption | exact ⟨rfl⟩ | exact ⟨rfl, rfl⟩ | (refine _root_.id ?_; kernel_rfl) | omega) only [evs, ext_mv, nth, put, putT, getT, binInt, binStr, binBool, aUn, outA, resA, mapO, resA1, oneOf, w1, w2, w3, bots, cond_true, cond_false, if_true, if_false, ite_true, ite_false, reduceIte, reduceCtorEq, implies_true, Nat.reduceAdd, Nat.reduceSub, AV.int, AV.bool, AV.str, Nat.reduceBEq, Nat.reduceEqDiff, Nat.reduceMul, Nat.reduceLT, Nat.reduceLeDiff, Int.reduceNeg, BEq.rfl, beq_self_eq_true, tabl, cellsOf, fldA, ldA, stA, entAt, partA, takeN, over, leafOk, Value.oneCell', idxA, nilA, cellsEq, fillA, elemsA, pure1, pure2, reps, chkA, tys, Tryd.results60, KX_draw, KX_drawQ, KX_tail, lastO_one, lastO_more, dropL_one, dropL_more, callP_eq, callM_true, ext_mv1, zA, bigA, digA, hT, d3, hbn, hp, Bool.not_true, Bool.not_false, Bool.true_and, Bool.false_and]
  | false => simp (maxSteps := 1000000) +contextual (disch := first | with_reducible assumption | exact ⟨rfl⟩ | exact ⟨rfl, rfl⟩ | (refine _root_.id ?_; kernel_rfl) | omega) only [evs, ext_mv, nth, put, putT, getT, binInt, binStr, binBool, aUn, outA, resA, mapO, resA1, oneOf, w1, w2, w3, bots, cond_true, cond_false, if_true, if_false, ite_true, ite_false, reduceIte, reduceCtorEq, implies_true, Nat.reduceAdd, Nat.reduceSub, AV.int, AV.bool, AV.str, Nat.reduceBEq, Nat.reduceEqDiff, Nat.reduceMul, Nat.reduceLT, Nat.reduceLeDiff, Int.reduceNeg, BEq.rfl, beq_self_eq_true, tabl, cellsOf, fldA, ldA, stA, entAt, partA, takeN, over, leafOk, Value.oneCell', idxA, nilA, cellsEq, fillA, elemsA, pure1, pure2, reps, chkA, tys, Tryd.results60, KX_draw, KX_drawQ, KX_tail, lastO_one, lastO_more, dropL_one, dropL_more, callP_eq, callM_true, ext_mv1, zA, bigA, digA, hT, d3, hbn, hp, Bool.not_true, Bool.not_false, Bool.true_and, Bool.false_and]
theorem R03_Valid (p : Bool) (l : List Int) (q : Bool) (r : List Int) (hl : l.length ≤ 1000000) (hr : r.length ≤ 1000000) : cL Tryd.prog 18 [ratA p l q r] S tk k = some (.bool (validQ p l q r), S, tk, k) := by
  have hV1 := fun S tk k => told (E := E1) (R02_Valid S tk k p l .unk hl)
  have hV2 := fun S tk k => told (E := E1) (R02_Valid S tk k q r .unk hr)
  refine call_pure Tryd.func18 rfl rfl (by decide +kernel) (by decide +kernel) Tryd.ntmps18 rfl rfl _ _ _ (rfl) ?_; rw [RK_KX]
  unfold validQ
  cases h1 : validF p l with
  | false =>
    rw [h1] at hV1
    simp (maxSteps := 1000000) +contextual (disch := first | with_reducible assumption | exact ⟨rfl⟩ | exact ⟨rfl, rfl⟩ | (refine _root_.id ?_; kernel_rfl) | omega) only [evs, ext_mv, nth, put, putT, getT, binInt, binStr, binBool, aUn, outA, resA, mapO, resA1, oneOf, w1, w2, w3, bots, cond_true, cond_false, if_true, if_false, ite_true, ite_false, reduceIte, reduceCtorEq, implies_true, Nat.reduceAdd, Nat.reduceSub, AV.int, AV.bool, AV.str, Nat.reduceBEq, Nat.reduceEqDiff, Nat.reduceMul, Nat.reduceLT, Nat.reduceLeDiff, Int.reduceNeg, BEq.rfl, beq_self_eq_true, tabl, cellsOf, fldA, ldA, stA, entAt, partA, takeN, over, leafOk, Value.oneCell', idxA, nilA, cellsEq, fillA, elemsA, pure1, pure2, reps, chkA, tys, Tryd.results18, KX_draw, KX_drawQ, KX_tail, lastO_one, lastO_more, dropL_one, dropL_more, callP_eq, callM_true, ext_mv1, ratA, digA, hV1, Bool.false_and]
  | true =>
  rw [h1] at hV1
  cases h2 : validF q r with
  | false =>
    rw [h2] at hV2
    simp (maxSteps := 1000000) +contextual (disch := first | with_reducible assumption | exact ⟨rfl⟩ | exact ⟨rfl, rfl⟩ | (refine _root_.id ?_; kernel_rfl) | omega) only [evs, ext_mv, nth, put, putT, getT, binInt, binStr, binBool, aUn, outA, resA, mapO, resA1, oneOf, w1, w2, w3, bots, cond_true, cond_false, if_true, if_false, ite_true, ite_false, reduceIte, reduceCtorEq, implies_true, Nat.reduceAdd, Nat.reduceSub, AV.int, AV.bool, AV.str, Nat.reduceBEq, Nat.reduceEqDiff, Nat.reduceMul, Nat.reduceLT, Nat.reduceLeDiff, Int.reduceNeg, BEq.rfl, beq_self_eq_true, tabl, cellsOf, fldA, ldA, stA, entAt, partA, takeN, over, leafOk, Value.oneCell', idxA, nilA, cellsEq, fillA, elemsA, pure1, pure2, reps, chkA, tys, Tryd.results18, KX_draw, KX_drawQ, KX_tail, lastO_one, lastO_more, dropL_one, dropL_more, callP_eq, callM_true, ext_mv1, ratA, digA, hV1, hV2, Bool.false_and, Bool.true_and]
  | true =>
  rw [h2] at hV2
  obtain ⟨hp, hpl⟩ := valid_sign h1
  obtain ⟨hq, hqr⟩ := valid_sign h2
  have hll := (valid_dig h1).2.2
  have hrl := (valid_dig h2).2.2
  by_cases hq0 : q = true
  · subst hq0
    have hg : goodQ (V p l) (V true r) = false := by
      have : V true r < 0 := by simpa using hq.symm
      have h3 : ¬ 0 < V true r := by omega
      simp [goodQ, h3]
    rw [hg]
    simp (maxSteps := 1000000) +contextual (disch := first | with_reducible assumption | exact ⟨rfl⟩ | exact ⟨rfl, rfl⟩ | (refine _root_.id ?_; kernel_rfl) | omega) only [evs, ext_mv, nth, put, putT, getT, binInt, binStr, binBool, aUn, outA, resA, mapO, resA1, oneOf, w1, w2, w3, bots, cond_true, cond_false, if_true, if_false, ite_true, ite_false, reduceIte, reduceCtorEq, implies_true, Nat.reduceAdd, Nat.reduceSub, AV.int, AV.bool, AV.str, Nat.reduceBEq, Nat.reduceEqDiff, Nat.reduceMul, Nat.reduceLT, Nat.reduceLeDiff, Int.reduceNeg, BEq.rfl, beq_self_eq_true, tabl, cellsOf, fldA, ldA, stA, entAt, partA, takeN, over, leafOk, Value.oneCell', idxA, nilA, cellsEq, fillA, elemsA, pure1, pure2, reps, chkA, tys, Tryd.results18, KX_draw, KX_drawQ, KX_tail, lastO_one, lastO_more, dropL_one, dropL_more, callP_eq, callM_true, ext_mv1, ratA, digA, hV1, hV2, Bool.true_and]
  · have hqf : q = false := by simpa using hq0
    subst hqf
    have hd0 : 0 ≤ V false r := by
      have : ¬ V false r < 0 := by simpa using hq.symm
      omega
    by_cases hr0 : r = []
    · subst hr0
      have hg : goodQ (V p l) (V false []) = false := by
        have : V false [] = 0 := by have := dig_nil.1 hqr.symm; omega
        simp [goodQ, this]
      rw [hg]
      simp only [List.map_nil] at hV2
      have iz : (((0 : Nat) : Int) == 0) = true := rfl
      simp (maxSteps := 1000000) +contextual (disch := first | with_reducible assumption | exact ⟨rfl⟩ | exact ⟨rfl, rfl⟩ | (refine _root_.id ?_; kernel_rfl) | omega) only [evs, ext_mv, nth, put, putT, getT, binInt, binStr, binBool, aUn, outA, resA, mapO, resA1, oneOf, w1, w2, w3, bots, cond_true, cond_false, if_true, if_false, ite_true, ite_false, reduceIte, reduceCtorEq, implies_true, Nat.reduceAdd, Nat.reduceSub, AV.int, AV.bool, AV.str, Nat.reduceBEq, Nat.reduceEqDiff, Nat.reduceMul, Nat.reduceLT, Nat.reduceLeDiff, Int.reduceNeg, BEq.rfl, beq_self_eq_true, tabl, cellsOf, fldA, ldA, stA, entAt, partA, takeN, over, leafOk, Value.oneCell', idxA, nilA, cellsEq, fillA, elemsA, pure1, pure2, reps, chkA, tys, Tryd.results18, KX_draw, KX_drawQ, KX_tail, lastO_one, lastO_more, dropL_one, dropL_more, callP_eq, callM_true, ext_mv1, ratA, digA, hV1, hV2, iz, Bool.true_and]
    · have hrl0 : (((r.length : Nat) : Int) == 0) = false := by
        have := List.length_pos_iff.2 hr0
        simp; omega
      have hd1 : 0 < V false r := by
        have : (V false r).natAbs ≠ 0 := fun e => hr0 (by rw [hqr, e, dig_zero])
        omega
      have hgd : goodQ (V p l) (V false r) = decide ((V p l).natAbs.gcd (V false r).natAbs = 1) := by simp [goodQ, hd1]
      rw [hgd, ← len_one]
      have hD := fun S tk k => R03_common S tk k (V p l).natAbs (V false r).natAbs (by rw [← hpl]; omega) (by rw [← hqr]; omega)
      rw [← hpl, ← hqr] at hD
      simp only [digA] at hD
      obtain ⟨g, hg⟩ : ∃ g, g = (V p l).natAbs.gcd (V false r).natAbs := ⟨_, rfl⟩
      rw [← hg] at hD ⊢
      by_cases hg1 : (dig g).length = 1
      · have g1 : (((dig g).length : Int) == 1) = true := by rw [hg1]; rfl
        obtain ⟨x, hx⟩ := nth_some (show 0 < (dig g).length by omega)
        have hx' := nth_dig hx
        rw [hx, Option.getD_some]
        have g2 : decide ((dig g).length = 1) = true := by simpa using hg1
        rw [g2]
        simp (maxSteps := 1000000) +contextual (disch := first | with_reducible assumption | exact ⟨rfl⟩ | exact ⟨rfl, rfl⟩ | (refine _root_.id ?_; kernel_rfl) | omega) only [evs, ext_mv, nth, put, putT, getT, binInt, binStr, binBool, aUn, outA, resA, mapO, resA1, oneOf, w1, w2, w3, bots, cond_true, cond_false, if_true, if_false, ite_true, ite_false, reduceIte, reduceCtorEq, implies_true, Nat.reduceAdd, Nat.reduceSub, AV.int, AV.bool, AV.str, Nat.reduceBEq, Nat.reduceEqDiff, Nat.reduceMul, Nat.reduceLT, Nat.reduceLeDiff, Int.reduceNeg, BEq.rfl, beq_self_eq_true, tabl, cellsOf, fldA, ldA, stA, entAt, partA, takeN, over, leafOk, Value.oneCell', idxA, nilA, cellsEq, fillA, elemsA, pure1, pure2, reps, chkA, tys, Tryd.results18, KX_draw, KX_drawQ, KX_tail, lastO_one, lastO_more, dropL_one, dropL_more, callP_eq, callM_true, ext_mv1, ratA, digA, hV1, hV2, hrl0, hD, g1, hx', Bool.true_and]
      · have g1 : (((dig g).length : Int) == 1) = false := by simp; omega
        have g2 : decide ((dig g).length = 1) = false := by simpa using hg1
        rw [g2]
        simp (maxSteps := 1000000) +contextual (disch := first | with_reducible assumption | exact ⟨rfl⟩ | exact ⟨rfl, rfl⟩ | (refine _root_.id ?_; kernel_rfl) | omega) only [evs, ext_mv, nth, put, putT, getT, binInt, binStr, binBool, aUn, outA, resA, mapO, resA1, oneOf, w1, w2, w3, bots, cond_true, cond_false, if_true, if_false, ite_true, ite_false, reduceIte, reduceCtorEq, implies_true, Nat.reduceAdd, Nat.reduceSub, AV.int, AV.bool, AV.str, Nat.reduceBEq, Nat.reduceEqDiff, Nat.reduceMul, Nat.reduceLT, Nat.reduceLeDiff, Int.reduceNeg, BEq.rfl, beq_self_eq_true, tabl, cellsOf, fldA, ldA, stA, entAt, partA, takeN, over, leafOk, Value.oneCell', idxA, nilA, cellsEq, fillA, elemsA, pure1, pure2, reps, chkA, tys, Tryd.results18, KX_draw, KX_drawQ, KX_tail, lastO_one, lastO_more, dropL_one, dropL_more, callP_eq, callM_true, ext_mv1, ratA, digA, hV1, hV2, hrl0, hD, g1, Bool.false_and, Bool.true_and]
theorem R03_right (p : Bool) (l : List Int) (q : Bool) (r : List Int) (hl : l.length ≤ 1000000) (hr : r.length ≤ 1000000) : cL Tryd.prog 57 [ratA p l q r] S tk k = some (qA (nQ p l q r) (dQ p l q r), S, tk, k) := by
  have hV := fun S tk k => R03_Valid S tk k p l q r hl hr
  have hZ := fun S tk k => R03_zero S tk k
  refine call_pure Tryd.func57 rfl rfl (by decide +kernel) (by decide +kernel) Tryd.ntmps57 rfl rfl _ _ _ (rfl) ?_; rw [RK_KX]
  unfold nQ dQ
  cases h : validQ p l q r with
  | true =>
    rw [h] at hV
    have e := ratA_valid h
    simp only [if_true]
    rw [← e]
    simp only [ratA, digA] at hV
    simp (maxSteps := 1000000) +contextual (disch := first | with_reducible assumption | exact ⟨rfl⟩ | exact ⟨rfl, rfl⟩ | (refine _root_.id ?_; kernel_rfl) | omega) only [evs, ext_mv, nth, put, putT, getT, binInt, binStr, binBool, aUn, outA, resA, mapO, resA1, oneOf, w1, w2, w3, bots, cond_true, cond_false, if_true, if_false, ite_true, ite_false, reduceIte, reduceCtorEq, implies_true, Nat.reduceAdd, Nat.reduceSub, AV.int, AV.bool, AV.str, Nat.reduceBEq, Nat.reduceEqDiff, Nat.reduceMul, Nat.reduceLT, Nat.reduceLeDiff, Int.reduceNeg, BEq.rfl, beq_self_eq_true, tabl, cellsOf, fldA, ldA, stA, entAt, partA, takeN, over, leafOk, Value.oneCell', idxA, nilA, cellsEq, fillA, elemsA, pure1, pure2, reps, chkA, tys, Tryd.results57, KX_draw, KX_drawQ, KX_tail, lastO_one, lastO_more, dropL_one, dropL_more, callP_eq, callM_true, ext_mv1, ratA, digA, hV]
  | false =>
    rw [h] at hV
    simp only [Bool.false_eq_true, if_false]
    simp only [ratA, qA, digA] at hV hZ
    simp (maxSteps := 1000000) +contextual (disch := first | with_reducible assumption | exact ⟨rfl⟩ | exact ⟨rfl, rfl⟩ | (refine _root_.id ?_; kernel_rfl) | omega) only [evs, ext_mv, nth, put, putT, getT, binInt, binStr, binBool, aUn, outA, resA, mapO, resA1, oneOf, w1, w2, w3, bots, cond_true, cond_false, if_true, if_false, ite_true, ite_false, reduceIte, reduceCtorEq, implies_true, Nat.reduceAdd, Nat.reduceSub, AV.int, AV.bool, AV.str, Nat.reduceBEq, Nat.reduceEqDiff, Nat.reduceMul, Nat.reduceLT, Nat.reduceLeDiff, Int.reduceNeg, BEq.rfl, beq_self_eq_true, tabl, cellsOf, fldA, ldA, stA, entAt, partA, takeN, over, leafOk, Value.oneCell', idxA, nilA, cellsEq, fillA, elemsA, pure1, pure2, reps, chkA, tys, Tryd.results57, KX_draw, KX_drawQ, KX_tail, lastO_one, lastO_more, dropL_one, dropL_more, callP_eq, callM_true, ext_mv1, ratA, qA, digA, hV, hZ]
theorem R03_lowest (n d : Int) (hn : (dig n.natAbs).length ≤ 90000) (hd : (dig d.natAbs).length ≤ 90000) : cL Tryd.prog 45 [zA n, zA d] S tk k = some (resQ n d, S, tk, k) := by
  refine call_pure Tryd.func45 rfl rfl (by decide +kernel) (by decide +kernel) Tryd.ntmps45 rfl rfl _ _ _ (rfl) ?_; rw [RK_KX]
  have hz : dig (Int.natAbs 0) = [] := rfl
  have hnz : decide ((0 : Int) < 0) = false := by decide
  by_cases hd0 : d = 0
  · subst hd0
    rw [res_zero]
    have iz : (((0 : Nat) : Int) == 0) = true := rfl
    simp (maxSteps := 1000000) +contextual (disch := first | with_reducible assumption | exact ⟨rfl⟩ | exact ⟨rfl, rfl⟩ | (refine _root_.id ?_; kernel_rfl) | omega) only [evs, ext_mv, nth, put, putT, getT, binInt, binStr, binBool, aUn, outA, resA, mapO, resA1, oneOf, w1, w2, w3, bots, cond_true, cond_false, if_true, if_false, ite_true, ite_false, reduceIte, reduceCtorEq, implies_true, Nat.reduceAdd, Nat.reduceSub, AV.int, AV.bool, AV.str, Nat.reduceBEq, Nat.reduceEqDiff, Nat.reduceMul, Nat.reduceLT, Nat.reduceLeDiff, Int.reduceNeg, BEq.rfl, beq_self_eq_true, tabl, cellsOf, fldA, ldA, stA, entAt, partA, takeN, over, leafOk, Value.oneCell', idxA, nilA, cellsEq, fillA, elemsA, pure1, pure2, reps, chkA, tys, Tryd.results45, KX_draw, KX_drawQ, KX_tail, lastO_one, lastO_more, dropL_one, dropL_more, callP_eq, callM_true, ext_mv1, zA, bigA, qA, ratA, digA, hz, hnz, iz]
  have i0 : (((dig d.natAbs).length : Int) == 0) = false := by
    have : dig d.natAbs ≠ [] := fun e => by have := dig_nil.1 e; omega
    have := List.length_pos_iff.2 this
    simp; omega
  have hg0 : 0 < n.natAbs.gcd d.natAbs := Nat.gcd_pos_of_pos_right _ (by omega)
  have hD := fun S tk k => R03_common S tk k n.natAbs d.natAbs hn hd
  have hgl : (dig (n.natAbs.gcd d.natAbs)).length ≤ 90000 := by
    have h3 : n.natAbs.gcd d.natAbs ≤ d.natAbs := Nat.gcd_le_right _ (by omega)
    exact Nat.le_trans (dig_len.2 (Nat.lt_of_le_of_lt h3 (dig_len.1 (Nat.le_refl _)))) hd
  have hQ1 := fun S tk k => R03_over S tk k n.natAbs (n.natAbs.gcd d.natAbs) hn hgl hg0
  have hQ2 := fun S tk k => R03_over S tk k d.natAbs (n.natAbs.gcd d.natAbs) hd hgl hg0
  have hla := low_abs n d
  have hlb : (lowD n d).natAbs = d.natAbs / n.natAbs.gcd d.natAbs := rfl
  have hs := low_sign n d hd0
  have hp := dlen_pos (n.natAbs / n.natAbs.gcd d.natAbs)
  have hdn : decide (lowD n d < 0) = false := by
    have : ¬ lowD n d < 0 := by unfold lowD; omega
    simp [this]
  unfold resQ resN resD
  simp only [digA] at hD hQ1 hQ2
  by_cases h1 : (dig (n.natAbs / n.natAbs.gcd d.natAbs)).length ≤ 200
  · have d1 : decide (((dig (n.natAbs / n.natAbs.gcd d.natAbs)).length : Int) > 200) = false := by simp; omega
    by_cases h2 : (dig (d.natAbs / n.natAbs.gcd d.natAbs)).length ≤ 200
    · have d2 : decide (((dig (d.natAbs / n.natAbs.gcd d.natAbs)).length : Int) > 200) = false := by simp; omega
      have hf : fitsQ n d = true := by simp only [fitsQ, okZ, hla, hlb]; simp [hd0]; omega
      rw [hf]
      simp only [if_true, qA, hla, hlb, ← hs, hdn]
      have hbn : (decide (n < 0) != decide (d < 0)) = !(decide (n < 0) == decide (d < 0)) := rfl
      rw [hbn]
      cases d3 : decide (n < 0) == decide (d < 0) with
      | true => simp (maxSteps := 1000000) +contextual (disch := first | with_reducible assumption | exact ⟨rfl⟩ | exact ⟨rfl, rfl⟩ | (refine _root_.id ?_; kernel_rfl) | omega) only [evs, ext_mv, nth, put, putT, getT, binInt, binStr, binBool, aUn, outA, resA, mapO, resA1, oneOf, w1, w2, w3, bots, cond_true, cond_false, if_true, if_false, ite_true, ite_false, reduceIte, reduceCtorEq, implies_true, Nat.reduceAdd, Nat.reduceSub, AV.int, AV.bool, AV.str, Nat.reduceBEq, Nat.reduceEqDiff, Nat.reduceMul, Nat.reduceLT, Nat.reduceLeDiff, Int.reduceNeg, BEq.rfl, beq_self_eq_true, tabl, cellsOf, fldA, ldA, stA, entAt, partA, takeN, over, leafOk, Value.oneCell', idxA, nilA, cellsEq, fillA, elemsA, pure1, pure2, reps, chkA, tys, Tryd.results45, KX_draw, KX_drawQ, KX_tail, lastO_one, lastO_more, dropL_one, dropL_more, callP_eq, callM_true, ext_mv1, zA, bigA, ratA, digA, hD, hQ1, hQ2, i0, d1, d2, d3, hbn, hp, Bool.not_true, Bool.not_false, Bool.true_and, Bool.false_and]
      | false => simp (maxSteps := 1000000) +contextual (disch := first | with_reducible assumption | exact ⟨rfl⟩ | exact ⟨rfl, rfl⟩ | (refine _root_.id ?_; kernel_rfl) | omega) only [evs, ext_mv, nth, put, putT, getT, binInt, binStr, binBool, aUn, outA, resA, mapO, resA1, oneOf, w1, w2, w3, bots, cond_true, cond_false, if_true, if_false, ite_true, ite_false, reduceIte, reduceCtorEq, implies_true, Nat.reduceAdd, Nat.reduceSub, AV.int, AV.bool, AV.str, Nat.reduceBEq, Nat.reduceEqDiff, Nat.reduceMul, Nat.reduceLT, Nat.reduceLeDiff, Int.reduceNeg, BEq.rfl, beq_self_eq_true, tabl, cellsOf, fldA, ldA, stA, entAt, partA, takeN, over, leafOk, Value.oneCell', idxA, nilA, cellsEq, fillA, elemsA, pure1, pure2, reps, chkA, tys, Tryd.results45, KX_draw, KX_drawQ, KX_tail, lastO_one, lastO_more, dropL_one, dropL_more, callP_eq, callM_true, ext_mv1, zA, bigA, ratA, digA, hD, hQ1, hQ2, i0, d1, d2, d3, hbn, hp, Bool.not_true, Bool.not_false, Bool.true_and, Bool.false_and]
    · have d2 : decide (((dig (d.natAbs / n.natAbs.gcd d.natAbs)).length : Int) > 200) = true := by simp; omega
      have hf : fitsQ n d = false := by simp only [fitsQ, okZ, hla, hlb]; simp [hd0]; omega
      rw [hf]
      simp only [Bool.false_eq_true, if_false]
      simp (maxSteps := 1000000) +contextual (disch := first | with_reducible assumption | exact ⟨rfl⟩ | exact ⟨rfl, rfl⟩ | (refine _root_.id ?_; kernel_rfl) | omega) only [evs, ext_mv, nth, put, putT, getT, binInt, binStr, binBool, aUn, outA, resA, mapO, resA1, oneOf, w1, w2, w3, bots, cond_true, cond_false, if_true, if_false, ite_true, ite_false, reduceIte, reduceCtorEq, implies_true, Nat.reduceAdd, Nat.reduceSub, AV.int, AV.bool, AV.str, Nat.reduceBEq, Nat.reduceEqDiff, Nat.reduceMul, Nat.reduceLT, Nat.reduceLeDiff, Int.reduceNeg, BEq.rfl, beq_self_eq_true, tabl, cellsOf, fldA, ldA, stA, entAt, partA, takeN, over, leafOk, Value.oneCell', idxA, nilA, cellsEq, fillA, elemsA, pure1, pure2, reps, chkA, tys, Tryd.results45, KX_draw, KX_drawQ, KX_tail, lastO_one, lastO_more, dropL_one, dropL_more, callP_eq, callM_true, ext_mv1, zA, bigA, qA, ratA, digA, hz, hD, hQ1, hQ2, i0, d1, d2]
      exact ⟨by decide, by decide⟩
  · have d1 : decide (((dig (n.natAbs / n.natAbs.gcd d.natAbs)).length : Int) > 200) = true := by simp; omega
    have hf : fitsQ n d = false := by simp only [fitsQ, okZ, hla, hlb]; simp [hd0]; omega
    rw [hf]
    simp only [Bool.false_eq_true, if_false]
    simp (maxSteps := 1000000) +contextual (disch := first | with_reducible assumption | exact ⟨rfl⟩ | exact ⟨rfl, rfl⟩ | (refine _root_.id ?_; kernel_rfl) | omega) only [evs, ext_mv, nth, put, putT, getT, binInt, binStr, binBool, aUn, outA, resA, mapO, resA1, oneOf, w1, w2, w3, bots, cond_true, cond_false, if_true, if_false, ite_true, ite_false, reduceIte, reduceCtorEq, implies_true, Nat.reduceAdd, Nat.reduceSub, AV.int, AV.bool, AV.str, Nat.reduceBEq, Nat.reduceEqDiff, Nat.reduceMul, Nat.reduceLT, Nat.reduceLeDiff, Int.reduceNeg, BEq.rfl, beq_self_eq_true, tabl, cellsOf, fldA, ldA, stA, entAt, partA, takeN, over, leafOk, Value.oneCell', idxA, nilA, cellsEq, fillA, elemsA, pure1, pure2, reps, chkA, tys, Tryd.results45, KX_draw, KX_drawQ, KX_tail, lastO_one, lastO_more, dropL_one, dropL_more, callP_eq, callM_true, ext_mv1, zA, bigA, qA, ratA, digA, hz, hD, hQ1, hQ2, i0, d1]
    exact ⟨by decide, by decide⟩
theorem R03_Of (p : Bool) (l : List Int) (q : Bool) (r : List Int) (hl : l.length ≤ 1000000) (hr : r.length ≤ 1000000) : cL Tryd.prog 13 [bigA p l, bigA q r] S tk k = some (ofQ p l q r, S, tk, k) := by
  have hV1 := fun S tk k => told (E := E1) (R02_Valid S tk k p l .unk hl)
  have hV2 := fun S tk k => told (E := E1) (R02_Valid S tk k q r .unk hr)
  refine call_pure Tryd.func13 rfl rfl (by decide +kernel) (by decide +kernel) Tryd.ntmps13 rfl rfl _ _ _ (rfl) ?_; rw [RK_KX]
  have hz : dig (Int.natAbs 0) = [] := rfl
  have hnz : decide ((0 : Int) < 0) = false := by decide
  unfold ofQ
  cases h1 : validF p l with
  | false =>
    rw [h1] at hV1
    rw [if_neg (by simp), res_zero]
    simp (maxSteps := 1000000) +contextual (disch := first | with_reducible assumption | exact ⟨rfl⟩ | exact ⟨rfl, rfl⟩ | (refine _root_.id ?_; kernel_rfl) | omega) only [evs, ext_mv, nth, put, putT, getT, binInt, binStr, binBool, aUn, outA, resA, mapO, resA1, oneOf, w1, w2, w3, bots, cond_true, cond_false, if_true, if_false, ite_true, ite_false, reduceIte, reduceCtorEq, implies_true, Nat.reduceAdd, Nat.reduceSub, AV.int, AV.bool, AV.str, Nat.reduceBEq, Nat.reduceEqDiff, Nat.reduceMul, Nat.reduceLT, Nat.reduceLeDiff, Int.reduceNeg, BEq.rfl, beq_self_eq_true, tabl, cellsOf, fldA, ldA, stA, entAt, partA, takeN, over, leafOk, Value.oneCell', idxA, nilA, cellsEq, fillA, elemsA, pure1, pure2, reps, chkA, tys, Tryd.results13, KX_draw, KX_drawQ, KX_tail, lastO_one, lastO_more, dropL_one, dropL_more, callP_eq, callM_true, ext_mv1, qA, ratA, bigA, digA, hz, hnz, hV1]
  | true =>
  rw [h1] at hV1
  rw [if_pos rfl]
  cases h2 : validF q r with
  | false =>
    rw [h2] at hV2
    rw [V_bad h2, res_zero]
    simp (maxSteps := 1000000) +contextual (disch := first | with_reducible assumption | exact ⟨rfl⟩ | exact ⟨rfl, rfl⟩ | (refine _root_.id ?_; kernel_rfl) | omega) only [evs, ext_mv, nth, put, putT, getT, binInt, binStr, binBool, aUn, outA, resA, mapO, resA1, oneOf, w1, w2, w3, bots, cond_true, cond_false, if_true, if_false, ite_true, ite_false, reduceIte, reduceCtorEq, implies_true, Nat.reduceAdd, Nat.reduceSub, AV.int, AV.bool, AV.str, Nat.reduceBEq, Nat.reduceEqDiff, Nat.reduceMul, Nat.reduceLT, Nat.reduceLeDiff, Int.reduceNeg, BEq.rfl, beq_self_eq_true, tabl, cellsOf, fldA, ldA, stA, entAt, partA, takeN, over, leafOk, Value.oneCell', idxA, nilA, cellsEq, fillA, elemsA, pure1, pure2, reps, chkA, tys, Tryd.results13, KX_draw, KX_drawQ, KX_tail, lastO_one, lastO_more, dropL_one, dropL_more, callP_eq, callM_true, ext_mv1, qA, ratA, bigA, digA, hz, hnz, hV1, hV2]
  | true =>
  rw [h2] at hV2
  obtain ⟨hp, hpl⟩ := valid_sign h1
  obtain ⟨hq, hqr⟩ := valid_sign h2
  have hR := fun S tk k => R03_lowest S tk k (V p l) (V q r) (by have := V_len p l; omega) (by have := V_len q r; omega)
  simp only [zA, bigA, digA, ← hp, ← hpl, ← hq, ← hqr] at hR
  simp only [resQ, qA, ratA, digA] at hR ⊢
  simp (maxSteps := 1000000) +contextual (disch := first | with_reducible assumption | exact ⟨rfl⟩ | exact ⟨rfl, rfl⟩ | (refine _root_.id ?_; kernel_rfl) | omega) only [evs, ext_mv, nth, put, putT, getT, binInt, binStr, binBool, aUn, outA, resA, mapO, resA1, oneOf, w1, w2, w3, bots, cond_true, cond_false, if_true, if_false, ite_true, ite_false, reduceIte, reduceCtorEq, implies_true, Nat.reduceAdd, Nat.reduceSub, AV.int, AV.bool, AV.str, Nat.reduceBEq, Nat.reduceEqDiff, Nat.reduceMul, Nat.reduceLT, Nat.reduceLeDiff, Int.reduceNeg, BEq.rfl, beq_self_eq_true, tabl, cellsOf, fldA, ldA, stA, entAt, partA, takeN, over, leafOk, Value.oneCell', idxA, nilA, cellsEq, fillA, elemsA, pure1, pure2, reps, chkA, tys, Tryd.results13, KX_draw, KX_drawQ, KX_tail, lastO_one, lastO_more, dropL_one, dropL_more, callP_eq, callM_true, ext_mv1, qA, ratA, bigA, digA, hV1, hV2, hR]
theorem R03_Add (p1 : Bool) (l1 : List Int) (q1 : Bool) (r1 : List Int) (p2 : Bool) (l2 : List Int) (q2 : Bool) (r2 : List Int) (h1 : l1.length ≤ 1000000) (h2 : r1.length ≤ 1000000) (h3 : l2.length ≤ 1000000) (h4 : r2.length ≤ 1000000) :
    cL Tryd.prog 30 [ratA p1 l1 q1 r1, ratA p2 l2 q2 r2] S tk k = some (resQ (nQ p1 l1 q1 r1 * dQ p2 l2 q2 r2 + nQ p2 l2 q2 r2 * dQ p1 l1 q1 r1) (dQ p1 l1 q1 r1 * dQ p2 l2 q2 r2), S, tk, k) := by
  have hA := fun S tk k => R03_right S tk k p1 l1 q1 r1 h1 h2
  have hB := fun S tk k => R03_right S tk k p2 l2 q2 r2 h3 h4
  have gA := good_of p1 l1 q1 r1
  have gB := good_of p2 l2 q2 r2
  generalize nQ p1 l1 q1 r1 = a at *
  generalize dQ p1 l1 q1 r1 = b at *
  generalize nQ p2 l2 q2 r2 = c at *
  generalize dQ p2 l2 q2 r2 = d at *
  refine call_pure Tryd.func30 rfl rfl (by decide +kernel) (by decide +kernel) Tryd.ntmps30 rfl rfl _ _ _ (rfl) ?_; rw [RK_KX]
  have l1 := gA.ln
  have l2 := gA.ld
  have l3 := gB.ln
  have l4 := gB.ld
  have hT1 := fun S tk k => R03_product S tk k a d (by omega) (by omega)
  have hT2 := fun S tk k => R03_product S tk k b d (by omega) (by omega)
  have hT3 := fun S tk k => R03_product S tk k c b (by omega) (by omega)
  have m1 := len_mulZ l1 l4
  have m2 := len_mulZ l2 l4
  have m3 := len_mulZ l3 l2
  have hP := fun S tk k => R03_whole S tk k (a * d) (c * b) (by omega) (by omega)
  have m4 := len_addZ (x := a * d) (y := c * b) (a := 45000) (by omega) (by omega)
  have hR := fun S tk k => R03_lowest S tk k (a * d + c * b) (b * d) (by omega) (by omega)
  simp only [zA, bigA, digA] at hT1 hT2 hT3 hP hR
  simp only [resQ, qA, ratA, digA] at hA hB hR ⊢
  simp (maxSteps := 1000000) +contextual (disch := first | with_reducible assumption | exact ⟨rfl⟩ | exact ⟨rfl, rfl⟩ | (refine _root_.id ?_; kernel_rfl) | omega) only [evs, ext_mv, nth, put, putT, getT, binInt, binStr, binBool, aUn, outA, resA, mapO, resA1, oneOf, w1, w2, w3, bots, cond_true, cond_false, if_true, if_false, ite_true, ite_false, reduceIte, reduceCtorEq, implies_true, Nat.reduceAdd, Nat.reduceSub, AV.int, AV.bool, AV.str, Nat.reduceBEq, Nat.reduceEqDiff, Nat.reduceMul, Nat.reduceLT, Nat.reduceLeDiff, Int.reduceNeg, BEq.rfl, beq_self_eq_true, tabl, cellsOf, fldA, ldA, stA, entAt, partA, takeN, over, leafOk, Value.oneCell', idxA, nilA, cellsEq, fillA, elemsA, pure1, pure2, reps, chkA, tys, Tryd.results30, KX_draw, KX_drawQ, KX_tail, lastO_one, lastO_more, dropL_one, dropL_more, callP_eq, callM_true, ext_mv1, ratA, digA, hA, hB, hT1, hT2, hT3, hP, hR]
theorem R03_Mul (p1 : Bool) (l1 : List Int) (q1 : Bool) (r1 : List Int) (p2 : Bool) (l2 : List Int) (q2 : Bool) (r2 : List Int) (h1 : l1.length ≤ 1000000) (h2 : r1.length ≤ 1000000) (h3 : l2.length ≤ 1000000) (h4 : r2.length ≤ 1000000) :
    cL Tryd.prog 34 [ratA p1 l1 q1 r1, ratA p2 l2 q2 r2] S tk k = some (resQ (nQ p1 l1 q1 r1 * nQ p2 l2 q2 r2) (dQ p1 l1 q1 r1 * dQ p2 l2 q2 r2), S, tk, k) := by
  have hA := fun S tk k => R03_right S tk k p1 l1 q1 r1 h1 h2
  have hB := fun S tk k => R03_right S tk k p2 l2 q2 r2 h3 h4
  have gA := good_of p1 l1 q1 r1
  have gB := good_of p2 l2 q2 r2
  generalize nQ p1 l1 q1 r1 = a at *
  generalize dQ p1 l1 q1 r1 = b at *
  generalize nQ p2 l2 q2 r2 = c at *
  generalize dQ p2 l2 q2 r2 = d at *
  refine call_pure Tryd.func34 rfl rfl (by decide +kernel) (by decide +kernel) Tryd.ntmps34 rfl rfl _ _ _ (rfl) ?_; rw [RK_KX]
  have l1 := gA.ln
  have l2 := gA.ld
  have l3 := gB.ln
  have l4 := gB.ld
  have hT1 := fun S tk k => R03_product S tk k a c (by omega) (by omega)
  have hT2 := fun S tk k => R03_product S tk k b d (by omega) (by omega)
  have m1 := len_mulZ l1 l3
  have m2 := len_mulZ l2 l4
  have hR := fun S tk k => R03_lowest S tk k (a * c) (b * d) (by omega) (by omega)
  simp only [zA, bigA, digA] at hT1 hT2 hR
  simp only [resQ, qA, ratA, digA] at hA hB hR ⊢
  simp (maxSteps := 1000000) +contextual (disch := first | with_reducible assumption | exact ⟨rfl⟩ | exact ⟨rfl, rfl⟩ | (refine _root_.id ?_; kernel_rfl) | omega) only [evs, ext_mv, nth, put, putT, getT, binInt, binStr, binBool, aUn, outA, resA, mapO, resA1, oneOf, w1, w2, w3, bots, cond_true, cond_false, if_true, if_false, ite_true, ite_false, reduceIte, reduceCtorEq, implies_true, Nat.reduceAdd, Nat.reduceSub, AV.int, AV.bool, AV.str, Nat.reduceBEq, Nat.reduceEqDiff, Nat.reduceMul, Nat.reduceLT, Nat.reduceLeDiff, Int.reduceNeg, BEq.rfl, beq_self_eq_true, tabl, cellsOf, fldA, ldA, stA, entAt, partA, takeN, over, leafOk, Value.oneCell', idxA, nilA, cellsEq, fillA, elemsA, pure1, pure2, reps, chkA, tys, Tryd.results34, KX_draw, KX_drawQ, KX_tail, lastO_one, lastO_more, dropL_one, dropL_more, callP_eq, callM_true, ext_mv1, ratA, digA, hA, hB, hT1, hT2, hR]
theorem R03_Div (p1 : Bool) (l1 : List Int) (q1 : Bool) (r1 : List Int) (p2 : Bool) (l2 : List Int) (q2 : Bool) (r2 : List Int) (h1 : l1.length ≤ 1000000) (h2 : r1.length ≤ 1000000) (h3 : l2.length ≤ 1000000) (h4 : r2.length ≤ 1000000) :
    cL Tryd.prog 36 [ratA p1 l1 q1 r1, ratA p2 l2 q2 r2] S tk k = some (resQ (nQ p1 l1 q1 r1 * dQ p2 l2 q2 r2) (dQ p1 l1 q1 r1 * nQ p2 l2 q2 r2), S, tk, k) := by
  have hA := fun S tk k => R03_right S tk k p1 l1 q1 r1 h1 h2
  have hB := fun S tk k => R03_right S tk k p2 l2 q2 r2 h3 h4
  have gA := good_of p1 l1 q1 r1
  have gB := good_of p2 l2 q2 r2
  generalize nQ p1 l1 q1 r1 = a at *
  generalize dQ p1 l1 q1 r1 = b at *
  generalize nQ p2 l2 q2 r2 = c at *
  generalize dQ p2 l2 q2 r2 = d at *
  refine call_pure Tryd.func36 rfl rfl (by decide +kernel) (by decide +kernel) Tryd.ntmps36 rfl rfl _ _ _ (rfl) ?_; rw [RK_KX]
  have l1 := gA.ln
  have l2 := gA.ld
  have l3 := gB.ln
  have l4 := gB.ld
  have hT1 := fun S tk k => R03_product S tk k a d (by omega) (by omega)
  have hT2 := fun S tk k => R03_product S tk k b c (by omega) (by omega)
  have m1 := len_mulZ l1 l4
  have m2 := len_mulZ l2 l3
  have hR := fun S tk k => R03_lowest S tk k (a * d) (b * c) (by omega) (by omega)
  simp only [zA, bigA, digA] at hT1 hT2 hR
  simp only [resQ, qA, ratA, digA] at hA hB hR ⊢
  simp (maxSteps := 1000000) +contextual (disch := first | with_reducible assumption | exact ⟨rfl⟩ | exact ⟨rfl, rfl⟩ | (refine _root_.id ?_; kernel_rfl) | omega) only [evs, ext_mv, nth, put, putT, getT, binInt, binStr, binBool, aUn, outA, resA, mapO, resA1, oneOf, w1, w2, w3, bots, cond_true, cond_false, if_true, if_false, ite_true, ite_false, reduceIte, reduceCtorEq, implies_true, Nat.reduceAdd, Nat.reduceSub, AV.int, AV.bool, AV.str, Nat.reduceBEq, Nat.reduceEqDiff, Nat.reduceMul, Nat.reduceLT, Nat.reduceLeDiff, Int.reduceNeg, BEq.rfl, beq_self_eq_true, tabl, cellsOf, fldA, ldA, stA, entAt, partA, takeN, over, leafOk, Value.oneCell', idxA, nilA, cellsEq, fillA, elemsA, pure1, pure2, reps, chkA, tys, Tryd.results36, KX_draw, KX_drawQ, KX_tail, lastO_one, lastO_more, dropL_one, dropL_more, callP_eq, callM_true, ext_mv1, ratA, digA, hA, hB, hT1, hT2, hR]
theorem R03_opposite (p : Bool) (l : List Int) (q : Bool) (r : List Int) (hl : l.length ≤ 1000000) (hr : r.length ≤ 1000000) : cL Tryd.prog 58 [ratA p l q r] S tk k = some (qA (-nQ p l q r) (dQ p l q r), S, tk, k) := by
  have hA := fun S tk k => R03_right S tk k p l q r hl hr
  generalize nQ p l q r = a at *
  generalize dQ p l q r = b at *
  refine call_pure Tryd.func58 rfl rfl (by decide +kernel) (by decide +kernel) Tryd.ntmps58 rfl rfl _ _ _ (rfl) ?_; rw [RK_KX]
  have hz := zneg a
  have hp := dlen_pos a.natAbs
  simp only [qA, ratA, digA] at hA ⊢
  rw [← hz, Int.natAbs_neg]
  by_cases ha : a < 0
  · have d1 : decide (a < 0) = true := by simpa using ha
    rw [d1] at hA ⊢
    simp (maxSteps := 1000000) +contextual (disch := first | with_reducible assumption | exact ⟨rfl⟩ | exact ⟨rfl, rfl⟩ | (refine _root_.id ?_; kernel_rfl) | omega) only [evs, ext_mv, nth, put, putT, getT, binInt, binStr, binBool, aUn, outA, resA, mapO, resA1, oneOf, w1, w2, w3, bots, cond_true, cond_false, if_true, if_false, ite_true, ite_false, reduceIte, reduceCtorEq, implies_true, Nat.reduceAdd, Nat.reduceSub, AV.int, AV.bool, AV.str, Nat.reduceBEq, Nat.reduceEqDiff, Nat.reduceMul, Nat.reduceLT, Nat.reduceLeDiff, Int.reduceNeg, BEq.rfl, beq_self_eq_true, tabl, cellsOf, fldA, ldA, stA, entAt, partA, takeN, over, leafOk, Value.oneCell', idxA, nilA, cellsEq, fillA, elemsA, pure1, pure2, reps, chkA, tys, Tryd.results58, KX_draw, KX_drawQ, KX_tail, lastO_one, lastO_more, dropL_one, dropL_more, callP_eq, callM_true, ext_mv1, hA, hp, Bool.not_true, Bool.false_and]
  · have d1 : decide (a < 0) = false := by simpa using ha
    rw [d1] at hA ⊢
    simp (maxSteps := 1000000) +contextual (disch := first | with_reducible assumption | exact ⟨rfl⟩ | exact ⟨rfl, rfl⟩ | (refine _root_.id ?_; kernel_rfl) | omega) only [evs, ext_mv, nth, put, putT, getT, binInt, binStr, binBool, aUn, outA, resA, mapO, resA1, oneOf, w1, w2, w3, bots, cond_true, cond_false, if_true, if_false, ite_true, ite_false, reduceIte, reduceCtorEq, implies_true, Nat.reduceAdd, Nat.reduceSub, AV.int, AV.bool, AV.str, Nat.reduceBEq, Nat.reduceEqDiff, Nat.reduceMul, Nat.reduceLT, Nat.reduceLeDiff, Int.reduceNeg, BEq.rfl, beq_self_eq_true, tabl, cellsOf, fldA, ldA, stA, entAt, partA, takeN, over, leafOk, Value.oneCell', idxA, nilA, cellsEq, fillA, elemsA, pure1, pure2, reps, chkA, tys, Tryd.results58, KX_draw, KX_drawQ, KX_tail, lastO_one, lastO_more, dropL_one, dropL_more, callP_eq, callM_true, ext_mv1, hA, hp, Bool.not_false, Bool.true_and]
theorem R03_Sub (p1 : Bool) (l1 : List Int) (q1 : Bool) (r1 : List Int) (p2 : Bool) (l2 : List Int) (q2 : Bool) (r2 : List Int) (h1 : l1.length ≤ 1000000) (h2 : r1.length ≤ 1000000) (h3 : l2.length ≤ 1000000) (h4 : r2.length ≤ 1000000) :
    cL Tryd.prog 32 [ratA p1 l1 q1 r1, ratA p2 l2 q2 r2] S tk k = some (resQ (nQ p1 l1 q1 r1 * dQ p2 l2 q2 r2 + -nQ p2 l2 q2 r2 * dQ p1 l1 q1 r1) (dQ p1 l1 q1 r1 * dQ p2 l2 q2 r2), S, tk, k) := by
  have hO := fun S tk k => R03_opposite S tk k p2 l2 q2 r2 h3 h4
  have gB := (good_of p2 l2 q2 r2).neg
  generalize nQ p2 l2 q2 r2 = c at *
  generalize dQ p2 l2 q2 r2 = d at *
  have hA := fun S tk k => R03_Add S tk k p1 l1 q1 r1 (decide (-c < 0)) (dig (-c).natAbs) (decide (d < 0)) (dig d.natAbs) h1 h2 (by have := gB.ln; omega) (by have := gB.ld; omega)
  rw [gB.nQ, gB.dQ] at hA
  refine call_pure Tryd.func32 rfl rfl (by decide +kernel) (by decide +kernel) Tryd.ntmps32 rfl rfl _ _ _ (rfl) ?_; rw [RK_KX]
  simp only [resQ, qA, ratA, digA] at hO hA ⊢
  simp (maxSteps := 1000000) +contextual (disch := first | with_reducible assumption | exact ⟨rfl⟩ | exact ⟨rfl, rfl⟩ | (refine _root_.id ?_; kernel_rfl) | omega) only [evs, ext_mv, nth, put, putT, getT, binInt, binStr, binBool, aUn, outA, resA, mapO, resA1, oneOf, w1, w2, w3, bots, cond_true, cond_false, if_true, if_false, ite_true, ite_false, reduceIte, reduceCtorEq, implies_true, Nat.reduceAdd, Nat.reduceSub, AV.int, AV.bool, AV.str, Nat.reduceBEq, Nat.reduceEqDiff, Nat.reduceMul, Nat.reduceLT, Nat.reduceLeDiff, Int.reduceNeg, BEq.rfl, beq_self_eq_true, tabl, cellsOf, fldA, ldA, stA, entAt, partA, takeN, over, leafOk, Value.oneCell', idxA, nilA, cellsEq, fillA, elemsA, pure1, pure2, reps, chkA, tys, Tryd.results32, KX_draw, KX_drawQ, KX_tail, lastO_one, lastO_more, dropL_one, dropL_more, callP_eq, callM_true, ext_mv1, hO, hA]
theorem R03_Cmp (p1 : Bool) (l1 : List Int) (q1 : Bool) (r1 : List Int) (p2 : Bool) (l2 : List Int) (q2 : Bool) (r2 : List Int) (h1 : l1.length ≤ 1000000) (h2 : r1.length ≤ 1000000) (h3 : l2.length ≤ 1000000) (h4 : r2.length ≤ 1000000) :
    cL Tryd.prog 21 [ratA p1 l1 q1 r1, ratA p2 l2 q2 r2] S tk k = some (.int (cmpZ (nQ p1 l1 q1 r1 * dQ p2 l2 q2 r2) (nQ p2 l2 q2 r2 * dQ p1 l1 q1 r1)), S, tk, k) := by
  have hA := fun S tk k => R03_right S tk k p1 l1 q1 r1 h1 h2
  have hB := fun S tk k => R03_opposite S tk k p2 l2 q2 r2 h3 h4
  have gA := good_of p1 l1 q1 r1
  have gB := (good_of p2 l2 q2 r2).neg
  generalize nQ p1 l1 q1 r1 = a at *
  generalize dQ p1 l1 q1 r1 = b at *
  generalize nQ p2 l2 q2 r2 = c at *
  generalize dQ p2 l2 q2 r2 = d at *
  refine call_pure Tryd.func21 rfl rfl (by decide +kernel) (by decide +kernel) Tryd.ntmps21 rfl rfl _ _ _ (rfl) ?_; rw [RK_KX]
  have l1 := gA.ln
  have l2 := gA.ld
  have l3 := gB.ln
  have l4 := gB.ld
  have hT1 := fun S tk k => R03_product S tk k a d (by omega) (by omega)
  have hT2 := fun S tk k => R03_product S tk k (-c) b (by omega) (by omega)
  have m1 := len_mulZ l1 l4
  have m2 := len_mulZ l3 l2
  have hP := fun S tk k => R03_whole S tk k (a * d) (-c * b) (by omega) (by omega)
  have e : a * d + -c * b = a * d - c * b := by rw [Int.neg_mul]; omega
  rw [e] at hP
  simp only [zA, bigA, digA] at hT1 hT2 hP
  simp only [qA, ratA, digA] at hA hB
  generalize a * d = x at *
  generalize c * b = y at *
  by_cases g1 : x = y
  · have d0 : dig (x - y).natAbs = [] := by rw [g1]; simp [dig_zero]
    have d1 : (((dig (x - y).natAbs).length : Int) == 0) = true := by rw [d0]; rfl
    rw [cmpZ_eq g1]
    simp (maxSteps := 1000000) +contextual (disch := first | with_reducible assumption | exact ⟨rfl⟩ | exact ⟨rfl, rfl⟩ | (refine _root_.id ?_; kernel_rfl) | omega) only [evs, ext_mv, nth, put, putT, getT, binInt, binStr, binBool, aUn, outA, resA, mapO, resA1, oneOf, w1, w2, w3, bots, cond_true, cond_false, if_true, if_false, ite_true, ite_false, reduceIte, reduceCtorEq, implies_true, Nat.reduceAdd, Nat.reduceSub, AV.int, AV.bool, AV.str, Nat.reduceBEq, Nat.reduceEqDiff, Nat.reduceMul, Nat.reduceLT, Nat.reduceLeDiff, Int.reduceNeg, BEq.rfl, beq_self_eq_true, tabl, cellsOf, fldA, ldA, stA, entAt, partA, takeN, over, leafOk, Value.oneCell', idxA, nilA, cellsEq, fillA, elemsA, pure1, pure2, reps, chkA, tys, Tryd.results21, KX_draw, KX_drawQ, KX_tail, lastO_one, lastO_more, dropL_one, dropL_more, callP_eq, callM_true, ext_mv1, ratA, digA, hA, hB, hT1, hT2, hP, d1]
  · have d1 : (((dig (x - y).natAbs).length : Int) == 0) = false := by
      have : dig (x - y).natAbs ≠ [] := fun e => by have := dig_nil.1 e; omega
      have := List.length_pos_iff.2 this
      simp; omega
    by_cases g2 : x < y
    · have d2 : decide (x - y < 0) = true := by simp; omega
      rw [d2] at hP
      rw [cmpZ_lt g2]
      simp (maxSteps := 1000000) +contextual (disch := first | with_reducible assumption | exact ⟨rfl⟩ | exact ⟨rfl, rfl⟩ | (refine _root_.id ?_; kernel_rfl) | omega) only [evs, ext_mv, nth, put, putT, getT, binInt, binStr, binBool, aUn, outA, resA, mapO, resA1, oneOf, w1, w2, w3, bots, cond_true, cond_false, if_true, if_false, ite_true, ite_false, reduceIte, reduceCtorEq, implies_true, Nat.reduceAdd, Nat.reduceSub, AV.int, AV.bool, AV.str, Nat.reduceBEq, Nat.reduceEqDiff, Nat.reduceMul, Nat.reduceLT, Nat.reduceLeDiff, Int.reduceNeg, BEq.rfl, beq_self_eq_true, tabl, cellsOf, fldA, ldA, stA, entAt, partA, takeN, over, leafOk, Value.oneCell', idxA, nilA, cellsEq, fillA, elemsA, pure1, pure2, reps, chkA, tys, Tryd.results21, KX_draw, KX_drawQ, KX_tail, lastO_one, lastO_more, dropL_one, dropL_more, callP_eq, callM_true, ext_mv1, ratA, digA, hA, hB, hT1, hT2, hP, d1]
    · have d2 : decide (x - y < 0) = false := by simp; omega
      rw [d2] at hP
      rw [cmpZ_gt (by omega)]
      simp (maxSteps := 1000000) +contextual (disch := first | with_reducible assumption | exact ⟨rfl⟩ | exact ⟨rfl, rfl⟩ | (refine _root_.id ?_; kernel_rfl) | omega) only [evs, ext_mv, nth, put, putT, getT, binInt, binStr, binBool, aUn, outA, resA, mapO, resA1, oneOf, w1, w2, w3, bots, cond_true, cond_false, if_true, if_false, ite_true, ite_false, reduceIte, reduceCtorEq, implies_true, Nat.reduceAdd, Nat.reduceSub, AV.int, AV.bool, AV.str, Nat.reduceBEq, Nat.reduceEqDiff, Nat.reduceMul, Nat.reduceLT, Nat.reduceLeDiff, Int.reduceNeg, BEq.rfl, beq_self_eq_true, tabl, cellsOf, fldA, ldA, stA, entAt, partA, takeN, over, leafOk, Value.oneCell', idxA, nilA, cellsEq, fillA, elemsA, pure1, pure2, reps, chkA, tys, Tryd.results21, KX_draw, KX_drawQ, KX_tail, lastO_one, lastO_more, dropL_one, dropL_more, callP_eq, callM_true, ext_mv1, ratA, digA, hA, hB, hT1, hT2, hP, d1]
theorem R03_plus_one (a : Nat) (ha : (dig a).length ≤ 100000) : cL Tryd.prog 64 [digA (dig a), .frz [[.prim (.int .i64 1)]] .tight] S tk k = some (digA (dig (a + 1)), S, tk, k) := by
  have h1' : dig 1 = [(1 : Int)] := dig_one (d := (1 : Int)) (by omega) (by omega)
  have h2 := R03_plus S tk k a 1 ha (by rw [h1']; simp)
  rw [h1'] at h2
  exact (cL_w2 (args := [digA (dig a), .frz [[.prim (.int .i64 1)]] .tight]) (args' := [digA (dig a), digA [(1 : Int)]]) rfl rfl rfl).trans h2
theorem R03_Floor (p : Bool) (l : List Int) (q : Bool) (r : List Int) (h1 : l.length ≤ 1000000) (h2 : r.length ≤ 1000000) : cL Tryd.prog 24 [ratA p l q r] S tk k = some (zA (nQ p l q r / dQ p l q r), S, tk, k) := by
  have hA := fun S tk k => R03_right S tk k p l q r h1 h2
  have g := good_of p l q r
  generalize nQ p l q r = a at *
  generalize dQ p l q r = b at *
  have hln := g.ln
  have hld := g.ld
  have hb2 := g.pos
  have hQ := fun S tk k => R03_over S tk k a.natAbs b.natAbs (by omega) (by omega) (by omega)
  have hql : (dig (a.natAbs / b.natAbs)).length ≤ 200 := Nat.le_trans (dig_len.2 (Nat.lt_of_le_of_lt (Nat.div_le_self _ _) (dig_len.1 (Nat.le_refl _)))) hln
  have hP := fun S tk k => R03_plus_one S tk k (a.natAbs / b.natAbs) (by omega)
  obtain ⟨f1, f2, f3⟩ := floor_of (n := a) hb2
  have hp := dlen_pos (a.natAbs / b.natAbs)
  have hp1 := dlen_pos (a.natAbs / b.natAbs + 1)
  have hp2 := dlen_pos (a.natAbs % b.natAbs)
  refine call_pure Tryd.func24 rfl rfl (by decide +kernel) (by decide +kernel) Tryd.ntmps24 rfl rfl _ _ _ (rfl) ?_; rw [RK_KX]
  simp only [qA, ratA, digA] at hA
  simp only [digA] at hQ hP
  by_cases hn : a < 0
  · have d1 : decide (a < 0) = true := by simpa using hn
    have hw : ∀ m : Nat, zA (-(m : Int)) = bigA (!decide (dig m = [])) (dig m) := fun m => by
      rw [zA_sg (fun e => by rw [e, dig_zero]; simp)]
      congr 1
      by_cases h0 : m = 0
      · rw [h0]; simp [sg]
      · have : ¬ dig m = [] := fun e => h0 (dig_nil.1 e)
        simp [this, sg]
    by_cases hr : dig (a.natAbs % b.natAbs) = []
    · have hr0 := dig_nil.1 hr
      have d2 : decide (dig (a.natAbs % b.natAbs) = []) = true := by simpa using hr
      rw [← f2 hn hr0, hw]
      simp only [bigA, digA]
      rw [d2] at hp2
      simp (maxSteps := 1000000) +contextual (disch := first | with_reducible assumption | exact ⟨rfl⟩ | exact ⟨rfl, rfl⟩ | (refine _root_.id ?_; kernel_rfl) | omega) only [evs, ext_mv, nth, put, putT, getT, binInt, binStr, binBool, aUn, outA, resA, mapO, resA1, oneOf, w1, w2, w3, bots, cond_true, cond_false, if_true, if_false, ite_true, ite_false, reduceIte, reduceCtorEq, implies_true, Nat.reduceAdd, Nat.reduceSub, AV.int, AV.bool, AV.str, Nat.reduceBEq, Nat.reduceEqDiff, Nat.reduceMul, Nat.reduceLT, Nat.reduceLeDiff, Int.reduceNeg, BEq.rfl, beq_self_eq_true, tabl, cellsOf, fldA, ldA, stA, entAt, partA, takeN, over, leafOk, Value.oneCell', idxA, nilA, cellsEq, fillA, elemsA, pure1, pure2, reps, chkA, tys, Tryd.results24, KX_draw, KX_drawQ, KX_tail, lastO_one, lastO_more, dropL_one, dropL_more, callP_eq, callM_true, ext_mv1, ratA, digA, hA, hQ, d1, hp, hp2, Bool.not_true, Bool.true_and]
    · have d2 : decide (dig (a.natAbs % b.natAbs) = []) = false := by simpa using hr
      have hr0 : 0 < a.natAbs % b.natAbs := Nat.pos_of_ne_zero fun e => hr (dig_nil.2 e)
      rw [← f1 hn hr0, show -((a.natAbs / b.natAbs : Nat) : Int) - 1 = -((a.natAbs / b.natAbs + 1 : Nat) : Int) by omega, hw]
      simp only [bigA, digA]
      rw [d2] at hp2
      simp (maxSteps := 1000000) +contextual (disch := first | with_reducible assumption | exact ⟨rfl⟩ | exact ⟨rfl, rfl⟩ | (refine _root_.id ?_; kernel_rfl) | omega) only [evs, ext_mv, nth, put, putT, getT, binInt, binStr, binBool, aUn, outA, resA, mapO, resA1, oneOf, w1, w2, w3, bots, cond_true, cond_false, if_true, if_false, ite_true, ite_false, reduceIte, reduceCtorEq, implies_true, Nat.reduceAdd, Nat.reduceSub, AV.int, AV.bool, AV.str, Nat.reduceBEq, Nat.reduceEqDiff, Nat.reduceMul, Nat.reduceLT, Nat.reduceLeDiff, Int.reduceNeg, BEq.rfl, beq_self_eq_true, tabl, cellsOf, fldA, ldA, stA, entAt, partA, takeN, over, leafOk, Value.oneCell', idxA, nilA, cellsEq, fillA, elemsA, pure1, pure2, reps, chkA, tys, Tryd.results24, KX_draw, KX_drawQ, KX_tail, lastO_one, lastO_more, dropL_one, dropL_more, callP_eq, callM_true, ext_mv1, ratA, digA, hA, hQ, d1, hP, hp1, hp2, Bool.not_false, Bool.true_and]
  · have d1 : decide (a < 0) = false := by simpa using hn
    rw [← f3 (by omega)]
    have hw : zA (((a.natAbs / b.natAbs : Nat) : Int)) = bigA false (dig (a.natAbs / b.natAbs)) := by
      rw [zA_sg (fun _ => rfl)]; rfl
    rw [hw]
    simp only [bigA, digA]
    simp (maxSteps := 1000000) +contextual (disch := first | with_reducible assumption | exact ⟨rfl⟩ | exact ⟨rfl, rfl⟩ | (refine _root_.id ?_; kernel_rfl) | omega) only [evs, ext_mv, nth, put, putT, getT, binInt, binStr, binBool, aUn, outA, resA, mapO, resA1, oneOf, w1, w2, w3, bots, cond_true, cond_false, if_true, if_false, ite_true, ite_false, reduceIte, reduceCtorEq, implies_true, Nat.reduceAdd, Nat.reduceSub, AV.int, AV.bool, AV.str, Nat.reduceBEq, Nat.reduceEqDiff, Nat.reduceMul, Nat.reduceLT, Nat.reduceLeDiff, Int.reduceNeg, BEq.rfl, beq_self_eq_true, tabl, cellsOf, fldA, ldA, stA, entAt, partA, takeN, over, leafOk, Value.oneCell', idxA, nilA, cellsEq, fillA, elemsA, pure1, pure2, reps, chkA, tys, Tryd.results24, KX_draw, KX_drawQ, KX_tail, lastO_one, lastO_more, dropL_one, dropL_more, callP_eq, callM_true, ext_mv1, ratA, digA, hA, hQ, d1]
theorem R03_Ceil (p : Bool) (l : List Int) (q : Bool) (r : List Int) (h1 : l.length ≤ 1000000) (h2 : r.length ≤ 1000000) : cL Tryd.prog 26 [ratA p l q r] S tk k = some (zA (-(-nQ p l q r / dQ p l q r)), S, tk, k) := by
  have hO := fun S tk k => R03_opposite S tk k p l q r h1 h2
  have g := (good_of p l q r).neg
  generalize nQ p l q r = a at *
  generalize dQ p l q r = b at *
  have hF := fun S tk k => R03_Floor S tk k (decide (-a < 0)) (dig (-a).natAbs) (decide (b < 0)) (dig b.natAbs) (by have := g.ln; omega) (by have := g.ld; omega)
  rw [g.nQ, g.dQ] at hF
  refine call_pure Tryd.func26 rfl rfl (by decide +kernel) (by decide +kernel) Tryd.ntmps26 rfl rfl _ _ _ (rfl) ?_; rw [RK_KX]
  have hz := zneg (-a / b)
  have hp := dlen_pos (-a / b).natAbs
  simp only [qA, ratA, digA] at hO
  simp only [zA, ratA, qA, bigA, digA] at hF ⊢
  rw [← hz, Int.natAbs_neg (-a / b)]
  generalize -a / b = f at *
  by_cases hf : f < 0
  · have d1 : decide (f < 0) = true := by simpa using hf
    rw [d1] at hF ⊢
    simp (maxSteps := 1000000) +contextual (disch := first | with_reducible assumption | exact ⟨rfl⟩ | exact ⟨rfl, rfl⟩ | (refine _root_.id ?_; kernel_rfl) | omega) only [evs, ext_mv, nth, put, putT, getT, binInt, binStr, binBool, aUn, outA, resA, mapO, resA1, oneOf, w1, w2, w3, bots, cond_true, cond_false, if_true, if_false, ite_true, ite_false, reduceIte, reduceCtorEq, implies_true, Nat.reduceAdd, Nat.reduceSub, AV.int, AV.bool, AV.str, Nat.reduceBEq, Nat.reduceEqDiff, Nat.reduceMul, Nat.reduceLT, Nat.reduceLeDiff, Int.reduceNeg, BEq.rfl, beq_self_eq_true, tabl, cellsOf, fldA, ldA, stA, entAt, partA, takeN, over, leafOk, Value.oneCell', idxA, nilA, cellsEq, fillA, elemsA, pure1, pure2, reps, chkA, tys, Tryd.results26, KX_draw, KX_drawQ, KX_tail, lastO_one, lastO_more, dropL_one, dropL_more, callP_eq, callM_true, ext_mv1, hO, hF, hp, Bool.not_true, Bool.false_and]
  · have d1 : decide (f < 0) = false := by simpa using hf
    rw [d1] at hF ⊢
    simp (maxSteps := 1000000) +contextual (disch := first | with_reducible assumption | exact ⟨rfl⟩ | exact ⟨rfl, rfl⟩ | (refine _root_.id ?_; kernel_rfl) | omega) only [evs, ext_mv, nth, put, putT, getT, binInt, binStr, binBool, aUn, outA, resA, mapO, resA1, oneOf, w1, w2, w3, bots, cond_true, cond_false, if_true, if_false, ite_true, ite_false, reduceIte, reduceCtorEq, implies_true, Nat.reduceAdd, Nat.reduceSub, AV.int, AV.bool, AV.str, Nat.reduceBEq, Nat.reduceEqDiff, Nat.reduceMul, Nat.reduceLT, Nat.reduceLeDiff, Int.reduceNeg, BEq.rfl, beq_self_eq_true, tabl, cellsOf, fldA, ldA, stA, entAt, partA, takeN, over, leafOk, Value.oneCell', idxA, nilA, cellsEq, fillA, elemsA, pure1, pure2, reps, chkA, tys, Tryd.results26, KX_draw, KX_drawQ, KX_tail, lastO_one, lastO_more, dropL_one, dropL_more, callP_eq, callM_true, ext_mv1, hO, hF, hp, Bool.not_false, Bool.true_and]
theorem R03_Text (p : Bool) (l : List Int) (q : Bool) (r : List Int) (h1 : l.length ≤ 1000000) (h2 : r.length ≤ 1000000) : cL Tryd.prog 28 [ratA p l q r] S tk k = some (.str (textQ (nQ p l q r) (dQ p l q r)), S, tk, k) := by
  have hA := fun S tk k => R03_right S tk k p l q r h1 h2
  have g := good_of p l q r
  generalize nQ p l q r = a at *
  generalize dQ p l q r = b at *
  have hln := g.ln
  have hld := g.ld
  have hpos := g.pos
  have hT1 := fun S tk k => R02_Text S tk k (decide (a < 0)) (dig a.natAbs) (by omega)
  have hT2 := fun S tk k => R02_Text S tk k (decide (b < 0)) (dig b.natAbs) (by omega)
  have e1 : ∀ p l, (.B (txt (V p l)) : AV) = .str (textF p l) := fun p l => by rw [text_V]
  simp only [e1] at hT1 hT2
  have hone := len_one (n := b.natAbs)
  have q1 := textF_le (decide (a < 0)) (dig a.natAbs)
  have q2 := textF_le (decide (b < 0)) (dig b.natAbs)
  have q3 : (ByteArray.mk #[47]).size = 1 := rfl
  refine call_pure Tryd.func28 rfl rfl (by decide +kernel) (by decide +kernel) Tryd.ntmps28 rfl rfl _ _ _ (rfl) ?_; rw [RK_KX]
  unfold textQ
  simp only [qA, bigA, ratA, digA] at hA hT1 hT2 ⊢
  by_cases hg1 : (dig b.natAbs).length = 1
  · have g1 : (((dig b.natAbs).length : Int) == 1) = true := by rw [hg1]; rfl
    obtain ⟨x, hx⟩ := nth_some (show 0 < (dig b.natAbs).length by omega)
    have hx' := nth_dig hx
    rw [hx, Option.getD_some, show decide ((dig b.natAbs).length = 1) = true by simpa using hg1, Bool.true_and] at hone
    by_cases hb : b = 1
    · have d1 : decide (b.natAbs = 1) = true := by simp; omega
      rw [d1] at hone
      rw [if_pos hb]
      simp (maxSteps := 1000000) +contextual (disch := first | with_reducible assumption | exact ⟨rfl⟩ | exact ⟨rfl, rfl⟩ | (refine _root_.id ?_; kernel_rfl) | omega) only [evs, ext_mv, nth, put, putT, getT, binInt, binStr, binBool, aUn, outA, resA, mapO, resA1, oneOf, w1, w2, w3, bots, cond_true, cond_false, if_true, if_false, ite_true, ite_false, reduceIte, reduceCtorEq, implies_true, Nat.reduceAdd, Nat.reduceSub, AV.int, AV.bool, AV.str, Nat.reduceBEq, Nat.reduceEqDiff, Nat.reduceMul, Nat.reduceLT, Nat.reduceLeDiff, Int.reduceNeg, BEq.rfl, beq_self_eq_true, tabl, cellsOf, fldA, ldA, stA, entAt, partA, takeN, over, leafOk, Value.oneCell', idxA, nilA, cellsEq, fillA, elemsA, pure1, pure2, reps, chkA, tys, Tryd.results28, KX_draw, KX_drawQ, KX_tail, lastO_one, lastO_more, dropL_one, dropL_more, callP_eq, callM_true, ext_mv1, hA, hT1, hT2, g1, hx', hone]
    · have d1 : decide (b.natAbs = 1) = false := by simp; omega
      rw [d1] at hone
      rw [if_neg hb]
      simp (maxSteps := 1000000) +contextual (disch := first | with_reducible assumption | exact ⟨rfl⟩ | exact ⟨rfl, rfl⟩ | (refine _root_.id ?_; kernel_rfl) | omega) only [evs, ext_mv, nth, put, putT, getT, binInt, binStr, binBool, aUn, outA, resA, mapO, resA1, oneOf, w1, w2, w3, bots, cond_true, cond_false, if_true, if_false, ite_true, ite_false, reduceIte, reduceCtorEq, implies_true, Nat.reduceAdd, Nat.reduceSub, AV.int, AV.bool, AV.str, Nat.reduceBEq, Nat.reduceEqDiff, Nat.reduceMul, Nat.reduceLT, Nat.reduceLeDiff, Int.reduceNeg, BEq.rfl, beq_self_eq_true, tabl, cellsOf, fldA, ldA, stA, entAt, partA, takeN, over, leafOk, Value.oneCell', idxA, nilA, cellsEq, fillA, elemsA, pure1, pure2, reps, chkA, tys, Tryd.results28, KX_draw, KX_drawQ, KX_tail, lastO_one, lastO_more, dropL_one, dropL_more, callP_eq, callM_true, ext_mv1, hA, hT1, hT2, g1, hx', hone]
      rw [ByteArray.size_append, q3]
      exact ⟨by omega, by omega⟩
  · have g1 : (((dig b.natAbs).length : Int) == 1) = false := by simp; omega
    rw [show decide ((dig b.natAbs).length = 1) = false by simpa using hg1, Bool.false_and] at hone
    have hb : ¬ b = 1 := by
      intro h; subst h
      simp at hone
    rw [if_neg hb]
    simp (maxSteps := 1000000) +contextual (disch := first | with_reducible assumption | exact ⟨rfl⟩ | exact ⟨rfl, rfl⟩ | (refine _root_.id ?_; kernel_rfl) | omega) only [evs, ext_mv, nth, put, putT, getT, binInt, binStr, binBool, aUn, outA, resA, mapO, resA1, oneOf, w1, w2, w3, bots, cond_true, cond_false, if_true, if_false, ite_true, ite_false, reduceIte, reduceCtorEq, implies_true, Nat.reduceAdd, Nat.reduceSub, AV.int, AV.bool, AV.str, Nat.reduceBEq, Nat.reduceEqDiff, Nat.reduceMul, Nat.reduceLT, Nat.reduceLeDiff, Int.reduceNeg, BEq.rfl, beq_self_eq_true, tabl, cellsOf, fldA, ldA, stA, entAt, partA, takeN, over, leafOk, Value.oneCell', idxA, nilA, cellsEq, fillA, elemsA, pure1, pure2, reps, chkA, tys, Tryd.results28, KX_draw, KX_drawQ, KX_tail, lastO_one, lastO_more, dropL_one, dropL_more, callP_eq, callM_true, ext_mv1, hA, hT1, hT2, g1]
    rw [ByteArray.size_append, q3]
    exact ⟨by omega, by omega⟩
end
end Go.Proofs.YtgadegdhfjnoaaaDoor
/-
  Fractions in lowest terms, plainly; what the functions compute of right fractions.
-/

namespace Go.Proofs.YtgadegdhfjnoaaaDoor
open Go
theorem zA_inj {x y : Int} (h1 : decide (x < 0) = decide (y < 0)) (h2 : dig x.natAbs = dig y.natAbs) : x = y := by
  have := congrArg val h2
  rw [val_dig, val_dig] at this
  rw [decide_eq_decide] at h1
  omega
theorem sameZ (x y : Int) : decide (decide (x < 0) = decide (y < 0) ∧ dig x.natAbs = dig y.natAbs) = decide (x = y) := by
  rw [decide_eq_decide]
  exact ⟨fun ⟨h1, h2⟩ => zA_inj h1 h2, fun h => by subst h; exact ⟨rfl, rfl⟩⟩
theorem gcd_tdiv {n d : Int} (hd : d ≠ 0) : (lowN n d).natAbs.gcd (lowD n d).natAbs = 1 := by
  rw [low_abs, show (lowD n d).natAbs = d.natAbs / n.natAbs.gcd d.natAbs from rfl]
  have hg : 0 < n.natAbs.gcd d.natAbs := Nat.gcd_pos_of_pos_right _ (by omega)
  rw [Nat.gcd_div (Nat.gcd_dvd_left _ _) (Nat.gcd_dvd_right _ _)]
  exact Nat.div_self hg
theorem lowD_pos {n d : Int} (hd : d ≠ 0) : 0 < lowD n d := by
  have hg : 0 < n.natAbs.gcd d.natAbs := Nat.gcd_pos_of_pos_right _ (by omega)
  have h2 : n.natAbs.gcd d.natAbs ≤ d.natAbs := Nat.gcd_le_right _ (by omega)
  have := Nat.div_pos h2 hg
  unfold lowD; omega
theorem low_cross {n d : Int} (hd : d ≠ 0) : lowN n d * d = n * lowD n d := by
  have hg : 0 < n.natAbs.gcd d.natAbs := Nat.gcd_pos_of_pos_right _ (by omega)
  obtain ⟨g, hgd⟩ : ∃ g : Nat, g = n.natAbs.gcd d.natAbs := ⟨_, rfl⟩
  have h1 : (g : Int) ∣ n := by rw [hgd]; exact Int.ofNat_dvd_left.2 (Nat.gcd_dvd_left _ _)
  have h2 : (g : Int) ∣ d := by rw [hgd]; exact Int.ofNat_dvd_left.2 (Nat.gcd_dvd_right _ _)
  obtain ⟨a, ha⟩ := h1
  obtain ⟨b, hb⟩ := h2
  have hg0 : (g : Int) ≠ 0 := by omega
  have hN : lowN n d = if d < 0 then -a else a := by
    unfold lowN
    rw [← hgd]
    split
    · rw [ha, Int.neg_tdiv, Int.mul_tdiv_cancel_left _ hg0]
    · rw [ha, Int.mul_tdiv_cancel_left _ hg0]
  have hD : lowD n d = if d < 0 then -b else b := by
    unfold lowD
    rw [← hgd]
    have : d.natAbs = g * b.natAbs := by rw [hb, Int.natAbs_mul]; simp
    rw [this, Nat.mul_div_cancel_left _ (by omega)]
    have hs : d < 0 ↔ b < 0 := by
      rw [hb]
      constructor
      · intro h
        rcases Int.lt_or_le b 0 with h' | h'
        · exact h'
        · have := Int.mul_nonneg (show (0 : Int) ≤ g by omega) h'; omega
      · intro h
        exact Int.mul_neg_of_pos_of_neg (by omega) h
    split <;> omega
  rw [hN, hD]
  generalize (g : Int) = G at *
  subst ha hb
  split
  · rw [Int.neg_mul, Int.mul_neg, ← Int.mul_assoc, Int.mul_comm a G]
  · rw [← Int.mul_assoc, Int.mul_comm a G]
/-- the parts in lowest terms are told by the value -/
theorem lowest_unique {a b c d : Int} (hb : 0 < b) (hd : 0 < d) (h1 : a.natAbs.gcd b.natAbs = 1) (h2 : c.natAbs.gcd d.natAbs = 1) (h : a * d = c * b) : a = c ∧ b = d := by
  have e := congrArg Int.natAbs h
  rw [Int.natAbs_mul, Int.natAbs_mul] at e
  have k1 : d.natAbs ∣ b.natAbs := (Nat.Coprime.dvd_of_dvd_mul_left (Nat.Coprime.symm h2) ⟨a.natAbs, by rw [← e, Nat.mul_comm]⟩)
  have k2 : b.natAbs ∣ d.natAbs := (Nat.Coprime.dvd_of_dvd_mul_left (Nat.Coprime.symm h1) ⟨c.natAbs, by rw [e, Nat.mul_comm]⟩)
  have hbd : b.natAbs = d.natAbs := Nat.dvd_antisymm k2 k1
  have hbd' : b = d := by omega
  subst hbd'
  exact ⟨Int.eq_of_mul_eq_mul_right (by omega) h, rfl⟩
theorem GoodQ.low {n d : Int} (h : GoodQ n d) : lowN n d = n ∧ lowD n d = d := by
  have hd := h.pos
  exact lowest_unique (lowD_pos (by omega)) hd (gcd_tdiv (by omega)) h.cop (low_cross (by omega))
theorem low_eq {n d n' d' : Int} (hd : d ≠ 0) (hd' : d' ≠ 0) (h : n * d' = n' * d) : lowN n d = lowN n' d' ∧ lowD n d = lowD n' d' := by
  refine lowest_unique (lowD_pos hd) (lowD_pos hd') (gcd_tdiv hd) (gcd_tdiv hd') ?_
  have h1 := low_cross (n := n) hd
  have h2 := low_cross (n := n') hd'
  have h3 : (lowN n d * lowD n' d') * (d * d') = (lowN n' d' * lowD n d) * (d * d') := by
    generalize lowN n d = a at *
    generalize lowD n d = b at *
    generalize lowN n' d' = a' at *
    generalize lowD n' d' = b' at *
    have e1 : (a * b') * (d * d') = (n * d') * (b * b') := by
      have : (a * b') * (d * d') = (a * d) * (b' * d') := by grind
      rw [this, h1]; grind
    have e2 : (a' * b) * (d * d') = (n' * d) * (b * b') := by
      have : (a' * b) * (d * d') = (a' * d') * (b * d) := by grind
      rw [this, h2]; grind
    rw [e1, e2, h]
  exact Int.eq_of_mul_eq_mul_right (Int.mul_ne_zero hd hd') h3
theorem fits_eq {n d n' d' : Int} (hd : d ≠ 0) (hd' : d' ≠ 0) (h : n * d' = n' * d) : fitsQ n d = fitsQ n' d' ∧ resN n d = resN n' d' ∧ resD n d = resD n' d' := by
  obtain ⟨h1, h2⟩ := low_eq hd hd' h
  have hf : fitsQ n d = fitsQ n' d' := by
    unfold fitsQ
    rw [h1, h2]
    simp [hd, hd']
  exact ⟨hf, by unfold resN; rw [hf, h1], by unfold resD; rw [hf, h2]⟩
theorem fits_ne {n d : Int} (h : fitsQ n d = true) : d ≠ 0 := by
  unfold fitsQ at h
  simp at h
  exact h.1.1
theorem res_good {n d : Int} (h : fitsQ n d = true) : GoodQ (resN n d) (resD n d) := by
  have hd := fits_ne h
  unfold resN resD
  rw [h]
  simp only [if_true]
  refine ⟨lowD_pos hd, gcd_tdiv hd, ?_, ?_⟩
  · unfold fitsQ okZ at h; simp at h; exact h.1.2
  · unfold fitsQ okZ at h; simp at h; exact h.2
theorem res_cross {n d : Int} (h : fitsQ n d = true) : resN n d * d = n * resD n d := by
  have hd := fits_ne h
  unfold resN resD
  rw [h]
  exact low_cross hd
theorem GoodQ.fits {n d : Int} (h : GoodQ n d) : fitsQ n d = true ∧ resN n d = n ∧ resD n d = d := by
  obtain ⟨h1, h2⟩ := h.low
  have hf : fitsQ n d = true := by
    unfold fitsQ okZ
    rw [h1, h2]
    have := h.pos
    simp only [Bool.and_eq_true, Bool.not_eq_true', decide_eq_false_iff_not, decide_eq_true_eq]
    have h8 := h.ln
    have h9 := h.ld
    exact ⟨⟨by omega, by omega⟩, by omega⟩
  exact ⟨hf, by unfold resN; rw [hf, h1]; rfl, by unfold resD; rw [hf, h2]; rfl⟩
/-- a result that is worth a fraction that fits is this fraction -/
theorem res_is {n d a b : Int} (hd : d ≠ 0) (g : GoodQ a b) (h : n * b = a * d) : fitsQ n d = true ∧ resN n d = a ∧ resD n d = b := by
  obtain ⟨h1, h2, h3⟩ := fits_eq hd (by have := g.pos; omega) h
  obtain ⟨k1, k2, k3⟩ := g.fits
  exact ⟨h1.trans k1, h2.trans k2, h3.trans k3⟩
theorem res_none {n d : Int} (h : fitsQ n d = false) : resN n d = 0 ∧ resD n d = 0 := by
  unfold resN resD; rw [h]; exact ⟨rfl, rfl⟩
theorem res_len (n d : Int) : (dig (resN n d).natAbs).length ≤ 200 ∧ (dig (resD n d).natAbs).length ≤ 200 := by
  cases h : fitsQ n d with
  | true => have g := res_good h; exact ⟨g.ln, g.ld⟩
  | false =>
    obtain ⟨h1, h2⟩ := res_none h
    rw [h1, h2]; exact ⟨by decide +kernel, by decide +kernel⟩
theorem res_eval {n d n' d' : Int} {b : Bool} (h1 : fitsQ n d = b) (h2 : resN n d = n') (h3 : resD n d = d') : resQ n d = .tup [qA n' d', .bool b] := by
  unfold resQ; rw [h1, h2, h3]
/-- the fraction that is meant -/
def gN (n d : Int) : Int := nQ (decide (n < 0)) (dig n.natAbs) (decide (d < 0)) (dig d.natAbs)
def gD (n d : Int) : Int := dQ (decide (n < 0)) (dig n.natAbs) (decide (d < 0)) (dig d.natAbs)
theorem gGood (n d : Int) : GoodQ (gN n d) (gD n d) := good_of _ _ _ _
theorem GoodQ.gN {n d : Int} (h : GoodQ n d) : gN n d = n := h.nQ
theorem GoodQ.gD {n d : Int} (h : GoodQ n d) : gD n d = d := h.dQ
section
variable (S : List Ent) (tk : List Nat) (k : Nat)
theorem Of_z (n d : Int) (hn : (dig n.natAbs).length ≤ 200) (hd : (dig d.natAbs).length ≤ 200) : cL Tryd.prog 12 [zA n, zA d] S tk k = some (resQ n d, S, tk, k) := by
  have h := rat_Of S tk k (decide (n < 0)) (dig n.natAbs) (decide (d < 0)) (dig d.natAbs) (by omega) (by omega)
  unfold ofQ at h
  rw [V_of _ hn, V_of _ hd] at h
  by_cases h0 : validF (decide (n < 0)) (dig n.natAbs) = true
  · rw [if_pos h0] at h; exact h
  · exact absurd (valid_of n hn) h0
theorem Same_q (a b c d : Int) (ha : (dig a.natAbs).length ≤ 1000) (hb : (dig b.natAbs).length ≤ 1000) : cL Tryd.prog 14 [qA a b, qA c d] S tk k = some (.bool (decide (a = c) && decide (b = d)), S, tk, k) := by
  have h := R03_Same S tk k (decide (a < 0)) (dig a.natAbs) (decide (b < 0)) (dig b.natAbs) (decide (c < 0)) (dig c.natAbs) (decide (d < 0)) (dig d.natAbs) (by omega) (by omega)
  rw [sameZ, sameZ] at h
  exact h
theorem SameBig_z (a c : Int) (ha : (dig a.natAbs).length ≤ 1000) : cL Tryd.prog 22 [zA a, zA c] S tk k = some (.bool (decide (a = c)), S, tk, k) := by
  have h := R03_SameBig S tk k (decide (a < 0)) (decide (c < 0)) (dig a.natAbs) (dig c.natAbs) (by omega)
  rw [sameZ] at h
  exact h
theorem Add_q (a b c d : Int) (ha : (dig a.natAbs).length ≤ 1000) (hb : (dig b.natAbs).length ≤ 1000) (hc : (dig c.natAbs).length ≤ 1000) (hd : (dig d.natAbs).length ≤ 1000) :
    cL Tryd.prog 29 [qA a b, qA c d] S tk k = some (resQ (gN a b * gD c d + gN c d * gD a b) (gD a b * gD c d), S, tk, k) :=
  rat_Add1 S tk k _ _ _ _ _ _ _ _ (by omega) (by omega) (by omega) (by omega)
theorem Sub_q (a b c d : Int) (ha : (dig a.natAbs).length ≤ 1000) (hb : (dig b.natAbs).length ≤ 1000) (hc : (dig c.natAbs).length ≤ 1000) (hd : (dig d.natAbs).length ≤ 1000) :
    cL Tryd.prog 31 [qA a b, qA c d] S tk k = some (resQ (gN a b * gD c d + -gN c d * gD a b) (gD a b * gD c d), S, tk, k) :=
  rat_Sub1 S tk k _ _ _ _ _ _ _ _ (by omega) (by omega) (by omega) (by omega)
theorem Mul_q (a b c d : Int) (ha : (dig a.natAbs).length ≤ 1000) (hb : (dig b.natAbs).length ≤ 1000) (hc : (dig c.natAbs).length ≤ 1000) (hd : (dig d.natAbs).length ≤ 1000) :
    cL Tryd.prog 33 [qA a b, qA c d] S tk k = some (resQ (gN a b * gN c d) (gD a b * gD c d), S, tk, k) :=
  rat_Mul S tk k _ _ _ _ _ _ _ _ (by omega) (by omega) (by omega) (by omega)
theorem Div_q (a b c d : Int) (ha : (dig a.natAbs).length ≤ 1000) (hb : (dig b.natAbs).length ≤ 1000) (hc : (dig c.natAbs).length ≤ 1000) (hd : (dig d.natAbs).length ≤ 1000) :
    cL Tryd.prog 35 [qA a b, qA c d] S tk k = some (resQ (gN a b * gD c d) (gD a b * gN c d), S, tk, k) :=
  rat_Div S tk k _ _ _ _ _ _ _ _ (by omega) (by omega) (by omega) (by omega)
theorem Cmp_q (a b c d : Int) (ha : (dig a.natAbs).length ≤ 1000) (hb : (dig b.natAbs).length ≤ 1000) (hc : (dig c.natAbs).length ≤ 1000) (hd : (dig d.natAbs).length ≤ 1000) :
    cL Tryd.prog 20 [qA a b, qA c d] S tk k = some (.int (cmpZ (gN a b * gD c d) (gN c d * gD a b)), S, tk, k) :=
  rat_Cmp S tk k _ _ _ _ _ _ _ _ (by omega) (by omega) (by omega) (by omega)
theorem Text_q (a b : Int) (ha : (dig a.natAbs).length ≤ 1000) (hb : (dig b.natAbs).length ≤ 1000) : cL Tryd.prog 27 [qA a b] S tk k = some (.str (textQ (gN a b) (gD a b)), S, tk, k) :=
  rat_Text S tk k _ _ _ _ (by omega) (by omega)
theorem Floor_q (a b : Int) (ha : (dig a.natAbs).length ≤ 1000) (hb : (dig b.natAbs).length ≤ 1000) : cL Tryd.prog 23 [qA a b] S tk k = some (zA (gN a b / gD a b), S, tk, k) :=
  rat_Floor S tk k _ _ _ _ (by omega) (by omega)
theorem Ceil_q (a b : Int) (ha : (dig a.natAbs).length ≤ 1000) (hb : (dig b.natAbs).length ≤ 1000) : cL Tryd.prog 25 [qA a b] S tk k = some (zA (-(-gN a b / gD a b)), S, tk, k) :=
  rat_Ceil S tk k _ _ _ _ (by omega) (by omega)
theorem Valid_q (a b : Int) (ha : (dig a.natAbs).length ≤ 1000) (hb : (dig b.natAbs).length ≤ 1000) : cL Tryd.prog 15 [qA a b] S tk k = some (.bool (validQ (decide (a < 0)) (dig a.natAbs) (decide (b < 0)) (dig b.natAbs)), S, tk, k) :=
  rat_Valid S tk k _ _ _ _ (by omega) (by omega)
end
end Go.Proofs.YtgadegdhfjnoaaaDoor
/-
  The examples of the chapter.
-/

namespace Go.Proofs.YtgadegdhfjnoaaaDoor
open Go
theorem i64_s {n : Int} (h : -100 ≤ n ∧ n ≤ 100) : i64 n := by unfold i64; omega
theorem l1 {n : Nat} (h : n ≤ 100) : (dig n).length ≤ 1 := dig_len.2 (Nat.lt_of_le_of_lt h (by decide))
theorem l1000 {n : Nat} (h : n ≤ 100) : (dig n).length ≤ 1000 := Nat.le_trans (l1 h) (by decide)
theorem l200 {n : Nat} (h : n ≤ 100) : (dig n).length ≤ 200 := Nat.le_trans (l1 h) (by decide)
section
variable (S : List Ent) (tk : List Nat) (k : Nat)
set_option maxRecDepth 100000 in
set_option maxHeartbeats 4000000 in
theorem L03_awake : cL Tryd.prog 11 [] S tk k = some (.bool true, S, tk, k) := by
  have hO6 := fun S tk k => big_Of S tk k 6 (i64_s (by omega))
  have hOm4 := fun S tk k => big_Of S tk k (-4) (i64_s (by omega))
  have hO0 := fun S tk k => big_Of S tk k 0 (i64_s (by omega))
  have hOm7 := fun S tk k => big_Of S tk k (-7) (i64_s (by omega))
  have hO1 := fun S tk k => big_Of S tk k 1 (i64_s (by omega))
  have hOm2 := fun S tk k => big_Of S tk k (-2) (i64_s (by omega))
  have hOm1 := fun S tk k => big_Of S tk k (-1) (i64_s (by omega))
  have hF16 := fun S tk k => L03_frac S tk k 1 6 (i64_s (by omega)) (i64_s (by omega))
  have hF13 := fun S tk k => L03_frac S tk k 1 3 (i64_s (by omega)) (i64_s (by omega))
  have hF12 := fun S tk k => L03_frac S tk k 1 2 (i64_s (by omega)) (i64_s (by omega))
  have hFm14 := fun S tk k => L03_frac S tk k (-1) 4 (i64_s (by omega)) (i64_s (by omega))
  have hF24 := fun S tk k => L03_frac S tk k 2 4 (i64_s (by omega)) (i64_s (by omega))
  have hF11 := fun S tk k => L03_frac S tk k 1 1 (i64_s (by omega)) (i64_s (by omega))
  have hF01 := fun S tk k => L03_frac S tk k 0 1 (i64_s (by omega)) (i64_s (by omega))
  have hFm32 := fun S tk k => L03_frac S tk k (-3) 2 (i64_s (by omega)) (i64_s (by omega))
  have hFm12 := fun S tk k => L03_frac S tk k (-1) 2 (i64_s (by omega)) (i64_s (by omega))
  have hFm71 := fun S tk k => L03_frac S tk k (-7) 1 (i64_s (by omega)) (i64_s (by omega))
  have hR1 := fun S tk k => Of_z S tk k 6 (-4) (l200 (by decide)) (l200 (by decide))
  rw [res_eval (n := 6) (d := -4) (n' := -3) (d' := 2) (b := true) (by decide +kernel) (by decide +kernel) (by decide +kernel)] at hR1
  have hR2 := fun S tk k => Of_z S tk k 0 (-7) (l200 (by decide)) (l200 (by decide))
  rw [res_eval (n := 0) (d := -7) (n' := 0) (d' := 1) (b := true) (by decide +kernel) (by decide +kernel) (by decide +kernel)] at hR2
  have hR3 := fun S tk k => Of_z S tk k 1 0 (l200 (by decide)) (l200 (by decide))
  rw [res_eval (n := 1) (d := 0) (n' := 0) (d' := 0) (b := false) (by decide +kernel) (by decide +kernel) (by decide +kernel)] at hR3
  have hR4 := fun S tk k => Add_q S tk k 1 6 1 3 (l1000 (by decide)) (l1000 (by decide)) (l1000 (by decide)) (l1000 (by decide))
  rw [res_eval (n' := 1) (d' := 2) (b := true) (by decide +kernel) (by decide +kernel) (by decide +kernel)] at hR4
  have hR5 := fun S tk k => Div_q S tk k 1 2 (-1) 4 (l1000 (by decide)) (l1000 (by decide)) (l1000 (by decide)) (l1000 (by decide))
  rw [res_eval (n' := -2) (d' := 1) (b := true) (by decide +kernel) (by decide +kernel) (by decide +kernel)] at hR5
  have hR6 := fun S tk k => Add_q S tk k 2 4 1 1 (l1000 (by decide)) (l1000 (by decide)) (l1000 (by decide)) (l1000 (by decide))
  rw [res_eval (n' := 1) (d' := 1) (b := true) (by decide +kernel) (by decide +kernel) (by decide +kernel)] at hR6
  have hR7 := fun S tk k => Div_q S tk k 1 2 0 1 (l1000 (by decide)) (l1000 (by decide)) (l1000 (by decide)) (l1000 (by decide))
  rw [res_eval (n' := 0) (d' := 0) (b := false) (by decide +kernel) (by decide +kernel) (by decide +kernel)] at hR7
  have hS1 := fun S tk k => Same_q S tk k (-3) 2 (-3) 2 (l1000 (by decide)) (l1000 (by decide))
  have hS2 := fun S tk k => Same_q S tk k 0 1 0 1 (l1000 (by decide)) (l1000 (by decide))
  have hS3 := fun S tk k => Same_q S tk k 1 2 1 2 (l1000 (by decide)) (l1000 (by decide))
  have hS4 := fun S tk k => Same_q S tk k 1 1 1 1 (l1000 (by decide)) (l1000 (by decide))
  have hS5 := fun S tk k => Same_q S tk k (-7) 1 (-7) 1 (l1000 (by decide)) (l1000 (by decide))
  have hT1 := fun S tk k => Text_q S tk k (-2) 1 (l1000 (by decide)) (l1000 (by decide))
  have hT2 := fun S tk k => Text_q S tk k (-3) 2 (l1000 (by decide)) (l1000 (by decide))
  have hQ1 : sEq (textQ (gN (-2) 1) (gD (-2) 1)) ⟨#[45, 50]⟩ = true := by decide +kernel
  have hQ2 : sEq (textQ (gN (-3) 2) (gD (-3) 2)) ⟨#[45, 51, 47, 50]⟩ = true := by decide +kernel
  have hFl := fun S tk k => Floor_q S tk k (-3) 2 (l1000 (by decide)) (l1000 (by decide))
  rw [show gN (-3) 2 / gD (-3) 2 = -2 by decide +kernel] at hFl
  have hCl := fun S tk k => Ceil_q S tk k (-3) 2 (l1000 (by decide)) (l1000 (by decide))
  rw [show -(-gN (-3) 2 / gD (-3) 2) = -1 by decide +kernel] at hCl
  have hB1 := fun S tk k => SameBig_z S tk k (-2) (-2) (l1000 (by decide))
  have hB2 := fun S tk k => SameBig_z S tk k (-1) (-1) (l1000 (by decide))
  have hCm := fun S tk k => Cmp_q S tk k (-1) 2 1 3 (l1000 (by decide)) (l1000 (by decide)) (l1000 (by decide)) (l1000 (by decide))
  rw [show cmpZ (gN (-1) 2 * gD 1 3) (gN 1 3 * gD (-1) 2) = -1 by decide +kernel] at hCm
  have hV1 := fun S tk k => Valid_q S tk k (-3) 2 (l1000 (by decide)) (l1000 (by decide))
  rw [show validQ (decide ((-3 : Int) < 0)) (dig (Int.natAbs (-3))) (decide ((2 : Int) < 0)) (dig (Int.natAbs 2)) = true by decide +kernel] at hV1
  have hV2 := fun S tk k => Valid_q S tk k 2 4 (l1000 (by decide)) (l1000 (by decide))
  rw [show validQ (decide ((2 : Int) < 0)) (dig (Int.natAbs 2)) (decide ((4 : Int) < 0)) (dig (Int.natAbs 4)) = false by decide +kernel] at hV2
  have hI := fun S tk k => rat_Int S tk k (-7) (i64_s (by omega))
  have iq : ((-1 : Int) == -1) = true := rfl
  generalize textQ (gN (-2) 1) (gD (-2) 1) = s1 at *
  generalize textQ (gN (-3) 2) (gD (-3) 2) = s2 at *
  simp only [decide_true, Bool.and_self] at hS1 hS2 hS3 hS4 hS5 hB1 hB2
  simp only [zA, bigA, qA, ratA, digA] at *
  generalize (List.map digC (dig (Int.natAbs 6))) = l6 at *
  generalize (List.map digC (dig (Int.natAbs (-4)))) = lm4 at *
  generalize (List.map digC (dig (Int.natAbs 4))) = l4 at *
  generalize (List.map digC (dig (Int.natAbs 0))) = l0 at *
  generalize (List.map digC (dig (Int.natAbs (-7)))) = lm7 at *
  generalize (List.map digC (dig (Int.natAbs 1))) = l1 at *
  generalize (List.map digC (dig (Int.natAbs (-2)))) = lm2 at *
  generalize (List.map digC (dig (Int.natAbs 2))) = l2 at *
  generalize (List.map digC (dig (Int.natAbs (-1)))) = lm1 at *
  generalize (List.map digC (dig (Int.natAbs 3))) = l3 at *
  generalize (List.map digC (dig (Int.natAbs (-3)))) = lm3 at *
  generalize decide ((6 : Int) < 0) = b6 at *
  generalize decide ((-4 : Int) < 0) = bm4 at *
  generalize decide ((4 : Int) < 0) = b4 at *
  generalize decide ((0 : Int) < 0) = b0 at *
  generalize decide ((-7 : Int) < 0) = bm7 at *
  generalize decide ((1 : Int) < 0) = b1 at *
  generalize decide ((-2 : Int) < 0) = bm2 at *
  generalize decide ((2 : Int) < 0) = b2 at *
  generalize decide ((-1 : Int) < 0) = bm1 at *
  generalize decide ((3 : Int) < 0) = b3 at *
  generalize decide ((-3 : Int) < 0) = bm3 at *
  refine call_pure Tryd.func11 rfl rfl (by decide +kernel) (by decide +kernel) Tryd.ntmps11 rfl rfl _ _ _ rfl ?_; rw [RK_KX]
  simp (maxSteps := 1000000) +contextual (disch := first | with_reducible assumption | exact ⟨rfl⟩ | exact ⟨rfl, rfl⟩ | (refine _root_.id ?_; kernel_rfl) | omega) only [evs, ext_mv, nth, put, putT, getT, binInt, binStr, binBool, aUn, outA, resA, mapO, resA1, oneOf, w1, w2, w3, bots, cond_true, cond_false, if_true, if_false, ite_true, ite_false, reduceIte, reduceCtorEq, implies_true, Nat.reduceAdd, Nat.reduceSub, AV.int, AV.bool, AV.str, Nat.reduceBEq, Nat.reduceEqDiff, Nat.reduceMul, Nat.reduceLT, Nat.reduceLeDiff, Int.reduceNeg, BEq.rfl, beq_self_eq_true, tabl, cellsOf, fldA, ldA, stA, entAt, partA, takeN, over, leafOk, Value.oneCell', idxA, nilA, cellsEq, fillA, elemsA, pure1, pure2, reps, chkA, tys, Tryd.results11, KX_draw, KX_drawQ, KX_tail, lastO_one, lastO_more, dropL_one, dropL_more, callP_eq, callM_true, ext_mv1, iq, hO6, hOm4, hO0, hOm7, hO1, hOm2, hOm1, hF16, hF13, hF12, hFm14, hF24, hF11, hF01, hFm32, hFm12, hFm71, hR1, hR2, hR3, hR4, hR5, hR6, hR7, hS1, hS2, hS3, hS4, hS5, hT1, hT2, hQ1, hQ2, hFl, hCl, hB1, hB2, hCm, hV1, hV2, hI, Bool.not_true, Bool.not_false]
end
end Go.Proofs.YtgadegdhfjnoaaaDoor
/-
  The laws RatMakes, RatAdds, RatMuls and RatCompares, walked.
-/

namespace Go.Proofs.YtgadegdhfjnoaaaDoor
open Go
theorem fewF_two {p q : Bool} {l r : List Int} (h : fewF [(p, l), (q, r)] = true) : l.length ≤ 210 ∧ r.length ≤ 210 := by
  unfold fewF at h
  simp only [List.all_cons, List.all_nil, Bool.and_true, Bool.and_eq_true, decide_eq_true_eq] at h
  exact h
theorem sEq_self (s : ByteArray) : sEq s s = true := by simp [sEq]
theorem lightR_of {x : RQ} (h : lightR x = true) : x.l.length ≤ 210 ∧ x.r.length ≤ 210 := fewF_two h
theorem light_two {x y : RQ} (h : lightF [x, y] = true) : (x.l.length ≤ 210 ∧ x.r.length ≤ 210) ∧ y.l.length ≤ 210 ∧ y.r.length ≤ 210 := by
  unfold lightF at h
  simp only [List.all_cons, List.all_nil, Bool.and_true, Bool.and_eq_true] at h
  exact ⟨lightR_of h.1, lightR_of h.2⟩
theorem light_three {x y z : RQ} (h : lightF [x, y, z] = true) : (x.l.length ≤ 210 ∧ x.r.length ≤ 210) ∧ (y.l.length ≤ 210 ∧ y.r.length ≤ 210) ∧ z.l.length ≤ 210 ∧ z.r.length ≤ 210 := by
  unfold lightF at h
  simp only [List.all_cons, List.all_nil, Bool.and_true, Bool.and_eq_true] at h
  exact ⟨lightR_of h.1, lightR_of h.2.1, lightR_of h.2.2⟩
section
variable (S : List Ent) (tk : List Nat) (k : Nat)
theorem Same_self (a b : Int) (ha : (dig a.natAbs).length ≤ 200) (hb : (dig b.natAbs).length ≤ 200) : cL Tryd.prog 14 [qA a b, qA a b] S tk k = some (.bool true, S, tk, k) := by
  have h := Same_q S tk k a b a b (by omega) (by omega)
  simpa using h
theorem SameBig_self (a : Int) (ha : (dig a.natAbs).length ≤ 1000) : cL Tryd.prog 22 [zA a, zA a] S tk k = some (.bool true, S, tk, k) := by
  have h := SameBig_z S tk k a a ha
  simpa using h
theorem Valid_good {a b : Int} (g : GoodQ a b) : cL Tryd.prog 15 [qA a b] S tk k = some (.bool true, S, tk, k) := by
  have h := Valid_q S tk k a b (by have := g.ln; omega) (by have := g.ld; omega)
  rw [g.valid] at h
  exact h
set_option maxRecDepth 100000 in
set_option maxHeartbeats 1000000 in
theorem L03_RatMakes (p : Bool) (l : List Int) (q : Bool) (r : List Int) (m : Int) (hm : i64 m) : cL Tryd.prog 3 [bigA p l, bigA q r, .int m] S tk k = some (.bool true, S, tk, k) := by
  have hF := fun S tk k => L03_few S tk k [(p, l), (q, r)] .tight (by simp)
  have hAw := fun S tk k => L03_awake S tk k
  simp only [List.map_cons, List.map_nil, bigC] at hF
  refine call_pure Tryd.func3 rfl rfl (by decide +kernel) (by decide +kernel) Tryd.ntmps3 rfl rfl _ _ _ (rfl) ?_; rw [RK_KX]
  cases hf : fewF [(p, l), (q, r)] with
  | false =>
    rw [hf] at hF
    simp (maxSteps := 1000000) +contextual (disch := first | with_reducible assumption | exact ⟨rfl⟩ | exact ⟨rfl, rfl⟩ | (refine _root_.id ?_; kernel_rfl) | omega) only [evs, ext_mv, nth, put, putT, getT, binInt, binStr, binBool, aUn, outA, resA, mapO, resA1, oneOf, w1, w2, w3, bots, cond_true, cond_false, if_true, if_false, ite_true, ite_false, reduceIte, reduceCtorEq, implies_true, Nat.reduceAdd, Nat.reduceSub, AV.int, AV.bool, AV.str, Nat.reduceBEq, Nat.reduceEqDiff, Nat.reduceMul, Nat.reduceLT, Nat.reduceLeDiff, Int.reduceNeg, BEq.rfl, beq_self_eq_true, tabl, cellsOf, fldA, ldA, stA, entAt, partA, takeN, over, leafOk, Value.oneCell', idxA, nilA, cellsEq, fillA, elemsA, pure1, pure2, reps, chkA, tys, Tryd.results3, KX_draw, KX_drawQ, KX_tail, lastO_one, lastO_more, dropL_one, dropL_more, callP_eq, callM_true, ext_mv1, bigA, digA, hF, hAw]
  | true =>
  rw [hf] at hF
  obtain ⟨hl, hr⟩ := fewF_two hf
  have hO := fun S tk k => rat_Of S tk k p l q r (by omega) (by omega)
  have hRO := fun S tk k => R03_Of S tk k p l q r (by omega) (by omega)
  unfold ofQ at hO hRO
  generalize (if validF p l = true then V q r else 0) = d at *
  generalize V p l = n at *
  have hV := fun S tk k => rat_Valid S tk k p l q r (by omega) (by omega)
  have hRV := fun S tk k => R03_Valid S tk k p l q r (by omega) (by omega)
  generalize validQ p l q r = v at *
  have hI := fun S tk k => rat_Int S tk k m hm
  have hRI := fun S tk k => R03_Int S tk k m hm
  have hml : (dig m.natAbs).length ≤ 200 := Nat.le_trans ((dig_len (n := m.natAbs) (k := 5)).2 (by unfold i64 at hm; omega)) (by decide)
  have hS1 := fun S tk k => Same_self S tk k m 1 hml (l200 (by decide))
  obtain ⟨rl1, rl2⟩ := res_len n d
  have hS2 := fun S tk k => Same_self S tk k (resN n d) (resD n d) rl1 rl2
  cases hfit : fitsQ n d with
  | true =>
    have hG := fun S tk k => Valid_good S tk k (res_good hfit)
    unfold resQ at hO hRO
    rw [hfit] at hO hRO
    simp only [bigA, qA, ratA, digA] at *
    simp (maxSteps := 1000000) +contextual (disch := first | with_reducible assumption | exact ⟨rfl⟩ | exact ⟨rfl, rfl⟩ | (refine _root_.id ?_; kernel_rfl) | omega) only [evs, ext_mv, nth, put, putT, getT, binInt, binStr, binBool, aUn, outA, resA, mapO, resA1, oneOf, w1, w2, w3, bots, cond_true, cond_false, if_true, if_false, ite_true, ite_false, reduceIte, reduceCtorEq, implies_true, Nat.reduceAdd, Nat.reduceSub, AV.int, AV.bool, AV.str, Nat.reduceBEq, Nat.reduceEqDiff, Nat.reduceMul, Nat.reduceLT, Nat.reduceLeDiff, Int.reduceNeg, BEq.rfl, beq_self_eq_true, tabl, cellsOf, fldA, ldA, stA, entAt, partA, takeN, over, leafOk, Value.oneCell', idxA, nilA, cellsEq, fillA, elemsA, pure1, pure2, reps, chkA, tys, Tryd.results3, KX_draw, KX_drawQ, KX_tail, lastO_one, lastO_more, dropL_one, dropL_more, callP_eq, callM_true, ext_mv1, hF, hAw, hO, hRO, hV, hRV, hI, hRI, hS1, hS2, hG]
  | false =>
    unfold resQ at hO hRO
    rw [hfit] at hO hRO
    simp only [bigA, qA, ratA, digA] at *
    simp (maxSteps := 1000000) +contextual (disch := first | with_reducible assumption | exact ⟨rfl⟩ | exact ⟨rfl, rfl⟩ | (refine _root_.id ?_; kernel_rfl) | omega) only [evs, ext_mv, nth, put, putT, getT, binInt, binStr, binBool, aUn, outA, resA, mapO, resA1, oneOf, w1, w2, w3, bots, cond_true, cond_false, if_true, if_false, ite_true, ite_false, reduceIte, reduceCtorEq, implies_true, Nat.reduceAdd, Nat.reduceSub, AV.int, AV.bool, AV.str, Nat.reduceBEq, Nat.reduceEqDiff, Nat.reduceMul, Nat.reduceLT, Nat.reduceLeDiff, Int.reduceNeg, BEq.rfl, beq_self_eq_true, tabl, cellsOf, fldA, ldA, stA, entAt, partA, takeN, over, leafOk, Value.oneCell', idxA, nilA, cellsEq, fillA, elemsA, pure1, pure2, reps, chkA, tys, Tryd.results3, KX_draw, KX_drawQ, KX_tail, lastO_one, lastO_more, dropL_one, dropL_more, callP_eq, callM_true, ext_mv1, hF, hAw, hO, hRO, hV, hRV, hI, hRI, hS1, hS2]
set_option maxRecDepth 100000 in
set_option maxHeartbeats 1000000 in
theorem L03_RatAdds (x y : RQ) : cL Tryd.prog 6 [ratA x.p x.l x.q x.r, ratA y.p y.l y.q y.r] S tk k = some (.bool true, S, tk, k) := by
  have hF := fun S tk k => L03_light S tk k [x, y] .tight (by simp)
  have hAw := fun S tk k => L03_awake S tk k
  simp only [List.map_cons, List.map_nil, ratC] at hF
  refine call_pure Tryd.func6 rfl rfl (by decide +kernel) (by decide +kernel) Tryd.ntmps6 rfl rfl _ _ _ (rfl) ?_; rw [RK_KX]
  cases hf : lightF [x, y] with
  | false =>
    rw [hf] at hF
    simp (maxSteps := 1000000) +contextual (disch := first | with_reducible assumption | exact ⟨rfl⟩ | exact ⟨rfl, rfl⟩ | (refine _root_.id ?_; kernel_rfl) | omega) only [evs, ext_mv, nth, put, putT, getT, binInt, binStr, binBool, aUn, outA, resA, mapO, resA1, oneOf, w1, w2, w3, bots, cond_true, cond_false, if_true, if_false, ite_true, ite_false, reduceIte, reduceCtorEq, implies_true, Nat.reduceAdd, Nat.reduceSub, AV.int, AV.bool, AV.str, Nat.reduceBEq, Nat.reduceEqDiff, Nat.reduceMul, Nat.reduceLT, Nat.reduceLeDiff, Int.reduceNeg, BEq.rfl, beq_self_eq_true, tabl, cellsOf, fldA, ldA, stA, entAt, partA, takeN, over, leafOk, Value.oneCell', idxA, nilA, cellsEq, fillA, elemsA, pure1, pure2, reps, chkA, tys, Tryd.results6, KX_draw, KX_drawQ, KX_tail, lastO_one, lastO_more, dropL_one, dropL_more, callP_eq, callM_true, ext_mv1, ratA, digA, hF, hAw]
  | true =>
  rw [hf] at hF
  obtain ⟨⟨a1, a2⟩, a3, a4⟩ := light_two hf
  have hA := fun S tk k => rat_Add1 S tk k x.p x.l x.q x.r y.p y.l y.q y.r (by omega) (by omega) (by omega) (by omega)
  have hRA := fun S tk k => R03_Add S tk k x.p x.l x.q x.r y.p y.l y.q y.r (by omega) (by omega) (by omega) (by omega)
  have hB := fun S tk k => rat_Sub1 S tk k x.p x.l x.q x.r y.p y.l y.q y.r (by omega) (by omega) (by omega) (by omega)
  have hRB := fun S tk k => R03_Sub S tk k x.p x.l x.q x.r y.p y.l y.q y.r (by omega) (by omega) (by omega) (by omega)
  generalize nQ x.p x.l x.q x.r * dQ y.p y.l y.q y.r + nQ y.p y.l y.q y.r * dQ x.p x.l x.q x.r = n at *
  generalize nQ x.p x.l x.q x.r * dQ y.p y.l y.q y.r + -nQ y.p y.l y.q y.r * dQ x.p x.l x.q x.r = m at *
  generalize dQ x.p x.l x.q x.r * dQ y.p y.l y.q y.r = d at *
  obtain ⟨rl1, rl2⟩ := res_len n d
  obtain ⟨rl3, rl4⟩ := res_len m d
  have hS1 := fun S tk k => Same_self S tk k (resN n d) (resD n d) rl1 rl2
  have hS2 := fun S tk k => Same_self S tk k (resN m d) (resD m d) rl3 rl4
  unfold resQ at hA hRA hB hRB
  simp only [qA, ratA, digA] at *
  simp (maxSteps := 1000000) +contextual (disch := first | with_reducible assumption | exact ⟨rfl⟩ | exact ⟨rfl, rfl⟩ | (refine _root_.id ?_; kernel_rfl) | omega) only [evs, ext_mv, nth, put, putT, getT, binInt, binStr, binBool, aUn, outA, resA, mapO, resA1, oneOf, w1, w2, w3, bots, cond_true, cond_false, if_true, if_false, ite_true, ite_false, reduceIte, reduceCtorEq, implies_true, Nat.reduceAdd, Nat.reduceSub, AV.int, AV.bool, AV.str, Nat.reduceBEq, Nat.reduceEqDiff, Nat.reduceMul, Nat.reduceLT, Nat.reduceLeDiff, Int.reduceNeg, BEq.rfl, beq_self_eq_true, tabl, cellsOf, fldA, ldA, stA, entAt, partA, takeN, over, leafOk, Value.oneCell', idxA, nilA, cellsEq, fillA, elemsA, pure1, pure2, reps, chkA, tys, Tryd.results6, KX_draw, KX_drawQ, KX_tail, lastO_one, lastO_more, dropL_one, dropL_more, callP_eq, callM_true, ext_mv1, hF, hAw, hA, hRA, hB, hRB, hS1, hS2]
set_option maxRecDepth 100000 in
set_option maxHeartbeats 1000000 in
theorem L03_RatMuls (x y : RQ) : cL Tryd.prog 7 [ratA x.p x.l x.q x.r, ratA y.p y.l y.q y.r] S tk k = some (.bool true, S, tk, k) := by
  have hF := fun S tk k => L03_light S tk k [x, y] .tight (by simp)
  have hAw := fun S tk k => L03_awake S tk k
  simp only [List.map_cons, List.map_nil, ratC] at hF
  refine call_pure Tryd.func7 rfl rfl (by decide +kernel) (by decide +kernel) Tryd.ntmps7 rfl rfl _ _ _ (rfl) ?_; rw [RK_KX]
  cases hf : lightF [x, y] with
  | false =>
    rw [hf] at hF
    simp (maxSteps := 1000000) +contextual (disch := first | with_reducible assumption | exact ⟨rfl⟩ | exact ⟨rfl, rfl⟩ | (refine _root_.id ?_; kernel_rfl) | omega) only [evs, ext_mv, nth, put, putT, getT, binInt, binStr, binBool, aUn, outA, resA, mapO, resA1, oneOf, w1, w2, w3, bots, cond_true, cond_false, if_true, if_false, ite_true, ite_false, reduceIte, reduceCtorEq, implies_true, Nat.reduceAdd, Nat.reduceSub, AV.int, AV.bool, AV.str, Nat.reduceBEq, Nat.reduceEqDiff, Nat.reduceMul, Nat.reduceLT, Nat.reduceLeDiff, Int.reduceNeg, BEq.rfl, beq_self_eq_true, tabl, cellsOf, fldA, ldA, stA, entAt, partA, takeN, over, leafOk, Value.oneCell', idxA, nilA, cellsEq, fillA, elemsA, pure1, pure2, reps, chkA, tys, Tryd.results7, KX_draw, KX_drawQ, KX_tail, lastO_one, lastO_more, dropL_one, dropL_more, callP_eq, callM_true, ext_mv1, ratA, digA, hF, hAw]
  | true =>
  rw [hf] at hF
  obtain ⟨⟨a1, a2⟩, a3, a4⟩ := light_two hf
  have hA := fun S tk k => rat_Mul S tk k x.p x.l x.q x.r y.p y.l y.q y.r (by omega) (by omega) (by omega) (by omega)
  have hRA := fun S tk k => R03_Mul S tk k x.p x.l x.q x.r y.p y.l y.q y.r (by omega) (by omega) (by omega) (by omega)
  have hB := fun S tk k => rat_Div S tk k x.p x.l x.q x.r y.p y.l y.q y.r (by omega) (by omega) (by omega) (by omega)
  have hRB := fun S tk k => R03_Div S tk k x.p x.l x.q x.r y.p y.l y.q y.r (by omega) (by omega) (by omega) (by omega)
  generalize nQ x.p x.l x.q x.r * nQ y.p y.l y.q y.r = n at *
  generalize nQ x.p x.l x.q x.r * dQ y.p y.l y.q y.r = m at *
  generalize dQ x.p x.l x.q x.r * dQ y.p y.l y.q y.r = d at *
  generalize dQ x.p x.l x.q x.r * nQ y.p y.l y.q y.r = e at *
  obtain ⟨rl1, rl2⟩ := res_len n d
  obtain ⟨rl3, rl4⟩ := res_len m e
  have hS1 := fun S tk k => Same_self S tk k (resN n d) (resD n d) rl1 rl2
  have hS2 := fun S tk k => Same_self S tk k (resN m e) (resD m e) rl3 rl4
  unfold resQ at hA hRA hB hRB
  simp only [qA, ratA, digA] at *
  simp (maxSteps := 1000000) +contextual (disch := first | with_reducible assumption | exact ⟨rfl⟩ | exact ⟨rfl, rfl⟩ | (refine _root_.id ?_; kernel_rfl) | omega) only [evs, ext_mv, nth, put, putT, getT, binInt, binStr, binBool, aUn, outA, resA, mapO, resA1, oneOf, w1, w2, w3, bots, cond_true, cond_false, if_true, if_false, ite_true, ite_false, reduceIte, reduceCtorEq, implies_true, Nat.reduceAdd, Nat.reduceSub, AV.int, AV.bool, AV.str, Nat.reduceBEq, Nat.reduceEqDiff, Nat.reduceMul, Nat.reduceLT, Nat.reduceLeDiff, Int.reduceNeg, BEq.rfl, beq_self_eq_true, tabl, cellsOf, fldA, ldA, stA, entAt, partA, takeN, over, leafOk, Value.oneCell', idxA, nilA, cellsEq, fillA, elemsA, pure1, pure2, reps, chkA, tys, Tryd.results7, KX_draw, KX_drawQ, KX_tail, lastO_one, lastO_more, dropL_one, dropL_more, callP_eq, callM_true, ext_mv1, hF, hAw, hA, hRA, hB, hRB, hS1, hS2]
set_option maxRecDepth 100000 in
set_option maxHeartbeats 1000000 in
theorem L03_RatCompares (x y : RQ) : cL Tryd.prog 4 [ratA x.p x.l x.q x.r, ratA y.p y.l y.q y.r] S tk k = some (.bool true, S, tk, k) := by
  have hF := fun S tk k => L03_light S tk k [x, y] .tight (by simp)
  have hAw := fun S tk k => L03_awake S tk k
  simp only [List.map_cons, List.map_nil, ratC] at hF
  refine call_pure Tryd.func4 rfl rfl (by decide +kernel) (by decide +kernel) Tryd.ntmps4 rfl rfl _ _ _ (rfl) ?_; rw [RK_KX]
  cases hf : lightF [x, y] with
  | false =>
    rw [hf] at hF
    simp (maxSteps := 1000000) +contextual (disch := first | with_reducible assumption | exact ⟨rfl⟩ | exact ⟨rfl, rfl⟩ | (refine _root_.id ?_; kernel_rfl) | omega) only [evs, ext_mv, nth, put, putT, getT, binInt, binStr, binBool, aUn, outA, resA, mapO, resA1, oneOf, w1, w2, w3, bots, cond_true, cond_false, if_true, if_false, ite_true, ite_false, reduceIte, reduceCtorEq, implies_true, Nat.reduceAdd, Nat.reduceSub, AV.int, AV.bool, AV.str, Nat.reduceBEq, Nat.reduceEqDiff, Nat.reduceMul, Nat.reduceLT, Nat.reduceLeDiff, Int.reduceNeg, BEq.rfl, beq_self_eq_true, tabl, cellsOf, fldA, ldA, stA, entAt, partA, takeN, over, leafOk, Value.oneCell', idxA, nilA, cellsEq, fillA, elemsA, pure1, pure2, reps, chkA, tys, Tryd.results4, KX_draw, KX_drawQ, KX_tail, lastO_one, lastO_more, dropL_one, dropL_more, callP_eq, callM_true, ext_mv1, ratA, digA, hF, hAw]
  | true =>
  rw [hf] at hF
  obtain ⟨⟨a1, a2⟩, a3, a4⟩ := light_two hf
  have hA := fun S tk k => rat_Cmp S tk k x.p x.l x.q x.r y.p y.l y.q y.r (by omega) (by omega) (by omega) (by omega)
  have hRA := fun S tk k => R03_Cmp S tk k x.p x.l x.q x.r y.p y.l y.q y.r (by omega) (by omega) (by omega) (by omega)
  generalize cmpZ (nQ x.p x.l x.q x.r * dQ y.p y.l y.q y.r) (nQ y.p y.l y.q y.r * dQ x.p x.l x.q x.r) = c at *
  have hB := fun S tk k => rat_Floor S tk k x.p x.l x.q x.r (by omega) (by omega)
  have hRB := fun S tk k => R03_Floor S tk k x.p x.l x.q x.r (by omega) (by omega)
  have hC := fun S tk k => rat_Ceil S tk k x.p x.l x.q x.r (by omega) (by omega)
  have hRC := fun S tk k => R03_Ceil S tk k x.p x.l x.q x.r (by omega) (by omega)
  have hT := fun S tk k => rat_Text S tk k x.p x.l x.q x.r (by omega) (by omega)
  have hRT := fun S tk k => R03_Text S tk k x.p x.l x.q x.r (by omega) (by omega)
  have g := good_of x.p x.l x.q x.r
  generalize nQ x.p x.l x.q x.r = a at *
  generalize dQ x.p x.l x.q x.r = b at *
  have h1 : (dig (a / b).natAbs).length ≤ 200 := Nat.le_trans (dig_len.2 (Nat.lt_of_le_of_lt (floor_abs g.pos) (dig_len.1 (Nat.le_refl _)))) g.ln
  have h2 : (dig (-(-a / b)).natAbs).length ≤ 200 := by
    rw [Int.natAbs_neg]
    exact Nat.le_trans (dig_len.2 (Nat.lt_of_le_of_lt (floor_abs g.pos) (dig_len.1 (Nat.le_refl _)))) g.neg.ln
  have hS1 := fun S tk k => SameBig_self S tk k (a / b) (by omega)
  have hS2 := fun S tk k => SameBig_self S tk k (-(-a / b)) (by omega)
  generalize a / b = f at *
  generalize -(-a / b) = c2 at *
  generalize textQ a b = s at *
  simp only [zA, bigA, qA, ratA, digA] at *
  simp (maxSteps := 1000000) +contextual (disch := first | with_reducible assumption | exact ⟨rfl⟩ | exact ⟨rfl, rfl⟩ | (refine _root_.id ?_; kernel_rfl) | omega) only [evs, ext_mv, nth, put, putT, getT, binInt, binStr, binBool, aUn, outA, resA, mapO, resA1, oneOf, w1, w2, w3, bots, cond_true, cond_false, if_true, if_false, ite_true, ite_false, reduceIte, reduceCtorEq, implies_true, Nat.reduceAdd, Nat.reduceSub, AV.int, AV.bool, AV.str, Nat.reduceBEq, Nat.reduceEqDiff, Nat.reduceMul, Nat.reduceLT, Nat.reduceLeDiff, Int.reduceNeg, BEq.rfl, beq_self_eq_true, tabl, cellsOf, fldA, ldA, stA, entAt, partA, takeN, over, leafOk, Value.oneCell', idxA, nilA, cellsEq, fillA, elemsA, pure1, pure2, reps, chkA, tys, Tryd.results4, KX_draw, KX_drawQ, KX_tail, lastO_one, lastO_more, dropL_one, dropL_more, callP_eq, callM_true, ext_mv1, sEq_self, hF, hAw, hA, hRA, hB, hRB, hC, hRC, hT, hRT, hS1, hS2]
end
end Go.Proofs.YtgadegdhfjnoaaaDoor
