/-
  Texts laid together: B16, B16Z, B11, FRef, FBig.
-/
import Derived.Test.YtmgbmbganlndkaaZFScales13
import Derived.Test.YtmgbmbganlndkaaZFScales11
/-
  Quotients, rests and greatest common divisors of numbers.
-/

namespace Go.Proofs.Ytmgbmbganlndkaa
open Go

theorem div_sg (p q : Bool) (X Y : Nat) (hY : 0 < Y) : (sg p X).fdiv (sg q Y) = sg (p != q) (if (p != q && !decide (X % Y = 0)) = true then X / Y + 1 else X / Y) ∧ (sg p X).fmod (sg q Y) = sg q (if (p != q && !decide (X % Y = 0)) = true then Y - X % Y else X % Y) := by
  have h1 := Nat.div_add_mod X Y
  have h2 := Nat.mod_lt X hY
  have h1' : (Y : Int) * ((X / Y : Nat) : Int) + ((X % Y : Nat) : Int) = X := by rw [← Int.natCast_mul, ← Int.natCast_add, h1]
  generalize X / Y = Q at *
  generalize X % Y = R at *
  cases q with
  | false =>
    have hb : (0 : Int) < sg false Y := by simp [sg]; omega
    refine (Int.fdiv_fmod_unique hb).2 ?_
    cases p with
    | false => simp [sg]; omega
    | true =>
      by_cases hR : R = 0
      · subst hR; simp [sg, Int.mul_neg]; omega
      · simp [sg, hR, Int.mul_neg, Int.mul_add]; omega
  | true =>
    have hb : sg true Y < 0 := by simp [sg]; omega
    refine (Int.fdiv_fmod_unique' hb).2 ?_
    cases p with
    | true => simp [sg, Int.neg_mul]; omega
    | false =>
      by_cases hR : R = 0
      · subst hR; simp [sg, Int.neg_mul, Int.mul_neg]; omega
      · simp [sg, hR, Int.neg_mul, Int.mul_neg, Int.mul_add]; omega
theorem div_fits {X Y : Nat} (hY : 0 < Y) (hX : (dig X).length ≤ 200) (hYl : (dig Y).length ≤ 200) (b : Bool) : (dig (if (b && !decide (X % Y = 0)) = true then X / Y + 1 else X / Y)).length ≤ 200 ∧ (dig (if (b && !decide (X % Y = 0)) = true then Y - X % Y else X % Y)).length ≤ 200 := by
  have h1 := Nat.div_add_mod X Y
  have h2 := Nat.mod_lt X hY
  have h3 : X / Y ≤ X := Nat.div_le_self _ _
  constructor
  · refine Nat.le_trans (len_mono ?_) hX
    split
    · rename_i hh
      simp only [Bool.and_eq_true, Bool.not_eq_true', decide_eq_false_iff_not] at hh
      by_cases hY1 : Y = 1
      · subst hY1; omega
      · have : 2 * (X / Y) ≤ Y * (X / Y) := Nat.mul_le_mul_right _ (by omega)
        omega
    · exact h3
  · refine Nat.le_trans (len_mono ?_) hYl
    split <;> omega
theorem okZ_sg {p : Bool} {n : Nat} (h : (dig n).length ≤ 200) : okZ (sg p n) = true := by
  unfold okZ; rw [sg_abs]; simp; omega
def divA (a b : Int) : AV := .tup [zA (if b = 0 then 0 else a.fdiv b), zA (if b = 0 then 0 else a.fmod b), .bool (!decide (b = 0))]
theorem divA_sg (p q : Bool) (X Y : Nat) (hY : 0 < Y) : divA (sg p X) (sg q Y) = .tup [zA (sg (p != q) (if (p != q && !decide (X % Y = 0)) = true then X / Y + 1 else X / Y)), zA (sg q (if (p != q && !decide (X % Y = 0)) = true then Y - X % Y else X % Y)), .bool true] := by
  obtain ⟨h1, h2⟩ := div_sg p q X Y hY
  have h0 : sg q Y ≠ 0 := by cases q <;> simp [sg] <;> omega
  unfold divA
  rw [if_neg h0, if_neg h0, h1, h2]
  simp [h0]
section
variable (S : List Ent) (tk : List Nat) (k : Nat)
set_option maxRecDepth 100000 in
theorem big_Div (p q : Bool) (l r : List Int) (hl : l.length ≤ 1000000) (hr : r.length ≤ 1000000) : cL Try.prog 42 [bigA p l, bigA q r] S tk k = some (divA (V p l) (V q r), S, tk, k) := by
  have hD1 := fun S tk k => big_digits S tk k p l .unk hl
  have hD2 := fun S tk k => big_digits S tk k q r .unk hr
  have ha := V_len p l
  have hb := V_len q r
  have e1 := V_sg p l
  have e2 := V_sg q r
  generalize V p l = x at *
  generalize V q r = y at *
  generalize hX : x.natAbs = X at *
  generalize hY : y.natAbs = Y at *
  subst e1 e2
  simp only [digA] at hD1 hD2
  by_cases hY0 : Y = 0
  · subst hY0
    have d1 : (((dig 0).length : Int) == 0) = true := rfl
    have hz : divA (sg p X) (sg q 0) = .tup [zA 0, zA 0, .bool false] := by
      have : sg q 0 = 0 := by cases q <;> rfl
      rw [this]; rfl
    rw [hz]
    refine call_pure Try.func42 rfl rfl (by decide +kernel) (by decide +kernel) Try.ntmps42 rfl rfl _ _ _ (rfl) ?_; rw [RK_KX]
    simp (maxSteps := 1000000) +contextual (disch := first | with_reducible assumption | exact ⟨rfl⟩ | exact ⟨rfl, rfl⟩ | (refine _root_.id ?_; kernel_rfl) | omega) only [evs, ext_mv, nth, put, putT, getT, binInt, binStr, binBool, aUn, outA, resA, mapO, resA1, oneOf, w1, w2, w3, bots, cond_true, cond_false, if_true, if_false, ite_true, ite_false, reduceIte, reduceCtorEq, implies_true, Nat.reduceAdd, Nat.reduceSub, AV.int, AV.bool, AV.str, Nat.reduceBEq, Nat.reduceEqDiff, Nat.reduceMul, Nat.reduceLT, Nat.reduceLeDiff, Int.reduceNeg, BEq.rfl, beq_self_eq_true, tabl, cellsOf, fldA, ldA, stA, entAt, partA, takeN, over, leafOk, Value.oneCell', idxA, nilA, cellsEq, fillA, elemsA, pure1, pure2, reps, chkA, tys, Try.results42, KX_draw, KX_drawQ, KX_tail, lastO_one, lastO_more, dropL_one, dropL_more, callP_eq, callM_true, bigA, digA, hD1, hD2, d1]
    simp [zA_zero, bigA, digA]
  rw [divA_sg p q X Y (by omega)]
  have d1 : (((dig Y).length : Int) == 0) = false := len_eq_zero fun h => hY0 (dig_nil.1 h)
  have hV := fun S tk k => big_divide S tk k X Y (by omega) (by omega) (by omega)
  have hrl := len_mono (a := Y) (b := X % Y) (Nat.le_of_lt (Nat.mod_lt _ (by omega)))
  have hql := len_mono (a := X) (b := X / Y) (Nat.div_le_self _ _)
  obtain ⟨k1, k2⟩ := div_fits (X := X) (Y := Y) (by omega) ha hb (p != q)
  have d2 := len_pos_dig (X % Y)
  have d3 := len_pos_dig X
  by_cases hcond : (p != q && !decide (X % Y = 0)) = true
  · rw [if_pos hcond] at k1 k2
    rw [if_pos hcond, if_pos hcond]
    simp only [Bool.and_eq_true] at hcond
    obtain ⟨hpq, hR⟩ := hcond
    have hpq' : (p == q) = false := by simpa using hpq
    have hX0 : X ≠ 0 := fun h => by subst h; simp at hR
    rw [hR] at d2
    have d3' : decide (((dig X).length : Int) > 0) = true := by rw [d3]; simp [hX0]
    have hP := fun S tk k => big_plus S tk k (X / Y) 1 (by omega) (by rw [show dig 1 = [1] from rfl]; simp)
    have hM := fun S tk k => big_minus S tk k Y (X % Y) (by omega) (Nat.le_of_lt (Nat.mod_lt _ (by omega)))
    have hP' := fun S tk k => (cL_w2 (P := Try.prog) (f := 66) (S := S) (tk := tk) (n := k) (args := [digA (dig (X / Y)), .frz [[.prim (.int .i64 1)]] .tight]) (args' := [digA (dig (X / Y)), digA (dig 1)]) rfl rfl rfl).trans (hP S tk k)
    have hs1 := fun S tk k => big_signed' S tk k (p != q) (X / Y + 1) .unk
    have hs2 := fun c S tk k => big_signed' S tk k q (Y - X % Y) c
    have hap := fun tk => ap_nil (l := dig (Y - X % Y)) (by omega) tk
    rw [sgnZ, fit_of (okZ_sg k1)] at hs1
    simp only [sgnZ, fit_of (okZ_sg k2)] at hs2
    rw [hpq] at hs1 ⊢
    generalize sg true (X / Y + 1) = z1 at *
    generalize sg q (Y - X % Y) = z2 at *
    simp only [digA, zA, bigA] at hV hP' hM hs1 hs2 hap
    refine call_pure Try.func42 rfl rfl (by decide +kernel) (by decide +kernel) Try.ntmps42 rfl rfl _ _ _ (rfl) ?_; rw [RK_KX]
    simp (maxSteps := 1000000) +contextual (disch := first | with_reducible assumption | exact ⟨rfl⟩ | exact ⟨rfl, rfl⟩ | (refine _root_.id ?_; kernel_rfl) | omega) only [evs, ext_mv, nth, put, putT, getT, binInt, binStr, binBool, aUn, outA, resA, mapO, resA1, oneOf, w1, w2, w3, bots, cond_true, cond_false, if_true, if_false, ite_true, ite_false, reduceIte, reduceCtorEq, implies_true, Nat.reduceAdd, Nat.reduceSub, AV.int, AV.bool, AV.str, Nat.reduceBEq, Nat.reduceEqDiff, Nat.reduceMul, Nat.reduceLT, Nat.reduceLeDiff, Int.reduceNeg, BEq.rfl, beq_self_eq_true, tabl, cellsOf, fldA, ldA, stA, entAt, partA, takeN, over, leafOk, Value.oneCell', idxA, nilA, cellsEq, fillA, elemsA, pure1, pure2, reps, chkA, tys, Try.results42, KX_draw, KX_drawQ, KX_tail, lastO_one, lastO_more, dropL_one, dropL_more, callP_eq, callM_true, bigA, digA, zA, hD1, hD2, d1, hV, hpq', d2, d3', hP', hM, hs1, hs2, hap]
  · rw [if_neg hcond] at k1 k2
    rw [if_neg hcond, if_neg hcond]
    have hs1 := fun S tk k => big_signed' S tk k (p != q) (X / Y) .unk
    have hs2 := fun c S tk k => big_signed' S tk k q (X % Y) c
    have hap := fun tk => ap_nil (l := dig (X % Y)) (by omega) tk
    rw [sgnZ, fit_of (okZ_sg k1)] at hs1
    simp only [sgnZ, fit_of (okZ_sg k2)] at hs2
    generalize sg (p != q) (X / Y) = z1 at *
    generalize sg q (X % Y) = z2 at *
    simp only [digA, zA, bigA] at hV hs1 hs2 hap
    simp only [Bool.and_eq_true, not_and, Bool.not_eq_true] at hcond
    cases hpq : (p != q) with
    | false =>
      have hpq' : (p == q) = true := by simpa using hpq
      rw [hpq] at hs1
      refine call_pure Try.func42 rfl rfl (by decide +kernel) (by decide +kernel) Try.ntmps42 rfl rfl _ _ _ (rfl) ?_; rw [RK_KX]
      simp (maxSteps := 1000000) +contextual (disch := first | with_reducible assumption | exact ⟨rfl⟩ | exact ⟨rfl, rfl⟩ | (refine _root_.id ?_; kernel_rfl) | omega) only [evs, ext_mv, nth, put, putT, getT, binInt, binStr, binBool, aUn, outA, resA, mapO, resA1, oneOf, w1, w2, w3, bots, cond_true, cond_false, if_true, if_false, ite_true, ite_false, reduceIte, reduceCtorEq, implies_true, Nat.reduceAdd, Nat.reduceSub, AV.int, AV.bool, AV.str, Nat.reduceBEq, Nat.reduceEqDiff, Nat.reduceMul, Nat.reduceLT, Nat.reduceLeDiff, Int.reduceNeg, BEq.rfl, beq_self_eq_true, tabl, cellsOf, fldA, ldA, stA, entAt, partA, takeN, over, leafOk, Value.oneCell', idxA, nilA, cellsEq, fillA, elemsA, pure1, pure2, reps, chkA, tys, Try.results42, KX_draw, KX_drawQ, KX_tail, lastO_one, lastO_more, dropL_one, dropL_more, callP_eq, callM_true, bigA, digA, zA, hD1, hD2, d1, hV, hpq', hs1, hs2, hap]
    | true =>
      have d2' : decide (((dig (X % Y)).length : Int) > 0) = false := by rw [d2]; exact hcond hpq
      have hpq' : (p == q) = false := by simpa using hpq
      rw [hpq] at hs1
      refine call_pure Try.func42 rfl rfl (by decide +kernel) (by decide +kernel) Try.ntmps42 rfl rfl _ _ _ (rfl) ?_; rw [RK_KX]
      simp (maxSteps := 1000000) +contextual (disch := first | with_reducible assumption | exact ⟨rfl⟩ | exact ⟨rfl, rfl⟩ | (refine _root_.id ?_; kernel_rfl) | omega) only [evs, ext_mv, nth, put, putT, getT, binInt, binStr, binBool, aUn, outA, resA, mapO, resA1, oneOf, w1, w2, w3, bots, cond_true, cond_false, if_true, if_false, ite_true, ite_false, reduceIte, reduceCtorEq, implies_true, Nat.reduceAdd, Nat.reduceSub, AV.int, AV.bool, AV.str, Nat.reduceBEq, Nat.reduceEqDiff, Nat.reduceMul, Nat.reduceLT, Nat.reduceLeDiff, Int.reduceNeg, BEq.rfl, beq_self_eq_true, tabl, cellsOf, fldA, ldA, stA, entAt, partA, takeN, over, leafOk, Value.oneCell', idxA, nilA, cellsEq, fillA, elemsA, pure1, pure2, reps, chkA, tys, Try.results42, KX_draw, KX_drawQ, KX_tail, lastO_one, lastO_more, dropL_one, dropL_more, callP_eq, callM_true, bigA, digA, zA, hD1, hD2, d1, hV, hpq', d2', hs1, hs2, hap]
set_option maxRecDepth 100000 in
theorem R02_Div (p q : Bool) (l r : List Int) (hl : l.length ≤ 1000000) (hr : r.length ≤ 1000000) : cL Try.prog 44 [bigA p l, bigA q r] S tk k = some (divA (V p l) (V q r), S, tk, k) := by
  have hD1 := fun S tk k => R02_digits S tk k p l .unk hl
  have hD2 := fun S tk k => R02_digits S tk k q r .unk hr
  have hN1 := fun S tk k => R02_negative S tk k p l .unk hl
  have hN2 := fun S tk k => R02_negative S tk k q r .unk hr
  have ha := V_len p l
  have hb := V_len q r
  have e1 := V_sg2 p l
  have e2 := V_sg2 q r
  generalize V p l = x at *
  generalize V q r = y at *
  generalize (validF p l && p) = a at *
  generalize (validF q r && q) = b at *
  generalize hX : x.natAbs = X at *
  generalize hY : y.natAbs = Y at *
  subst e1 e2
  simp only [digA] at hD1 hD2 hN1 hN2
  by_cases hY0 : Y = 0
  · subst hY0
    have d1 : (((dig 0).length : Int) == 0) = true := rfl
    have hz : divA (sg a X) (sg b 0) = .tup [zA 0, zA 0, .bool false] := by
      have : sg b 0 = 0 := by cases b <;> rfl
      rw [this]; rfl
    rw [hz]
    refine call_pure Try.func44 rfl rfl (by decide +kernel) (by decide +kernel) Try.ntmps44 rfl rfl _ _ _ (rfl) ?_; rw [RK_KX]
    simp (maxSteps := 1000000) +contextual (disch := first | with_reducible assumption | exact ⟨rfl⟩ | exact ⟨rfl, rfl⟩ | (refine _root_.id ?_; kernel_rfl) | omega) only [evs, ext_mv, nth, put, putT, getT, binInt, binStr, binBool, aUn, outA, resA, mapO, resA1, oneOf, w1, w2, w3, bots, cond_true, cond_false, if_true, if_false, ite_true, ite_false, reduceIte, reduceCtorEq, implies_true, Nat.reduceAdd, Nat.reduceSub, AV.int, AV.bool, AV.str, Nat.reduceBEq, Nat.reduceEqDiff, Nat.reduceMul, Nat.reduceLT, Nat.reduceLeDiff, Int.reduceNeg, BEq.rfl, beq_self_eq_true, tabl, cellsOf, fldA, ldA, stA, entAt, partA, takeN, over, leafOk, Value.oneCell', idxA, nilA, cellsEq, fillA, elemsA, pure1, pure2, reps, chkA, tys, Try.results44, KX_draw, KX_drawQ, KX_tail, lastO_one, lastO_more, dropL_one, dropL_more, callP_eq, callM_true, bigA, digA, hD1, hD2, d1]
    simp [zA_zero, bigA, digA]
  rw [divA_sg a b X Y (by omega)]
  have d1 : (((dig Y).length : Int) == 0) = false := len_eq_zero fun h => hY0 (dig_nil.1 h)
  have hV := fun S tk k => R02_divide S tk k X Y (by omega) (by omega) (by omega)
  have hrl := len_mono (a := Y) (b := X % Y) (Nat.le_of_lt (Nat.mod_lt _ (by omega)))
  have hql := len_mono (a := X) (b := X / Y) (Nat.div_le_self _ _)
  obtain ⟨k1, k2⟩ := div_fits (X := X) (Y := Y) (by omega) ha hb (a != b)
  have d2 := len_pos_dig (X % Y)
  by_cases hcond : (a != b && !decide (X % Y = 0)) = true
  · rw [if_pos hcond] at k1 k2
    rw [if_pos hcond, if_pos hcond]
    simp only [Bool.and_eq_true] at hcond
    obtain ⟨hpq, hR⟩ := hcond
    have hpq' : (a == b) = false := by simpa using hpq
    rw [hR] at d2
    have hP := fun S tk k => R02_plus S tk k (X / Y) 1 (by omega) (by rw [show dig 1 = [1] from rfl]; simp)
    have hM := fun S tk k => R02_minus S tk k Y (X % Y) (by omega) (Nat.le_of_lt (Nat.mod_lt _ (by omega)))
    have hP' := fun S tk k => (cL_w2 (P := Try.prog) (f := 69) (S := S) (tk := tk) (n := k) (args := [digA (dig (X / Y)), .frz [[.prim (.int .i64 1)]] .tight]) (args' := [digA (dig (X / Y)), digA (dig 1)]) rfl rfl rfl).trans (hP S tk k)
    have hs1 := fun S tk k => R02_number' S tk k (a != b) (X / Y + 1) .unk (by omega)
    have hs2 := fun S tk k => R02_number' S tk k b (Y - X % Y) .unk (by omega)
    rw [sgnZ, fit_of (okZ_sg k1)] at hs1
    rw [sgnZ, fit_of (okZ_sg k2)] at hs2
    rw [okZ_sg k1] at hs1
    rw [okZ_sg k2] at hs2
    rw [hpq] at hs1 ⊢
    generalize sg true (X / Y + 1) = z1 at *
    generalize sg b (Y - X % Y) = z2 at *
    simp only [digA, zA, bigA] at hV hP' hM hs1 hs2
    refine call_pure Try.func44 rfl rfl (by decide +kernel) (by decide +kernel) Try.ntmps44 rfl rfl _ _ _ (rfl) ?_; rw [RK_KX]
    simp (maxSteps := 1000000) +contextual (disch := first | with_reducible assumption | exact ⟨rfl⟩ | exact ⟨rfl, rfl⟩ | (refine _root_.id ?_; kernel_rfl) | omega) only [evs, ext_mv, nth, put, putT, getT, binInt, binStr, binBool, aUn, outA, resA, mapO, resA1, oneOf, w1, w2, w3, bots, cond_true, cond_false, if_true, if_false, ite_true, ite_false, reduceIte, reduceCtorEq, implies_true, Nat.reduceAdd, Nat.reduceSub, AV.int, AV.bool, AV.str, Nat.reduceBEq, Nat.reduceEqDiff, Nat.reduceMul, Nat.reduceLT, Nat.reduceLeDiff, Int.reduceNeg, BEq.rfl, beq_self_eq_true, tabl, cellsOf, fldA, ldA, stA, entAt, partA, takeN, over, leafOk, Value.oneCell', idxA, nilA, cellsEq, fillA, elemsA, pure1, pure2, reps, chkA, tys, Try.results44, KX_draw, KX_drawQ, KX_tail, lastO_one, lastO_more, dropL_one, dropL_more, callP_eq, callM_true, bigA, digA, zA, hD1, hD2, hN1, hN2, d1, hV, hpq', d2, hP', hM, hs1, hs2]
  · rw [if_neg hcond] at k1 k2
    rw [if_neg hcond, if_neg hcond]
    have hs1 := fun S tk k => R02_number' S tk k (a != b) (X / Y) .unk (by omega)
    have hs2 := fun S tk k => R02_number' S tk k b (X % Y) .unk (by omega)
    rw [sgnZ, fit_of (okZ_sg k1), okZ_sg k1] at hs1
    rw [sgnZ, fit_of (okZ_sg k2), okZ_sg k2] at hs2
    generalize sg (a != b) (X / Y) = z1 at *
    generalize sg b (X % Y) = z2 at *
    simp only [digA, zA, bigA] at hV hs1 hs2
    simp only [Bool.and_eq_true, not_and, Bool.not_eq_true] at hcond
    cases hpq : (a != b) with
    | false =>
      have hpq' : (a == b) = true := by simpa using hpq
      rw [hpq] at hs1
      refine call_pure Try.func44 rfl rfl (by decide +kernel) (by decide +kernel) Try.ntmps44 rfl rfl _ _ _ (rfl) ?_; rw [RK_KX]
      simp (maxSteps := 1000000) +contextual (disch := first | with_reducible assumption | exact ⟨rfl⟩ | exact ⟨rfl, rfl⟩ | (refine _root_.id ?_; kernel_rfl) | omega) only [evs, ext_mv, nth, put, putT, getT, binInt, binStr, binBool, aUn, outA, resA, mapO, resA1, oneOf, w1, w2, w3, bots, cond_true, cond_false, if_true, if_false, ite_true, ite_false, reduceIte, reduceCtorEq, implies_true, Nat.reduceAdd, Nat.reduceSub, AV.int, AV.bool, AV.str, Nat.reduceBEq, Nat.reduceEqDiff, Nat.reduceMul, Nat.reduceLT, Nat.reduceLeDiff, Int.reduceNeg, BEq.rfl, beq_self_eq_true, tabl, cellsOf, fldA, ldA, stA, entAt, partA, takeN, over, leafOk, Value.oneCell', idxA, nilA, cellsEq, fillA, elemsA, pure1, pure2, reps, chkA, tys, Try.results44, KX_draw, KX_drawQ, KX_tail, lastO_one, lastO_more, dropL_one, dropL_more, callP_eq, callM_true, bigA, digA, zA, hD1, hD2, hN1, hN2, d1, hV, hpq', hs1, hs2]
    | true =>
      have hpq' : (a == b) = false := by simpa using hpq
      have d2' : decide (((dig (X % Y)).length : Int) > 0) = false := by rw [d2]; exact hcond hpq
      rw [hpq] at hs1
      refine call_pure Try.func44 rfl rfl (by decide +kernel) (by decide +kernel) Try.ntmps44 rfl rfl _ _ _ (rfl) ?_; rw [RK_KX]
      simp (maxSteps := 1000000) +contextual (disch := first | with_reducible assumption | exact ⟨rfl⟩ | exact ⟨rfl, rfl⟩ | (refine _root_.id ?_; kernel_rfl) | omega) only [evs, ext_mv, nth, put, putT, getT, binInt, binStr, binBool, aUn, outA, resA, mapO, resA1, oneOf, w1, w2, w3, bots, cond_true, cond_false, if_true, if_false, ite_true, ite_false, reduceIte, reduceCtorEq, implies_true, Nat.reduceAdd, Nat.reduceSub, AV.int, AV.bool, AV.str, Nat.reduceBEq, Nat.reduceEqDiff, Nat.reduceMul, Nat.reduceLT, Nat.reduceLeDiff, Int.reduceNeg, BEq.rfl, beq_self_eq_true, tabl, cellsOf, fldA, ldA, stA, entAt, partA, takeN, over, leafOk, Value.oneCell', idxA, nilA, cellsEq, fillA, elemsA, pure1, pure2, reps, chkA, tys, Try.results44, KX_draw, KX_drawQ, KX_tail, lastO_one, lastO_more, dropL_one, dropL_more, callP_eq, callM_true, bigA, digA, zA, hD1, hD2, hN1, hN2, d1, hV, hpq', d2', hs1, hs2]
theorem gcd_step {x y G : Nat} (h : Nat.gcd x y = G) (h0 : y ≠ 0) : Nat.gcd y (x % y) = G := by
  rw [Nat.gcd_comm, ← Nat.gcd_rec, Nat.gcd_comm, h]
theorem zA_nat (n : Nat) : zA (n : Int) = bigA false (dig n) := by
  have : decide ((n : Int) < 0) = false := by simp
  simp [zA, this]
set_option maxRecDepth 100000 in
theorem big_Gcd (p q : Bool) (l r : List Int) (hl : l.length ≤ 1000000) (hr : r.length ≤ 1000000) : cL Try.prog 41 [bigA p l, bigA q r] S tk k = some (zA ((V p l).gcd (V q r) : Nat), S, tk, k) := by
  have hD1 := fun S tk k => big_digits S tk k p l .unk hl
  have hD2 := fun S tk k => big_digits S tk k q r .unk hr
  have ha := V_len p l
  have hb := V_len q r
  rw [zA_nat, show (V p l).gcd (V q r) = Nat.gcd (V p l).natAbs (V q r).natAbs from rfl]
  generalize (V p l).natAbs = X at *
  generalize (V q r).natAbs = Y at *
  simp only [digA] at hD1 hD2
  refine call_pure Try.func41 rfl rfl (by decide +kernel) (by decide +kernel) Try.ntmps41 rfl rfl _ _ _ (rfl) ?_; rw [RK_KX]
  simp (maxSteps := 1000000) +contextual (disch := first | with_reducible assumption | exact ⟨rfl⟩ | exact ⟨rfl, rfl⟩ | (refine _root_.id ?_; kernel_rfl) | omega) only [evs, ext_mv, nth, put, putT, getT, binInt, binStr, binBool, aUn, outA, resA, mapO, resA1, oneOf, w1, w2, w3, bots, cond_true, cond_false, if_true, if_false, ite_true, ite_false, reduceIte, reduceCtorEq, implies_true, Nat.reduceAdd, Nat.reduceSub, AV.int, AV.bool, AV.str, Nat.reduceBEq, Nat.reduceEqDiff, Nat.reduceMul, Nat.reduceLT, Nat.reduceLeDiff, Int.reduceNeg, BEq.rfl, beq_self_eq_true, tabl, cellsOf, fldA, ldA, stA, entAt, partA, takeN, over, leafOk, Value.oneCell', idxA, nilA, cellsEq, fillA, elemsA, pure1, pure2, reps, chkA, tys, Try.results41, KX_draw, KX_drawQ, KX_tail, lastO_one, lastO_more, dropL_one, dropL_more, callP_eq, callM_true, bigA, digA, hD1, hD2]
  refine loop1 (fun x st => st.T.length = 27 ∧ ((dig x.1).length ≤ 200) ∧ ((dig x.2).length ≤ 200) ∧ (Nat.gcd x.1 x.2 = Nat.gcd X Y) ∧ getT st.T 2 = .ref 0 0 0 ∧ getT st.T 3 = .ref 1 1 0 ∧ getT st.T 4 = .ref 2 2 0 ∧ getT st.T 5 = digA (dig x.1) ∧ getT st.T 6 = digA (dig x.2) ∧ st.S = [⟨0, [.bool p, digA l]⟩, ⟨1, [.bool q, digA r]⟩, ⟨2, [.bool false, .frz [] .nilc]⟩]) (fun x => x.2) (fun x => bigA false (dig (Nat.gcd X Y))) (X, Y) ?_ ?_
  case refine_2 => exact ⟨rfl, ha, hb, rfl, rfl, rfl, rfl, rfl, rfl, rfl⟩
  rintro ⟨x, y⟩ ⟨T, S', tk', n'⟩ ⟨hl, hx, hy, hg, e2, e3, e4, e5, e6, eS⟩ IH
  simp only at hx hy hg e2 e3 e4 e5 e6 eS
  subst eS
  obtain ⟨g, hg, hT⟩ := tab_of hl
  rw [hg] at e2 e3 e4 e5 e6
  subst hT
  clear hg hl
  by_cases h0 : y = 0
  · have d1 : decide (((dig y).length : Int) > 0) = false := by rw [len_pos_dig]; simp [h0]
    have hap := fun tk => ap_nil (l := dig x) (by omega) tk
    have hgx : Nat.gcd X Y = x := by rw [← hg, h0, Nat.gcd_zero_right]
    rw [hgx]
    simp (maxSteps := 1000000) +contextual (disch := first | with_reducible assumption | exact ⟨rfl⟩ | exact ⟨rfl, rfl⟩ | (refine _root_.id ?_; kernel_rfl) | omega) only [evs, ext_mv, nth, put, putT, getT, binInt, binStr, binBool, aUn, outA, resA, mapO, resA1, oneOf, w1, w2, w3, bots, cond_true, cond_false, if_true, if_false, ite_true, ite_false, reduceIte, reduceCtorEq, implies_true, Nat.reduceAdd, Nat.reduceSub, AV.int, AV.bool, AV.str, Nat.reduceBEq, Nat.reduceEqDiff, Nat.reduceMul, Nat.reduceLT, Nat.reduceLeDiff, Int.reduceNeg, BEq.rfl, beq_self_eq_true, tabl, cellsOf, fldA, ldA, stA, entAt, partA, takeN, over, leafOk, Value.oneCell', idxA, nilA, cellsEq, fillA, elemsA, pure1, pure2, reps, chkA, tys, Try.results41, KX_draw, KX_drawQ, KX_tail, lastO_one, lastO_more, dropL_one, dropL_more, callP_eq, callM_true, bigA, digA, e2, e3, e4, e5, e6, d1, hap]
  · have d1 : decide (((dig y).length : Int) > 0) = true := by rw [len_pos_dig]; simp [h0]
    have hV := fun S tk k => big_divide S tk k x y (by omega) (by omega) (by omega)
    simp only [digA] at hV
    have hyl := Nat.mod_lt x (Nat.pos_of_ne_zero h0)
    simp (maxSteps := 1000000) +contextual (disch := first | with_reducible assumption | exact ⟨rfl⟩ | exact ⟨rfl, rfl⟩ | (refine _root_.id ?_; kernel_rfl) | omega) only [evs, ext_mv, nth, put, putT, getT, binInt, binStr, binBool, aUn, outA, resA, mapO, resA1, oneOf, w1, w2, w3, bots, cond_true, cond_false, if_true, if_false, ite_true, ite_false, reduceIte, reduceCtorEq, implies_true, Nat.reduceAdd, Nat.reduceSub, AV.int, AV.bool, AV.str, Nat.reduceBEq, Nat.reduceEqDiff, Nat.reduceMul, Nat.reduceLT, Nat.reduceLeDiff, Int.reduceNeg, BEq.rfl, beq_self_eq_true, tabl, cellsOf, fldA, ldA, stA, entAt, partA, takeN, over, leafOk, Value.oneCell', idxA, nilA, cellsEq, fillA, elemsA, pure1, pure2, reps, chkA, tys, Try.results41, KX_draw, KX_drawQ, KX_tail, lastO_one, lastO_more, dropL_one, dropL_more, callP_eq, callM_true, bigA, digA, e2, e3, e4, e5, e6, d1, hV]
    exact IH (y, x % y) _ (by first | omega | (simp only; omega)) ⟨rfl, hy, Nat.le_trans (len_mono (Nat.le_of_lt hyl)) hy, gcd_step hg h0, (by first | rfl | simp only [getT, List.map_append, List.map_cons, List.map_nil, digC, digA]), (by first | rfl | simp only [getT, List.map_append, List.map_cons, List.map_nil, digC, digA]), (by first | rfl | simp only [getT, List.map_append, List.map_cons, List.map_nil, digC, digA]), (by first | rfl | simp only [getT, List.map_append, List.map_cons, List.map_nil, digC, digA]), (by first | rfl | simp only [getT, List.map_append, List.map_cons, List.map_nil, digC, digA]), (by first | rfl | simp only [getT, List.map_append, List.map_cons, List.map_nil, digC, digA])⟩
set_option maxRecDepth 100000 in
theorem R02_Gcd (p q : Bool) (l r : List Int) (hl : l.length ≤ 1000000) (hr : r.length ≤ 1000000) : cL Try.prog 43 [bigA p l, bigA q r] S tk k = some (zA ((V p l).gcd (V q r) : Nat), S, tk, k) := by
  have hD1 := fun S tk k => R02_digits S tk k p l .unk hl
  have hD2 := fun S tk k => R02_digits S tk k q r .unk hr
  have ha := V_len p l
  have hb := V_len q r
  rw [zA_nat, show (V p l).gcd (V q r) = Nat.gcd (V p l).natAbs (V q r).natAbs from rfl]
  generalize (V p l).natAbs = X at *
  generalize (V q r).natAbs = Y at *
  simp only [digA] at hD1 hD2
  refine call_pure Try.func43 rfl rfl (by decide +kernel) (by decide +kernel) Try.ntmps43 rfl rfl _ _ _ (rfl) ?_; rw [RK_KX]
  simp (maxSteps := 1000000) +contextual (disch := first | with_reducible assumption | exact ⟨rfl⟩ | exact ⟨rfl, rfl⟩ | (refine _root_.id ?_; kernel_rfl) | omega) only [evs, ext_mv, nth, put, putT, getT, binInt, binStr, binBool, aUn, outA, resA, mapO, resA1, oneOf, w1, w2, w3, bots, cond_true, cond_false, if_true, if_false, ite_true, ite_false, reduceIte, reduceCtorEq, implies_true, Nat.reduceAdd, Nat.reduceSub, AV.int, AV.bool, AV.str, Nat.reduceBEq, Nat.reduceEqDiff, Nat.reduceMul, Nat.reduceLT, Nat.reduceLeDiff, Int.reduceNeg, BEq.rfl, beq_self_eq_true, tabl, cellsOf, fldA, ldA, stA, entAt, partA, takeN, over, leafOk, Value.oneCell', idxA, nilA, cellsEq, fillA, elemsA, pure1, pure2, reps, chkA, tys, Try.results43, KX_draw, KX_drawQ, KX_tail, lastO_one, lastO_more, dropL_one, dropL_more, callP_eq, callM_true, bigA, digA, hD1, hD2]
  refine loop1 (fun x st => st.T.length = 32 ∧ ((dig x.1).length ≤ 200) ∧ ((dig x.2).length ≤ 200) ∧ (Nat.gcd x.1 x.2 = Nat.gcd X Y) ∧ getT st.T 2 = .ref 0 0 0 ∧ getT st.T 3 = .ref 1 1 0 ∧ getT st.T 4 = .ref 2 2 0 ∧ getT st.T 5 = digA (dig x.1) ∧ getT st.T 6 = digA (dig x.2) ∧ st.S = [⟨0, [.bool p, digA l]⟩, ⟨1, [.bool q, digA r]⟩, ⟨2, [.bool false, .frz [] .nilc]⟩]) (fun x => x.2) (fun x => bigA false (dig (Nat.gcd X Y))) (X, Y) ?_ ?_
  case refine_2 => exact ⟨rfl, ha, hb, rfl, rfl, rfl, rfl, rfl, rfl, rfl⟩
  rintro ⟨x, y⟩ ⟨T, S', tk', n'⟩ ⟨hl, hx, hy, hg, e2, e3, e4, e5, e6, eS⟩ IH
  simp only at hx hy hg e2 e3 e4 e5 e6 eS
  subst eS
  obtain ⟨g, hg, hT⟩ := tab_of hl
  rw [hg] at e2 e3 e4 e5 e6
  subst hT
  clear hg hl
  by_cases h0 : y = 0
  · have d1 : decide (((dig y).length : Int) > 0) = false := by rw [len_pos_dig]; simp [h0]
    have hgx : Nat.gcd X Y = x := by rw [← hg, h0, Nat.gcd_zero_right]
    rw [hgx]
    have hs := fun S tk k => R02_number' S tk k false x .unk (by omega)
    rw [sgnZ, fit_of (okZ_sg hx), okZ_sg hx, show sg false x = (x : Int) from rfl, zA_nat] at hs
    simp only [bigA, digA] at hs
    simp (maxSteps := 1000000) +contextual (disch := first | with_reducible assumption | exact ⟨rfl⟩ | exact ⟨rfl, rfl⟩ | (refine _root_.id ?_; kernel_rfl) | omega) only [evs, ext_mv, nth, put, putT, getT, binInt, binStr, binBool, aUn, outA, resA, mapO, resA1, oneOf, w1, w2, w3, bots, cond_true, cond_false, if_true, if_false, ite_true, ite_false, reduceIte, reduceCtorEq, implies_true, Nat.reduceAdd, Nat.reduceSub, AV.int, AV.bool, AV.str, Nat.reduceBEq, Nat.reduceEqDiff, Nat.reduceMul, Nat.reduceLT, Nat.reduceLeDiff, Int.reduceNeg, BEq.rfl, beq_self_eq_true, tabl, cellsOf, fldA, ldA, stA, entAt, partA, takeN, over, leafOk, Value.oneCell', idxA, nilA, cellsEq, fillA, elemsA, pure1, pure2, reps, chkA, tys, Try.results43, KX_draw, KX_drawQ, KX_tail, lastO_one, lastO_more, dropL_one, dropL_more, callP_eq, callM_true, bigA, digA, e2, e3, e4, e5, e6, d1, hs]
  · have d1 : decide (((dig y).length : Int) > 0) = true := by rw [len_pos_dig]; simp [h0]
    have hV := fun S tk k => R02_divide S tk k x y (by omega) (by omega) (by omega)
    simp only [digA] at hV
    have hyl := Nat.mod_lt x (Nat.pos_of_ne_zero h0)
    simp (maxSteps := 1000000) +contextual (disch := first | with_reducible assumption | exact ⟨rfl⟩ | exact ⟨rfl, rfl⟩ | (refine _root_.id ?_; kernel_rfl) | omega) only [evs, ext_mv, nth, put, putT, getT, binInt, binStr, binBool, aUn, outA, resA, mapO, resA1, oneOf, w1, w2, w3, bots, cond_true, cond_false, if_true, if_false, ite_true, ite_false, reduceIte, reduceCtorEq, implies_true, Nat.reduceAdd, Nat.reduceSub, AV.int, AV.bool, AV.str, Nat.reduceBEq, Nat.reduceEqDiff, Nat.reduceMul, Nat.reduceLT, Nat.reduceLeDiff, Int.reduceNeg, BEq.rfl, beq_self_eq_true, tabl, cellsOf, fldA, ldA, stA, entAt, partA, takeN, over, leafOk, Value.oneCell', idxA, nilA, cellsEq, fillA, elemsA, pure1, pure2, reps, chkA, tys, Try.results43, KX_draw, KX_drawQ, KX_tail, lastO_one, lastO_more, dropL_one, dropL_more, callP_eq, callM_true, bigA, digA, e2, e3, e4, e5, e6, d1, hV]
    exact IH (y, x % y) _ (by first | omega | (simp only; omega)) ⟨rfl, hy, Nat.le_trans (len_mono (Nat.le_of_lt hyl)) hy, gcd_step hg h0, (by first | rfl | simp only [getT, List.map_append, List.map_cons, List.map_nil, digC, digA]), (by first | rfl | simp only [getT, List.map_append, List.map_cons, List.map_nil, digC, digA]), (by first | rfl | simp only [getT, List.map_append, List.map_cons, List.map_nil, digC, digA]), (by first | rfl | simp only [getT, List.map_append, List.map_cons, List.map_nil, digC, digA]), (by first | rfl | simp only [getT, List.map_append, List.map_cons, List.map_nil, digC, digA]), (by first | rfl | simp only [getT, List.map_append, List.map_cons, List.map_nil, digC, digA])⟩
end
end Go.Proofs.Ytmgbmbganlndkaa
/-
  Quotients and rests that are not too long.
-/

namespace Go.Proofs.Ytmgbmbganlndkaa
open Go

theorem okZ_abs {a b : Int} (h : okZ b = true) (hab : a.natAbs ≤ b.natAbs) : okZ a = true := by
  simp [okZ] at h ⊢; exact Nat.le_trans (len_mono hab) h
theorem fdiv_abs {a b : Int} : (if b = 0 then 0 else a.fdiv b).natAbs ≤ a.natAbs := by
  split
  · simp
  · rename_i hb
    have e1 : a = sg (decide (a < 0)) a.natAbs := by simp [sg]; split <;> omega
    have e2 : b = sg (decide (b < 0)) b.natAbs := by simp [sg]; split <;> omega
    have hY : 0 < b.natAbs := by omega
    have h := (div_sg (decide (a < 0)) (decide (b < 0)) a.natAbs b.natAbs hY).1
    rw [← e1, ← e2] at h
    rw [h, sg_abs]
    have h1 := Nat.div_add_mod a.natAbs b.natAbs
    have h2 := Nat.mod_lt a.natAbs hY
    have h3 : a.natAbs / b.natAbs ≤ a.natAbs := Nat.div_le_self _ _
    split
    · rename_i hh
      simp only [Bool.and_eq_true, Bool.not_eq_true', decide_eq_false_iff_not] at hh
      by_cases hY1 : b.natAbs = 1
      · rw [hY1] at h2 hh; omega
      · have : 2 * (a.natAbs / b.natAbs) ≤ b.natAbs * (a.natAbs / b.natAbs) := Nat.mul_le_mul_right _ (by omega)
        omega
    · exact h3
theorem fmod_facts {a b : Int} (hb : b ≠ 0) : (a.fmod b).natAbs < b.natAbs ∧ a = b * a.fdiv b + a.fmod b ∧ (0 < b → 0 ≤ a.fmod b ∧ a.fmod b < b) ∧ (b < 0 → b < a.fmod b ∧ a.fmod b ≤ 0) := by
  rcases Int.lt_or_gt_of_ne hb with h | h
  · have := (Int.fdiv_fmod_unique' (a := a) h).1 ⟨rfl, rfl⟩
    exact ⟨by omega, by omega, fun h => by omega, fun _ => by omega⟩
  · have := (Int.fdiv_fmod_unique (a := a) h).1 ⟨rfl, rfl⟩
    exact ⟨by omega, by omega, fun _ => by omega, fun h => by omega⟩
theorem okZ_fdiv {a b : Int} (h : okZ a = true) : okZ (if b = 0 then 0 else a.fdiv b) = true := okZ_abs h fdiv_abs
theorem okZ_fmod {a b : Int} (h : okZ b = true) : okZ (if b = 0 then 0 else a.fmod b) = true := by
  split
  · rfl
  · rename_i hb
    exact okZ_abs h (Nat.le_of_lt (fmod_facts hb).1)
/-- a number that is not too long, as its sign and digits -/
theorem zA_of {z : Int} (h : okZ z = true) : ∃ s e, zA z = bigA s e ∧ V s e = z ∧ e.length ≤ 200 :=
  ⟨decide (z < 0), dig z.natAbs, rfl, V_zA h, zA_len h⟩
end Go.Proofs.Ytmgbmbganlndkaa
/-
  Numbers from ints and back; the law BigMakes.
-/

namespace Go.Proofs.Ytmgbmbganlndkaa
open Go

theorem uwrap_of {n : Int} (h0 : 0 ≤ n) (h1 : n < 18446744073709551616) : IntKind.u64.wrap n = n := by
  have e : (n.toNat : Int) = n := by omega
  rw [← e]
  exact Go.IntWalk.u64_in _ (by omega)
theorem tmod_abs (u : Int) : (u.tmod 10000).natAbs = u.natAbs % 10000 := by
  rw [Int.natAbs_tmod]; rfl
theorem tdiv_abs (u : Int) : (u.tdiv 10000).natAbs = u.natAbs / 10000 := by
  rw [Int.natAbs_tdiv]; rfl
theorem drop_small {N : Nat} (h : (dig N).length ≤ 4) (m : Nat) : 0 ≤ val ((dig N).drop m) ∧ val ((dig N).drop m) < 10000000000000000 := by
  have hk : okD ((dig N).drop m) := fun d hd => okD_dig N d (List.mem_of_mem_drop hd)
  refine ⟨val_nonneg hk, ?_⟩
  have h1 := val_lt hk
  have h2 : (10000 : Int) ^ ((dig N).drop m).length ≤ 10000 ^ 4 := by
    have : ((dig N).drop m).length ≤ 4 := by simp; omega
    have h3 : (10000 : Nat) ^ ((dig N).drop m).length ≤ 10000 ^ 4 := Nat.pow_le_pow_right (by decide) this
    have e1 : ((10000 ^ ((dig N).drop m).length : Nat) : Int) ≤ ((10000 ^ 4 : Nat) : Int) := Int.ofNat_le.2 h3
    rw [Int.natCast_pow, Int.natCast_pow] at e1
    exact e1
  have e : (10000 : Int) ^ 4 = 10000000000000000 := by decide
  omega
theorem uwrap (n : Int) : IntKind.u64.wrap n = n % 18446744073709551616 := by
  simp [IntKind.wrap, IntKind.bits, IntKind.signed]
theorem dig_short {n : Nat} (h : n < 10000000000000000000) : (dig n).length ≤ 5 := dig_len.2 (Nat.lt_of_lt_of_le h (by decide))
theorem of_step {u N : Nat} {out : List Int} (he : out ++ dig u = dig N) (h : u ≠ 0) : (out ++ [((u % 10000 : Nat) : Int)]) ++ dig (u / 10000) = dig N := by
  rw [← he, dig_step h]; simp
theorem of_len {u N : Nat} {out : List Int} (he : out ++ dig u = dig N) (hN : N < 10000000000000000000) : out.length ≤ 5 := by
  have := dig_short hN
  rw [← he] at this; simp at this; omega
theorem of_done {N : Nat} {out : List Int} (he : out ++ dig 0 = dig N) : out = dig N := by rw [← he, dig_zero, List.append_nil]

section
variable (S : List Ent) (tk : List Nat) (k : Nat)
set_option maxRecDepth 100000 in
theorem big_Of (n : Int) (hn : i64 n) : cL Try.prog 31 [.int n] S tk k = some (zA n, S, tk, k) := by
  refine call_pure Try.func31 rfl rfl (by decide +kernel) (by decide +kernel) Try.ntmps31 rfl rfl _ _ _ (rfl) ?_; rw [RK_KX]
  have hn' := hn
  unfold i64 at hn'
  have hN : n.natAbs < 10000000000000000000 := by omega
  cases d0 : decide (n < 0) with
  | true =>
    simp only [decide_eq_true_eq] at d0
    have d0' : decide (n < 0) = true := by simpa using d0
    have q0 : IntKind.u64.wrap (0 - IntKind.u64.wrap n) = ((n.natAbs : Nat) : Int) := by rw [uwrap, uwrap]; omega
    simp (maxSteps := 1000000) +contextual (disch := first | with_reducible assumption | exact ⟨rfl⟩ | exact ⟨rfl, rfl⟩ | (refine _root_.id ?_; kernel_rfl) | omega) only [evs, ext_mv, nth, put, putT, getT, binInt, binStr, binBool, aUn, outA, resA, mapO, resA1, oneOf, w1, w2, w3, bots, cond_true, cond_false, if_true, if_false, ite_true, ite_false, reduceIte, reduceCtorEq, implies_true, Nat.reduceAdd, Nat.reduceSub, AV.int, AV.bool, AV.str, Nat.reduceBEq, Nat.reduceEqDiff, Nat.reduceMul, Nat.reduceLT, Nat.reduceLeDiff, Int.reduceNeg, BEq.rfl, beq_self_eq_true, tabl, cellsOf, fldA, ldA, stA, entAt, partA, takeN, over, leafOk, Value.oneCell', idxA, nilA, cellsEq, fillA, elemsA, pure1, pure2, reps, chkA, tys, Try.results31, KX_draw, KX_drawQ, KX_tail, lastO_one, lastO_more, dropL_one, dropL_more, callP_eq, callM_true, d0', q0]
    refine loop1 (fun x st => st.T.length = 25 ∧ (x.1 ≤ n.natAbs) ∧ (x.2.1 ++ dig x.1 = dig n.natAbs) ∧ (okCap st.tk x.2.2 1 = true) ∧ getT st.T 0 = .int n ∧ getT st.T 2 = .ref 0 0 0 ∧ getT st.T 3 = .prim (.int .u64 (x.1 : Nat)) ∧ getT st.T 4 = .frz (x.2.1.map digC) x.2.2 ∧ st.S = [⟨0, [.bool false, .frz [] .nilc]⟩]) (fun x => x.1) (fun x => zA n) (n.natAbs, [], .nilc) ?_ ?_
    case refine_2 => exact ⟨rfl, Nat.le_refl _, rfl, rfl, rfl, rfl, rfl, rfl, rfl⟩
    rintro ⟨u, out, c⟩ ⟨T, S', tk', n'⟩ ⟨hl, hu, he, hok, e0, e2, e3, e4, eS⟩ IH
    simp only at hu he hok e0 e2 e3 e4 eS
    subst eS
    obtain ⟨g, hg, hT⟩ := tab_of hl
    rw [hg] at e0 e2 e3 e4
    subst hT
    clear hg hl
    have hlen := of_len he hN
    have hr := rowsOk_dig out
    have hok' := okCap_new hok
    by_cases h0 : u = 0
    · have d1 : decide ((u : Int) > 0) = false := by simp; omega
      subst h0
      have hd := of_done he
      subst hd
      cases d2 : decide (n < 0) with
      | true =>
        simp (maxSteps := 1000000) +contextual (disch := first | with_reducible assumption | exact ⟨rfl⟩ | exact ⟨rfl, rfl⟩ | (refine _root_.id ?_; kernel_rfl) | omega) only [evs, ext_mv, nth, put, putT, getT, binInt, binStr, binBool, aUn, outA, resA, mapO, resA1, oneOf, w1, w2, w3, bots, cond_true, cond_false, if_true, if_false, ite_true, ite_false, reduceIte, reduceCtorEq, implies_true, Nat.reduceAdd, Nat.reduceSub, AV.int, AV.bool, AV.str, Nat.reduceBEq, Nat.reduceEqDiff, Nat.reduceMul, Nat.reduceLT, Nat.reduceLeDiff, Int.reduceNeg, BEq.rfl, beq_self_eq_true, tabl, cellsOf, fldA, ldA, stA, entAt, partA, takeN, over, leafOk, Value.oneCell', idxA, nilA, cellsEq, fillA, elemsA, pure1, pure2, reps, chkA, tys, Try.results31, KX_draw, KX_drawQ, KX_tail, lastO_one, lastO_more, dropL_one, dropL_more, callP_eq, callM_true, e0, e2, e3, e4, d1, d2]
        simp [zA, bigA, digA, d2]
      | false =>
        simp (maxSteps := 1000000) +contextual (disch := first | with_reducible assumption | exact ⟨rfl⟩ | exact ⟨rfl, rfl⟩ | (refine _root_.id ?_; kernel_rfl) | omega) only [evs, ext_mv, nth, put, putT, getT, binInt, binStr, binBool, aUn, outA, resA, mapO, resA1, oneOf, w1, w2, w3, bots, cond_true, cond_false, if_true, if_false, ite_true, ite_false, reduceIte, reduceCtorEq, implies_true, Nat.reduceAdd, Nat.reduceSub, AV.int, AV.bool, AV.str, Nat.reduceBEq, Nat.reduceEqDiff, Nat.reduceMul, Nat.reduceLT, Nat.reduceLeDiff, Int.reduceNeg, BEq.rfl, beq_self_eq_true, tabl, cellsOf, fldA, ldA, stA, entAt, partA, takeN, over, leafOk, Value.oneCell', idxA, nilA, cellsEq, fillA, elemsA, pure1, pure2, reps, chkA, tys, Try.results31, KX_draw, KX_drawQ, KX_tail, lastO_one, lastO_more, dropL_one, dropL_more, callP_eq, callM_true, e0, e2, e3, e4, d1, d2]
        simp [zA, bigA, digA, d2]
    · have d1 : decide ((u : Int) > 0) = true := by simp; omega
      have hz' : ¬ ((10000 : Int) = 0) := by omega
      have hn1 : (out.map digC).length + 1 ≤ 1048576 := by simp; omega
      have q1 : (u : Int).tmod 10000 = ((u % 10000 : Nat) : Int) := by
        rw [Int.tmod_eq_emod_of_nonneg (by omega)]; omega
      have q2 : IntKind.i64.wrap ((u % 10000 : Nat) : Int) = ((u % 10000 : Nat) : Int) := wrap_of (by unfold i64; omega)
      have q3 : IntKind.u64.wrap ((u : Int).tdiv 10000) = ((u / 10000 : Nat) : Int) := by
        rw [Int.tdiv_eq_ediv_of_nonneg (by omega), uwrap_of (by omega) (by omega)]; omega
      have hs := of_step he h0
      simp (maxSteps := 1000000) +contextual (disch := first | with_reducible assumption | exact ⟨rfl⟩ | exact ⟨rfl, rfl⟩ | (refine _root_.id ?_; kernel_rfl) | omega) only [evs, ext_mv, nth, put, putT, getT, binInt, binStr, binBool, aUn, outA, resA, mapO, resA1, oneOf, w1, w2, w3, bots, cond_true, cond_false, if_true, if_false, ite_true, ite_false, reduceIte, reduceCtorEq, implies_true, Nat.reduceAdd, Nat.reduceSub, AV.int, AV.bool, AV.str, Nat.reduceBEq, Nat.reduceEqDiff, Nat.reduceMul, Nat.reduceLT, Nat.reduceLeDiff, Int.reduceNeg, BEq.rfl, beq_self_eq_true, tabl, cellsOf, fldA, ldA, stA, entAt, partA, takeN, over, leafOk, Value.oneCell', idxA, nilA, cellsEq, fillA, elemsA, pure1, pure2, reps, chkA, tys, Try.results31, KX_draw, KX_drawQ, KX_tail, lastO_one, lastO_more, dropL_one, dropL_more, callP_eq, callM_true, e0, e2, e3, e4, d1, hz', q1, q2, q3, hr]
      exact IH (u / 10000, out ++ [((u % 10000 : Nat) : Int)], capNew tk' c 1) _ (by first | omega | (simp only; omega)) ⟨rfl, by first | omega | (dsimp only; omega), hs, hok', (by first | rfl | simp only [getT, List.map_append, List.map_cons, List.map_nil, digC, digA]), (by first | rfl | simp only [getT, List.map_append, List.map_cons, List.map_nil, digC, digA]), (by first | rfl | simp only [getT, List.map_append, List.map_cons, List.map_nil, digC, digA]), (by first | rfl | simp only [getT, List.map_append, List.map_cons, List.map_nil, digC, digA]), (by first | rfl | simp only [getT, List.map_append, List.map_cons, List.map_nil, digC, digA])⟩
  | false =>
    simp only [decide_eq_false_iff_not] at d0
    have d0' : decide (n < 0) = false := by simpa using d0
    have q0 : IntKind.u64.wrap n = ((n.natAbs : Nat) : Int) := by rw [uwrap_of (by omega) (by omega)]; omega
    simp (maxSteps := 1000000) +contextual (disch := first | with_reducible assumption | exact ⟨rfl⟩ | exact ⟨rfl, rfl⟩ | (refine _root_.id ?_; kernel_rfl) | omega) only [evs, ext_mv, nth, put, putT, getT, binInt, binStr, binBool, aUn, outA, resA, mapO, resA1, oneOf, w1, w2, w3, bots, cond_true, cond_false, if_true, if_false, ite_true, ite_false, reduceIte, reduceCtorEq, implies_true, Nat.reduceAdd, Nat.reduceSub, AV.int, AV.bool, AV.str, Nat.reduceBEq, Nat.reduceEqDiff, Nat.reduceMul, Nat.reduceLT, Nat.reduceLeDiff, Int.reduceNeg, BEq.rfl, beq_self_eq_true, tabl, cellsOf, fldA, ldA, stA, entAt, partA, takeN, over, leafOk, Value.oneCell', idxA, nilA, cellsEq, fillA, elemsA, pure1, pure2, reps, chkA, tys, Try.results31, KX_draw, KX_drawQ, KX_tail, lastO_one, lastO_more, dropL_one, dropL_more, callP_eq, callM_true, d0', q0]
    refine loop1 (fun x st => st.T.length = 25 ∧ (x.1 ≤ n.natAbs) ∧ (x.2.1 ++ dig x.1 = dig n.natAbs) ∧ (okCap st.tk x.2.2 1 = true) ∧ getT st.T 0 = .int n ∧ getT st.T 2 = .ref 0 0 0 ∧ getT st.T 3 = .prim (.int .u64 (x.1 : Nat)) ∧ getT st.T 4 = .frz (x.2.1.map digC) x.2.2 ∧ st.S = [⟨0, [.bool false, .frz [] .nilc]⟩]) (fun x => x.1) (fun x => zA n) (n.natAbs, [], .nilc) ?_ ?_
    case refine_2 => exact ⟨rfl, Nat.le_refl _, rfl, rfl, rfl, rfl, rfl, rfl, rfl⟩
    rintro ⟨u, out, c⟩ ⟨T, S', tk', n'⟩ ⟨hl, hu, he, hok, e0, e2, e3, e4, eS⟩ IH
    simp only at hu he hok e0 e2 e3 e4 eS
    subst eS
    obtain ⟨g, hg, hT⟩ := tab_of hl
    rw [hg] at e0 e2 e3 e4
    subst hT
    clear hg hl
    have hlen := of_len he hN
    have hr := rowsOk_dig out
    have hok' := okCap_new hok
    by_cases h0 : u = 0
    · have d1 : decide ((u : Int) > 0) = false := by simp; omega
      subst h0
      have hd := of_done he
      subst hd
      cases d2 : decide (n < 0) with
      | true =>
        simp (maxSteps := 1000000) +contextual (disch := first | with_reducible assumption | exact ⟨rfl⟩ | exact ⟨rfl, rfl⟩ | (refine _root_.id ?_; kernel_rfl) | omega) only [evs, ext_mv, nth, put, putT, getT, binInt, binStr, binBool, aUn, outA, resA, mapO, resA1, oneOf, w1, w2, w3, bots, cond_true, cond_false, if_true, if_false, ite_true, ite_false, reduceIte, reduceCtorEq, implies_true, Nat.reduceAdd, Nat.reduceSub, AV.int, AV.bool, AV.str, Nat.reduceBEq, Nat.reduceEqDiff, Nat.reduceMul, Nat.reduceLT, Nat.reduceLeDiff, Int.reduceNeg, BEq.rfl, beq_self_eq_true, tabl, cellsOf, fldA, ldA, stA, entAt, partA, takeN, over, leafOk, Value.oneCell', idxA, nilA, cellsEq, fillA, elemsA, pure1, pure2, reps, chkA, tys, Try.results31, KX_draw, KX_drawQ, KX_tail, lastO_one, lastO_more, dropL_one, dropL_more, callP_eq, callM_true, e0, e2, e3, e4, d1, d2]
        simp [zA, bigA, digA, d2]
      | false =>
        simp (maxSteps := 1000000) +contextual (disch := first | with_reducible assumption | exact ⟨rfl⟩ | exact ⟨rfl, rfl⟩ | (refine _root_.id ?_; kernel_rfl) | omega) only [evs, ext_mv, nth, put, putT, getT, binInt, binStr, binBool, aUn, outA, resA, mapO, resA1, oneOf, w1, w2, w3, bots, cond_true, cond_false, if_true, if_false, ite_true, ite_false, reduceIte, reduceCtorEq, implies_true, Nat.reduceAdd, Nat.reduceSub, AV.int, AV.bool, AV.str, Nat.reduceBEq, Nat.reduceEqDiff, Nat.reduceMul, Nat.reduceLT, Nat.reduceLeDiff, Int.reduceNeg, BEq.rfl, beq_self_eq_true, tabl, cellsOf, fldA, ldA, stA, entAt, partA, takeN, over, leafOk, Value.oneCell', idxA, nilA, cellsEq, fillA, elemsA, pure1, pure2, reps, chkA, tys, Try.results31, KX_draw, KX_drawQ, KX_tail, lastO_one, lastO_more, dropL_one, dropL_more, callP_eq, callM_true, e0, e2, e3, e4, d1, d2]
        simp [zA, bigA, digA, d2]
    · have d1 : decide ((u : Int) > 0) = true := by simp; omega
      have hz' : ¬ ((10000 : Int) = 0) := by omega
      have hn1 : (out.map digC).length + 1 ≤ 1048576 := by simp; omega
      have q1 : (u : Int).tmod 10000 = ((u % 10000 : Nat) : Int) := by
        rw [Int.tmod_eq_emod_of_nonneg (by omega)]; omega
      have q2 : IntKind.i64.wrap ((u % 10000 : Nat) : Int) = ((u % 10000 : Nat) : Int) := wrap_of (by unfold i64; omega)
      have q3 : IntKind.u64.wrap ((u : Int).tdiv 10000) = ((u / 10000 : Nat) : Int) := by
        rw [Int.tdiv_eq_ediv_of_nonneg (by omega), uwrap_of (by omega) (by omega)]; omega
      have hs := of_step he h0
      simp (maxSteps := 1000000) +contextual (disch := first | with_reducible assumption | exact ⟨rfl⟩ | exact ⟨rfl, rfl⟩ | (refine _root_.id ?_; kernel_rfl) | omega) only [evs, ext_mv, nth, put, putT, getT, binInt, binStr, binBool, aUn, outA, resA, mapO, resA1, oneOf, w1, w2, w3, bots, cond_true, cond_false, if_true, if_false, ite_true, ite_false, reduceIte, reduceCtorEq, implies_true, Nat.reduceAdd, Nat.reduceSub, AV.int, AV.bool, AV.str, Nat.reduceBEq, Nat.reduceEqDiff, Nat.reduceMul, Nat.reduceLT, Nat.reduceLeDiff, Int.reduceNeg, BEq.rfl, beq_self_eq_true, tabl, cellsOf, fldA, ldA, stA, entAt, partA, takeN, over, leafOk, Value.oneCell', idxA, nilA, cellsEq, fillA, elemsA, pure1, pure2, reps, chkA, tys, Try.results31, KX_draw, KX_drawQ, KX_tail, lastO_one, lastO_more, dropL_one, dropL_more, callP_eq, callM_true, e0, e2, e3, e4, d1, hz', q1, q2, q3, hr]
      exact IH (u / 10000, out ++ [((u % 10000 : Nat) : Int)], capNew tk' c 1) _ (by first | omega | (simp only; omega)) ⟨rfl, by first | omega | (dsimp only; omega), hs, hok', (by first | rfl | simp only [getT, List.map_append, List.map_cons, List.map_nil, digC, digA]), (by first | rfl | simp only [getT, List.map_append, List.map_cons, List.map_nil, digC, digA]), (by first | rfl | simp only [getT, List.map_append, List.map_cons, List.map_nil, digC, digA]), (by first | rfl | simp only [getT, List.map_append, List.map_cons, List.map_nil, digC, digA]), (by first | rfl | simp only [getT, List.map_append, List.map_cons, List.map_nil, digC, digA])⟩
set_option maxRecDepth 100000 in
theorem R02_Of (n : Int) (hn : i64 n) : cL Try.prog 50 [.int n] S tk k = some (zA n, S, tk, k) := by
  refine call_pure Try.func50 rfl rfl (by decide +kernel) (by decide +kernel) Try.ntmps50 rfl rfl _ _ _ (rfl) ?_; rw [RK_KX]
  have hn' := hn
  unfold i64 at hn'
  have hN : n.natAbs < 10000000000000000000 := by omega
  simp (maxSteps := 1000000) +contextual (disch := first | with_reducible assumption | exact ⟨rfl⟩ | exact ⟨rfl, rfl⟩ | (refine _root_.id ?_; kernel_rfl) | omega) only [evs, ext_mv, nth, put, putT, getT, binInt, binStr, binBool, aUn, outA, resA, mapO, resA1, oneOf, w1, w2, w3, bots, cond_true, cond_false, if_true, if_false, ite_true, ite_false, reduceIte, reduceCtorEq, implies_true, Nat.reduceAdd, Nat.reduceSub, AV.int, AV.bool, AV.str, Nat.reduceBEq, Nat.reduceEqDiff, Nat.reduceMul, Nat.reduceLT, Nat.reduceLeDiff, Int.reduceNeg, BEq.rfl, beq_self_eq_true, tabl, cellsOf, fldA, ldA, stA, entAt, partA, takeN, over, leafOk, Value.oneCell', idxA, nilA, cellsEq, fillA, elemsA, pure1, pure2, reps, chkA, tys, Try.results50, KX_draw, KX_drawQ, KX_tail, lastO_one, lastO_more, dropL_one, dropL_more, callP_eq, callM_true]
  refine loop1 (fun x st => st.T.length = 25 ∧ (i64 x.1) ∧ (x.2.1 ++ dig x.1.natAbs = dig n.natAbs) ∧ (okCap st.tk x.2.2 1 = true) ∧ getT st.T 0 = .int x.1 ∧ getT st.T 2 = .ref 0 0 0 ∧ getT st.T 3 = .frz (x.2.1.map digC) x.2.2 ∧ getT st.T 4 = .bool (decide (n < 0)) ∧ st.S = [⟨0, [.bool false, .frz [] .nilc]⟩]) (fun x => x.1.natAbs) (fun x => zA n) (n, [], .nilc) ?_ ?_
  case refine_2 => exact ⟨rfl, hn, rfl, rfl, rfl, rfl, rfl, rfl, rfl⟩
  rintro ⟨u, out, c⟩ ⟨T, S', tk', n'⟩ ⟨hl, hu, he, hok, e0, e2, e3, e4, eS⟩ IH
  simp only at hu he hok e0 e2 e3 e4 eS
  subst eS
  obtain ⟨g, hg, hT⟩ := tab_of hl
  rw [hg] at e0 e2 e3 e4
  subst hT
  clear hg hl
  have hlen := of_len he hN
  have hr := rowsOk_dig out
  have hok' := okCap_new hok
  unfold i64 at hu
  by_cases h0 : u = 0
  · have d1 : (u != 0) = false := by simp; omega
    subst h0
    have hd := of_done he
    subst hd
    simp (maxSteps := 1000000) +contextual (disch := first | with_reducible assumption | exact ⟨rfl⟩ | exact ⟨rfl, rfl⟩ | (refine _root_.id ?_; kernel_rfl) | omega) only [evs, ext_mv, nth, put, putT, getT, binInt, binStr, binBool, aUn, outA, resA, mapO, resA1, oneOf, w1, w2, w3, bots, cond_true, cond_false, if_true, if_false, ite_true, ite_false, reduceIte, reduceCtorEq, implies_true, Nat.reduceAdd, Nat.reduceSub, AV.int, AV.bool, AV.str, Nat.reduceBEq, Nat.reduceEqDiff, Nat.reduceMul, Nat.reduceLT, Nat.reduceLeDiff, Int.reduceNeg, BEq.rfl, beq_self_eq_true, tabl, cellsOf, fldA, ldA, stA, entAt, partA, takeN, over, leafOk, Value.oneCell', idxA, nilA, cellsEq, fillA, elemsA, pure1, pure2, reps, chkA, tys, Try.results50, KX_draw, KX_drawQ, KX_tail, lastO_one, lastO_more, dropL_one, dropL_more, callP_eq, callM_true, e0, e2, e3, e4, d1]
    simp [zA, bigA, digA]
  · have d1 : (u != 0) = true := by simp; omega
    have hz' : ¬ ((10000 : Int) = 0) := by omega
    have hn1 : (out.map digC).length + 1 ≤ 1048576 := by simp; omega
    have t1 := tmod_abs u
    have t2 := tdiv_abs u
    have q1 : IntKind.i64.wrap (u.tmod 10000) = u.tmod 10000 := wrap_of (by unfold i64; omega)
    have q3 : IntKind.i64.wrap (u.tdiv 10000) = u.tdiv 10000 := wrap_of (by unfold i64; omega)
    have hs := of_step he (u := u.natAbs) (by omega)
    cases d2 : decide (u.tmod 10000 < 0) with
    | true =>
      simp only [decide_eq_true_eq] at d2
      have d2' : decide (u.tmod 10000 < 0) = true := by simpa using d2
      have q4 : IntKind.i64.wrap (0 - u.tmod 10000) = ((u.natAbs % 10000 : Nat) : Int) := by rw [wrap_of (by unfold i64; omega)]; omega
      simp (maxSteps := 1000000) +contextual (disch := first | with_reducible assumption | exact ⟨rfl⟩ | exact ⟨rfl, rfl⟩ | (refine _root_.id ?_; kernel_rfl) | omega) only [evs, ext_mv, nth, put, putT, getT, binInt, binStr, binBool, aUn, outA, resA, mapO, resA1, oneOf, w1, w2, w3, bots, cond_true, cond_false, if_true, if_false, ite_true, ite_false, reduceIte, reduceCtorEq, implies_true, Nat.reduceAdd, Nat.reduceSub, AV.int, AV.bool, AV.str, Nat.reduceBEq, Nat.reduceEqDiff, Nat.reduceMul, Nat.reduceLT, Nat.reduceLeDiff, Int.reduceNeg, BEq.rfl, beq_self_eq_true, tabl, cellsOf, fldA, ldA, stA, entAt, partA, takeN, over, leafOk, Value.oneCell', idxA, nilA, cellsEq, fillA, elemsA, pure1, pure2, reps, chkA, tys, Try.results50, KX_draw, KX_drawQ, KX_tail, lastO_one, lastO_more, dropL_one, dropL_more, callP_eq, callM_true, e0, e2, e3, e4, d1, hz', q1, q3, d2', q4, hr]
      exact IH (u.tdiv 10000, out ++ [((u.natAbs % 10000 : Nat) : Int)], capNew tk' c 1) _ (by first | omega | (simp only; omega)) ⟨rfl, by unfold i64; omega, by rw [t2]; exact hs, hok', (by first | rfl | simp only [getT, List.map_append, List.map_cons, List.map_nil, digC, digA]), (by first | rfl | simp only [getT, List.map_append, List.map_cons, List.map_nil, digC, digA]), (by first | rfl | simp only [getT, List.map_append, List.map_cons, List.map_nil, digC, digA]), (by first | rfl | simp only [getT, List.map_append, List.map_cons, List.map_nil, digC, digA]), (by first | rfl | simp only [getT, List.map_append, List.map_cons, List.map_nil, digC, digA])⟩
    | false =>
      simp only [decide_eq_false_iff_not] at d2
      have d2' : decide (u.tmod 10000 < 0) = false := by simpa using d2
      have q4 : u.tmod 10000 = ((u.natAbs % 10000 : Nat) : Int) := by omega
      rw [q4] at d2' q1
      simp (maxSteps := 1000000) +contextual (disch := first | with_reducible assumption | exact ⟨rfl⟩ | exact ⟨rfl, rfl⟩ | (refine _root_.id ?_; kernel_rfl) | omega) only [evs, ext_mv, nth, put, putT, getT, binInt, binStr, binBool, aUn, outA, resA, mapO, resA1, oneOf, w1, w2, w3, bots, cond_true, cond_false, if_true, if_false, ite_true, ite_false, reduceIte, reduceCtorEq, implies_true, Nat.reduceAdd, Nat.reduceSub, AV.int, AV.bool, AV.str, Nat.reduceBEq, Nat.reduceEqDiff, Nat.reduceMul, Nat.reduceLT, Nat.reduceLeDiff, Int.reduceNeg, BEq.rfl, beq_self_eq_true, tabl, cellsOf, fldA, ldA, stA, entAt, partA, takeN, over, leafOk, Value.oneCell', idxA, nilA, cellsEq, fillA, elemsA, pure1, pure2, reps, chkA, tys, Try.results50, KX_draw, KX_drawQ, KX_tail, lastO_one, lastO_more, dropL_one, dropL_more, callP_eq, callM_true, e0, e2, e3, e4, d1, hz', q4, q1, q3, d2', hr]
      exact IH (u.tdiv 10000, out ++ [((u.natAbs % 10000 : Nat) : Int)], capNew tk' c 1) _ (by first | omega | (simp only; omega)) ⟨rfl, by unfold i64; omega, by rw [t2]; exact hs, hok', (by first | rfl | simp only [getT, List.map_append, List.map_cons, List.map_nil, digC, digA]), (by first | rfl | simp only [getT, List.map_append, List.map_cons, List.map_nil, digC, digA]), (by first | rfl | simp only [getT, List.map_append, List.map_cons, List.map_nil, digC, digA]), (by first | rfl | simp only [getT, List.map_append, List.map_cons, List.map_nil, digC, digA]), (by first | rfl | simp only [getT, List.map_append, List.map_cons, List.map_nil, digC, digA])⟩
end
end Go.Proofs.Ytmgbmbganlndkaa
/-
  A form's coefficient at a name; a sum with a product: of the reference.
-/



namespace Go.Proofs.Ytmgbmbganlndkaa
open Go

/-- the coefficient of a name in a form: the first one -/
def coefF : List (ByteArray × Int) → ByteArray → Int
  | [], _ => 0
  | c :: cs, s => if sEq c.1 s = true then c.2 else coefF cs s
theorem coef_i64 {cs : List (ByteArray × Int)} (h : ∀ c ∈ cs, i64 c.2) (s : ByteArray) : i64 (coefF cs s) := by
  induction cs with
  | nil => unfold coefF i64; omega
  | cons c cs ih =>
    unfold coefF
    split
    · exact h c (by simp)
    · exact ih fun x hx => h x (by simp [hx])
theorem sgnZ_ok {z : Int} (h : okZ z = true) : sgnZ z = .tup [zA z, .bool true] := by rw [sgnZ, fit_of h, h]
theorem okZ_i64 {n : Int} (h : i64 n) : okZ n = true := okZ_of (m := 5) (by unfold i64 at h; omega) (by decide)
section
variable (S : List Ent) (tk : List Nat) (k : Nat)
theorem R14_coefficient (cs : List (ByteArray × Int)) (n : Int) (s : ByteArray) (hlen : cs.length ≤ 1048576) : cL Try.prog 38 [linA cs n, .prim (.string s)] S tk k = some (.int (coefF cs s), S, tk, k) := by
  refine call_pure Try.func38 rfl rfl (by decide +kernel) (by decide +kernel) Try.ntmps38 rfl rfl _ _ _ rfl ?_; rw [RK_KX]
  simp (maxSteps := 1000000) +contextual (disch := first | with_reducible assumption | exact ⟨rfl⟩ | exact ⟨rfl, rfl⟩ | (refine _root_.id ?_; kernel_rfl) | omega) only [evs, ext_mv, nth, put, putT, getT, binInt, binStr, binBool, aUn, outA, resA, mapO, resA1, oneOf, w1, w2, w3, bots, cond_true, cond_false, if_true, if_false, ite_true, ite_false, reduceIte, reduceCtorEq, implies_true, Nat.reduceAdd, Nat.reduceSub, AV.int, AV.bool, AV.str, Nat.reduceBEq, Nat.reduceEqDiff, Nat.reduceMul, Nat.reduceLT, Nat.reduceLeDiff, Int.reduceNeg, BEq.rfl, beq_self_eq_true, tabl, cellsOf, fldA, ldA, stA, entAt, partA, takeN, over, leafOk, Value.oneCell', idxA, nilA, cellsEq, fillA, elemsA, pure1, pure2, reps, chkA, tys, Try.results38, KX_draw, KX_drawQ, KX_tail, lastO_one, lastO_more, dropL_one, dropL_more, callP_eq, callM_true, linA, coefsA]
  refine loop1 (fun x st => st.T.length = 27 ∧ (x ≤ cs.length) ∧ (coefF cs s = coefF (cs.drop x) s) ∧ getT st.T 1 = .prim (.string s) ∧ getT st.T 2 = .ref 0 0 0 ∧ getT st.T 5 = .int (x : Nat) ∧ st.S = [⟨0, [coefsA cs, .int n]⟩]) (fun x => cs.length - x) (fun x => .int (coefF cs s)) (0) ?_ ?_
  case refine_2 => exact ⟨rfl, Nat.zero_le _, rfl, rfl, rfl, rfl, rfl⟩
  rintro i ⟨T, S', tk', n'⟩ ⟨hl, hi, hE, e1, e2, e5, eS⟩ IH
  subst eS
  obtain ⟨g, hg, hT⟩ := tab_of hl
  rw [hg] at e1 e2 e5
  subst hT
  clear hg hl
  have hiw := wrap_add (i := i) (by omega)
  by_cases hlt : i < cs.length
  · have d1 : decide ((i : Int) < (cs.length : Int)) = true := by simpa using hlt
    obtain ⟨c, hc⟩ := nth_some hlt
    have hc' := nth_coef hc
    simp only [coefC] at hc'
    rw [nth_drop hc, coefF] at hE
    cases h0 : sEq c.1 s with
    | true =>
      rw [h0, if_pos rfl] at hE
      simp (maxSteps := 1000000) +contextual (disch := first | with_reducible assumption | exact ⟨rfl⟩ | exact ⟨rfl, rfl⟩ | (refine _root_.id ?_; kernel_rfl) | omega) only [evs, ext_mv, nth, put, putT, getT, binInt, binStr, binBool, aUn, outA, resA, mapO, resA1, oneOf, w1, w2, w3, bots, cond_true, cond_false, if_true, if_false, ite_true, ite_false, reduceIte, reduceCtorEq, implies_true, Nat.reduceAdd, Nat.reduceSub, AV.int, AV.bool, AV.str, Nat.reduceBEq, Nat.reduceEqDiff, Nat.reduceMul, Nat.reduceLT, Nat.reduceLeDiff, Int.reduceNeg, BEq.rfl, beq_self_eq_true, tabl, cellsOf, fldA, ldA, stA, entAt, partA, takeN, over, leafOk, Value.oneCell', idxA, nilA, cellsEq, fillA, elemsA, pure1, pure2, reps, chkA, tys, Try.results38, KX_draw, KX_drawQ, KX_tail, lastO_one, lastO_more, dropL_one, dropL_more, callP_eq, callM_true, e1, e2, e5, d1, coefsA, hc', hiw, h0]
      rw [hE]
    | false =>
      rw [h0, if_neg (by simp)] at hE
      simp (maxSteps := 1000000) +contextual (disch := first | with_reducible assumption | exact ⟨rfl⟩ | exact ⟨rfl, rfl⟩ | (refine _root_.id ?_; kernel_rfl) | omega) only [evs, ext_mv, nth, put, putT, getT, binInt, binStr, binBool, aUn, outA, resA, mapO, resA1, oneOf, w1, w2, w3, bots, cond_true, cond_false, if_true, if_false, ite_true, ite_false, reduceIte, reduceCtorEq, implies_true, Nat.reduceAdd, Nat.reduceSub, AV.int, AV.bool, AV.str, Nat.reduceBEq, Nat.reduceEqDiff, Nat.reduceMul, Nat.reduceLT, Nat.reduceLeDiff, Int.reduceNeg, BEq.rfl, beq_self_eq_true, tabl, cellsOf, fldA, ldA, stA, entAt, partA, takeN, over, leafOk, Value.oneCell', idxA, nilA, cellsEq, fillA, elemsA, pure1, pure2, reps, chkA, tys, Try.results38, KX_draw, KX_drawQ, KX_tail, lastO_one, lastO_more, dropL_one, dropL_more, callP_eq, callM_true, e1, e2, e5, d1, coefsA, hc', hiw, h0]
      exact IH (i + 1) _ (by first | omega | (simp only; omega)) ⟨rfl, by first | omega | (dsimp only; omega), hE, (by first | rfl | simp only [getT, List.map_append, List.map_cons, List.map_nil, strC, strsA, and_self]), (by first | rfl | simp only [getT, List.map_append, List.map_cons, List.map_nil, strC, strsA, and_self]), (by first | rfl | simp only [getT, List.map_append, List.map_cons, List.map_nil, strC, strsA, and_self]), (by first | rfl | simp only [getT, List.map_append, List.map_cons, List.map_nil, strC, strsA, and_self])⟩
  · have d1 : decide ((i : Int) < (cs.length : Int)) = false := by simpa using hlt
    have hie : i = cs.length := by omega
    subst hie
    rw [List.drop_length] at hE
    simp (maxSteps := 1000000) +contextual (disch := first | with_reducible assumption | exact ⟨rfl⟩ | exact ⟨rfl, rfl⟩ | (refine _root_.id ?_; kernel_rfl) | omega) only [evs, ext_mv, nth, put, putT, getT, binInt, binStr, binBool, aUn, outA, resA, mapO, resA1, oneOf, w1, w2, w3, bots, cond_true, cond_false, if_true, if_false, ite_true, ite_false, reduceIte, reduceCtorEq, implies_true, Nat.reduceAdd, Nat.reduceSub, AV.int, AV.bool, AV.str, Nat.reduceBEq, Nat.reduceEqDiff, Nat.reduceMul, Nat.reduceLT, Nat.reduceLeDiff, Int.reduceNeg, BEq.rfl, beq_self_eq_true, tabl, cellsOf, fldA, ldA, stA, entAt, partA, takeN, over, leafOk, Value.oneCell', idxA, nilA, cellsEq, fillA, elemsA, pure1, pure2, reps, chkA, tys, Try.results38, KX_draw, KX_drawQ, KX_tail, lastO_one, lastO_more, dropL_one, dropL_more, callP_eq, callM_true, e1, e2, e5, d1, coefsA]
    rw [hE]; rfl
theorem R02_Mul' (p q : Bool) (l r : List Int) (hl : l.length ≤ 1000000) (hr : r.length ≤ 1000000) : cL Try.prog 22 [bigA p l, bigA q r] S tk k = some (sgnZ (V p l * V q r), S, tk, k) := by
  rw [R02_Mul _ _ _ p q l r hl hr, sgn_sg, mul_sg, ← V_sg, ← V_sg]
theorem R14_plus (p q : Bool) (l r : List Int) (n : Int) (hl : l.length ≤ 1000000) (hr : r.length ≤ 1000000) (hn : i64 n) (h1 : okZ (V q r * n) = true) (h2 : okZ (V p l + V q r * n) = true) : cL Try.prog 37 [bigA p l, bigA q r, .int n] S tk k = some (.tup [zA (V p l + V q r * n), .bool true], S, tk, k) := by
  have hO := fun S tk k => R02_Of S tk k n hn
  have hz := okZ_i64 hn
  have hM := fun S tk k => R02_Mul' S tk k q (decide (n < 0)) r (dig n.natAbs) hr (by have := zA_len hz; omega)
  have hA := fun S tk k => R02_Add S tk k p (decide (V q r * n < 0)) l (dig (V q r * n).natAbs) hl (by have := zA_len h1; omega)
  rw [V_zA h1, sgnZ_ok h2] at hA
  rw [V_zA hz, sgnZ_ok h1] at hM
  simp only [zA, bigA, digA] at hO hM hA ⊢
  refine call_pure Try.func37 rfl rfl (by decide +kernel) (by decide +kernel) Try.ntmps37 rfl rfl _ _ _ rfl ?_; rw [RK_KX]
  simp (maxSteps := 1000000) +contextual (disch := first | with_reducible assumption | exact ⟨rfl⟩ | exact ⟨rfl, rfl⟩ | (refine _root_.id ?_; kernel_rfl) | omega) only [evs, ext_mv, nth, put, putT, getT, binInt, binStr, binBool, aUn, outA, resA, mapO, resA1, oneOf, w1, w2, w3, bots, cond_true, cond_false, if_true, if_false, ite_true, ite_false, reduceIte, reduceCtorEq, implies_true, Nat.reduceAdd, Nat.reduceSub, AV.int, AV.bool, AV.str, Nat.reduceBEq, Nat.reduceEqDiff, Nat.reduceMul, Nat.reduceLT, Nat.reduceLeDiff, Int.reduceNeg, BEq.rfl, beq_self_eq_true, tabl, cellsOf, fldA, ldA, stA, entAt, partA, takeN, over, leafOk, Value.oneCell', idxA, nilA, cellsEq, fillA, elemsA, pure1, pure2, reps, chkA, tys, Try.results37, KX_draw, KX_drawQ, KX_tail, lastO_one, lastO_more, dropL_one, dropL_more, callP_eq, callM_true, hO, hM, hA, digA, bigA, zA]
end
end Go.Proofs.Ytmgbmbganlndkaa
/-
  Lists of numbers: those of an argument, and a function's own, each in two cells.
-/

namespace Go.Proofs.Ytmgbmbganlndkaa
open Go

abbrev BigT := Bool × List Int
def bigC (b : BigT) : List AV := [.prim (.bool b.1), .frz (b.2.map digC) .unk]
def bigsA (l : List BigT) : AV := .frz (l.map bigC) .unk
def vB (b : BigT) : Int := V b.1 b.2
def zB (z : Int) : BigT := (decide (z < 0), dig z.natAbs)
theorem zA_zB (z : Int) : zA z = .agg (bigC (zB z)) := rfl
theorem vB_zB {z : Int} (h : okZ z = true) : vB (zB z) = z := V_zA h
theorem nth_big {l : List BigT} {i : Nat} {b : BigT} (h : nth l i = some b) : nth (l.map bigC) i = some (bigC b) := by rw [nth_map, h]; rfl
/-- a number of one's own; is its list still nil? -/
def ownCap (b : Bool) : Cap := if b = true then .nilc else .unk
def ownC (e : Bool × Int) : List AV := [.prim (.bool (decide (e.2 < 0))), .frz ((dig e.2.natAbs).map digC) (ownCap e.1)]
def ownS : List (Bool × Int) → List AV
  | [] => []
  | e :: l => .prim (.bool (decide (e.2 < 0))) :: .frz ((dig e.2.natAbs).map digC) (ownCap e.1) :: ownS l
theorem own_take : ∀ {l : List (Bool × Int)} {k : Nat} {e : Bool × Int}, nth l k = some e → takeN 2 ((ownS l).drop (k * 2)) = some (ownC e)
  | a :: l, 0, e, h => by simp only [nth, Option.some.injEq] at h; subst h; rfl
  | a :: l, k + 1, e, h => by
    have := own_take (l := l) (k := k) h
    rw [show (k + 1) * 2 = k * 2 + 1 + 1 by omega]
    simpa only [ownS, List.drop_succ_cons] using this
  | [], _, _, h => by simp [nth] at h
theorem own_over : ∀ {l : List (Bool × Int)} {k : Nat} {e : Bool × Int} (z : Bool × Int), nth l k = some e → over (ownS l) (k * 2) (ownC z) = some (ownS (l.set k z))
  | a :: l, 0, e, z, h => by cases ownS l <;> simp [ownS, ownC, over]
  | a :: l, k + 1, e, z, h => by
    have := own_over (l := l) (k := k) z h
    rw [show (k + 1) * 2 = k * 2 + 1 + 1 by omega]
    simp only [ownS, over, this, Option.map_some, List.set_cons_succ]
  | [], _, _, _, h => by simp [nth] at h
theorem own_rows : ∀ {n : Nat} {l : List (Bool × Int)}, n ≤ l.length → rowsAt 2 n (ownS l) = some ((l.take n).map ownC)
  | 0, _, _ => by simp [rowsAt]
  | n + 1, [], h => by simp at h
  | n + 1, x :: l, h => by
    simp only [ownS, rowsAt, takeN, Option.map_some, List.drop_succ_cons, List.drop_zero, own_rows (n := n) (l := l) (by simpa using h), List.take_succ_cons, List.map_cons]
    rfl
theorem own_fz (l : List (Bool × Int)) : rowsFz (some (l.map ownC)) = bigsA (l.map fun e => zB e.2) := by
  unfold rowsFz bigsA
  simp only
  rw [if_pos]
  · rw [List.map_map, List.map_map]; rfl
  · rw [List.all_map, List.all_eq_true]
    intro e _
    rfl
theorem own_zeros : ∀ n : Nat, (List.replicate n [AV.prim (.bool false), .frz [] .nilc]).flatten = ownS (List.replicate n (true, 0))
  | 0 => rfl
  | n + 1 => by
    rw [List.replicate_succ, List.replicate_succ, List.flatten_cons, own_zeros n]
    simp [ownS, dig_zero, ownCap]
theorem mk_big {P : Program} {t : TypeId} {n : Nat} (hz : (elemOf P t).bind (zeroOf P) = some [.prim (.bool false), .frz [] .nilc]) (hs : (elemOf P t).bind (szOf P) = some 2) (hb : (elemOf P t).bind (bytesOf P) = some 32) (hn : n ≤ 1048576) :
    mkA P t (.prim (.int .i64 (n : Int))) (.prim (.int .i64 (n : Int))) = some (n, 2, ownS (List.replicate n (true, 0))) := by
  unfold mkA
  rw [hz, hs, hb, intN_cast]
  simp only [mkB]
  rw [if_pos ⟨Nat.le_refl _, hn, by omega, rfl⟩]
  rw [own_zeros]
/-- the sum of the first rows' values times the numbers -/
def dotN (f : RowT → Int) (l : List RowT) (ms : List BigT) : Nat → Int
  | 0 => 0
  | i + 1 => dotN f l ms i + (match nth l i, nth ms i with | some r, some m => vB m * f r | _, _ => 0)
theorem dot_succ {f : RowT → Int} {l : List RowT} {ms : List BigT} {i : Nat} {r : RowT} {m : BigT} (h1 : nth l i = some r) (h2 : nth ms i = some m) : dotN f l ms (i + 1) = dotN f l ms i + vB m * f r := by
  rw [dotN, h1, h2]
theorem dot_lt {f : RowT → Int} {l : List RowT} {ms : List BigT} (hf : ∀ r ∈ l, i64 (f r)) (hm : ∀ m ∈ ms, m.2.length ≤ 100) : ∀ i, (dotN f l ms i).natAbs ≤ i * 10000 ^ 105
  | 0 => by simp [dotN]
  | i + 1 => by
    have ih := dot_lt hf hm i
    rw [dotN]
    cases h1 : nth l i with
    | none => simp only [Int.add_zero]; exact Nat.le_trans ih (Nat.mul_le_mul_right _ (by omega))
    | some r =>
      cases h2 : nth ms i with
      | none => simp only [Int.add_zero]; exact Nat.le_trans ih (Nat.mul_le_mul_right _ (by omega))
      | some m =>
        have a := V_small m.1 m.2 (hm m (mem_nth h2))
        have b : (f r).natAbs < 10000 ^ 5 := by have := hf r (mem_nth h1); unfold i64 at this; omega
        have c := lt_mul a b
        simp only [vB] at c ⊢
        generalize V m.1 m.2 * f r = t at *
        rw [Nat.succ_mul]
        generalize 10000 ^ 105 = u at *
        omega
theorem ok_le {z : Int} {i : Nat} (hi : i ≤ 9999) (h : z.natAbs ≤ i * 10000 ^ 105) : okZ z = true := by
  refine okZ_of (m := 106) ?_ (by decide)
  rw [Nat.pow_succ]
  have : i * 10000 ^ 105 ≤ 9999 * 10000 ^ 105 := Nat.mul_le_mul_right _ hi
  have h3 : 0 < 10000 ^ 105 := Nat.pow_pos (by decide)
  generalize 10000 ^ 105 = u at *
  omega
theorem mul_ok {m : BigT} (hm : m.2.length ≤ 100) {n : Int} (hn : i64 n) : okZ (V m.1 m.2 * n) = true := by
  have a := V_small m.1 m.2 hm
  have b : n.natAbs < 10000 ^ 5 := by unfold i64 at hn; omega
  exact okZ_of (lt_mul a b) (by decide)
/-- the sums while row i is added: the first k names are done -/
def outL (g : ByteArray → Nat → Int) (i : Nat) : Nat → List ByteArray → List (Bool × Int)
  | _, [] => []
  | 0, v :: vs => (i == 0, g v i) :: outL g i 0 vs
  | k + 1, v :: vs => (false, g v (i + 1)) :: outL g i k vs
theorem outL_zero {g : ByteArray → Nat → Int} (h : ∀ v, g v 0 = 0) : ∀ vs : List ByteArray, outL g 0 0 vs = List.replicate vs.length (true, 0)
  | [] => rfl
  | v :: vs => by rw [outL, outL_zero h vs, h]; rfl
theorem outL_next (g : ByteArray → Nat → Int) (i : Nat) : ∀ vs : List ByteArray, outL g i vs.length vs = outL g (i + 1) 0 vs
  | [] => rfl
  | v :: vs => by
    show (false, g v (i + 1)) :: outL g i vs.length vs = (i + 1 == 0, g v (i + 1)) :: outL g (i + 1) 0 vs
    rw [outL_next g i vs]; simp
theorem outL_len (g : ByteArray → Nat → Int) (i : Nat) : ∀ (k : Nat) (vs : List ByteArray), (outL g i k vs).length = vs.length
  | 0, [] => rfl
  | _ + 1, [] => rfl
  | 0, v :: vs => by rw [outL, List.length_cons, outL_len g i 0 vs]; rfl
  | k + 1, v :: vs => by rw [outL, List.length_cons, outL_len g i k vs]; rfl
theorem outL_nth (g : ByteArray → Nat → Int) (i : Nat) : ∀ {k : Nat} {vs : List ByteArray} {v : ByteArray}, nth vs k = some v → nth (outL g i k vs) k = some (i == 0, g v i)
  | 0, a :: vs, v, h => by simp only [nth, Option.some.injEq] at h; subst h; rfl
  | k + 1, a :: vs, v, h => by rw [outL]; exact outL_nth g i (k := k) (vs := vs) h
  | _, [], _, h => by simp [nth] at h
theorem outL_set (g : ByteArray → Nat → Int) (i : Nat) : ∀ {k : Nat} {vs : List ByteArray} {v : ByteArray}, nth vs k = some v → (outL g i k vs).set k (false, g v (i + 1)) = outL g i (k + 1) vs
  | 0, a :: vs, v, h => by simp only [nth, Option.some.injEq] at h; subst h; rfl
  | k + 1, a :: vs, v, h => by rw [outL, outL, List.set_cons_succ, outL_set g i (k := k) (vs := vs) h]
  | _, [], _, h => by simp [nth] at h
theorem outL_out (g : ByteArray → Nat → Int) (i : Nat) : ∀ vs : List ByteArray, (outL g i 0 vs).map (fun e => zB e.2) = vs.map fun v => zB (g v i)
  | [] => rfl
  | v :: vs => by rw [outL, List.map_cons, outL_out g i vs, List.map_cons]
/-- which rows and numbers are combined -/
def signBad : List RowT → List BigT → Bool
  | r :: l, m :: ms => (!r.2.2 && m.1) || signBad l ms
  | _, _ => false
def allValid (ms : List BigT) : Bool := ms.all fun m => validF m.1 m.2
def combE (l : List RowT) (ms : List BigT) : Int := if l.length ≠ ms.length then 6 else if allValid ms = false then 6 else if signBad l ms = true then 2 else sysE l
def sumF (l : List RowT) (ms : List BigT) (v : ByteArray) : Int := dotN (fun r => coefF r.1 v) l ms l.length
def constF (l : List RowT) (ms : List BigT) : Int := dotN (fun r => r.2.1) l ms l.length
def combA (l : List RowT) (ms : List BigT) : AV :=
  if combE l ms = 0 then .tup [bigsA ((varsF l).map fun v => zB (sumF l ms v)), zA (constF l ms), .int 0] else .tup [bigsA [], zA 0, .int (combE l ms)]
theorem comb_pure (l : List RowT) (ms : List BigT) : pure3 (combA l ms) = true := by unfold combA; split <;> rfl
theorem chk_in : ∀ {n : Int} {p : Option ByteArray} {cs : List (ByteArray × Int)}, chkFrom n p cs = 0 → inB n = true ∧ ∀ c ∈ cs, inB c.2 = true
  | n, p, [], h => by
    unfold chkFrom at h
    split at h
    · rename_i h1; exact ⟨h1, fun c hc => by simp at hc⟩
    · cases h
  | n, p, c :: cs, h => by
    unfold chkFrom at h
    split at h
    · cases h
    · split at h
      · cases h
      · rename_i h1
        split at h
        · cases h
        · obtain ⟨a, b⟩ := chk_in h
          refine ⟨a, fun x hx => ?_⟩
          rcases List.mem_cons.1 hx with rfl | hx
          · simp at h1; exact h1.2
          · exact b x hx
theorem inB_i64 {n : Int} (h : inB n = true) : i64 n := by unfold inB at h; simp at h; unfold i64; omega
theorem first_in : ∀ {l : List RowT}, firstE l = 0 → ∀ r ∈ l, i64 r.2.1 ∧ ∀ c ∈ r.1, i64 c.2
  | [], _ => fun r hr => by simp at hr
  | r :: l, h => by
    unfold firstE at h
    by_cases h0 : checkF r.1 r.2.1 = 0
    · rw [h0] at h
      simp only [bne_self_eq_false, Bool.false_eq_true, if_false] at h
      intro x hx
      rcases List.mem_cons.1 hx with rfl | hx
      · unfold checkF at h0
        split at h0
        · cases h0
        · obtain ⟨a, b⟩ := chk_in h0
          exact ⟨inB_i64 a, fun c hc => inB_i64 (b c hc)⟩
      · exact first_in h x hx
    · rw [if_pos (by simpa using h0)] at h; exact absurd h h0
end Go.Proofs.Ytmgbmbganlndkaa
