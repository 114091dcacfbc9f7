/-
  Texts laid together: B7, B8, B10, B12, B13, B14, B15.
-/
import Derived.Test.YtmgbmbganlndkaaZFScales12
/-
  Products as the document says them.
-/

namespace Go.Proofs.Ytmgbmbganlndkaa
open Go

theorem trimL_dig (n : Nat) : trimL (dig n) = dig n := by rw [trim_dig (okD_dig n), val_dig]; rfl
def sB (l : List Int) : Bool := !decide (200 < l.length)
def sL (l : List Int) : List Int := if 200 < l.length then [] else l
def sN (neg : Bool) (l : List Int) : Bool := if 200 < l.length then false else neg && !decide (l = [])
theorem sgnF_eq (neg : Bool) (l : List Int) : sgnF neg l = .tup [bigA (sN neg l) (sL l), .bool (sB l)] := by
  unfold sgnF sN sL sB
  by_cases h : 200 < l.length <;> simp [h]
theorem sL_len (l : List Int) : (sL l).length ≤ 200 := by
  unfold sL; split
  · simp
  · omega
theorem sgnF_nil (p q : Bool) : sgnF p [] = sgnF q [] := by simp [sgnF]
theorem V_bad {p : Bool} {l : List Int} (h : validF p l = false) : V p l = 0 := by simp [V, h]
theorem mul_signs (p q : Bool) (l r : List Int) : sgnF ((validF p l && p) != (validF q r && q)) (dig ((V p l).natAbs * (V q r).natAbs)) = sgnF (p != q) (dig ((V p l).natAbs * (V q r).natAbs)) := by
  cases h1 : validF p l with
  | false => rw [V_bad h1]; simp only [Int.natAbs_zero, Nat.zero_mul, dig_zero]; exact sgnF_nil _ _
  | true =>
    cases h2 : validF q r with
    | false => rw [V_bad h2]; simp only [Int.natAbs_zero, Nat.mul_zero, dig_zero]; exact sgnF_nil _ _
    | true => simp

section
variable (S : List Ent) (tk : List Nat) (k : Nat)
theorem dig_mul_len {X Y m n : Nat} (ha : (dig X).length ≤ m) (hb : (dig Y).length ≤ n) : (dig (X * Y)).length ≤ m + n := by
  rw [dig_len] at ha hb ⊢
  rw [Nat.pow_add]
  exact Nat.mul_lt_mul'' ha hb
theorem R02_Mul (p q : Bool) (l r : List Int) (hl : l.length ≤ 1000000) (hr : r.length ≤ 1000000) : cL Try.prog 22 [bigA p l, bigA q r] S tk k = some (sgnF (p != q) (dig ((V p l).natAbs * (V q r).natAbs)), S, tk, k) := by
  have hD1 := fun S tk k => R02_digits S tk k p l .unk hl
  have hD2 := fun S tk k => R02_digits S tk k q r .unk hr
  have hN1 := fun S tk k => R02_negative S tk k p l .unk hl
  have hN2 := fun S tk k => R02_negative S tk k q r .unk hr
  have ha := V_len p l
  have hb := V_len q r
  have hT := fun S tk k => R02_times S tk k (V p l).natAbs (V q r).natAbs (by omega) (by omega)
  have hM := fun S tk k => R02_number S tk k ((validF p l && p) != (validF q r && q)) (dig ((V p l).natAbs * (V q r).natAbs)) .unk (by have := dig_mul_len ha hb; omega)
  rw [trimL_dig, mul_signs] at hM
  have hp := sgn_pure (p != q) (dig ((V p l).natAbs * (V q r).natAbs))
  rw [sgnF_eq] at hM hp ⊢
  simp only [digA, bigA, bne] at hD1 hD2 hN1 hN2 hT hM hp
  refine call_pure Try.func22 rfl rfl (by decide +kernel) (by decide +kernel) Try.ntmps22 rfl rfl _ _ _ (hp) ?_; rw [RK_KX]
  simp (maxSteps := 1000000) +contextual (disch := first | with_reducible assumption | exact ⟨rfl⟩ | exact ⟨rfl, rfl⟩ | (refine _root_.id ?_; kernel_rfl) | omega) only [evs, ext_mv, nth, put, putT, getT, binInt, binStr, binBool, aUn, outA, resA, mapO, resA1, oneOf, w1, w2, w3, bots, cond_true, cond_false, if_true, if_false, ite_true, ite_false, reduceIte, reduceCtorEq, implies_true, Nat.reduceAdd, Nat.reduceSub, AV.int, AV.bool, AV.str, Nat.reduceBEq, Nat.reduceEqDiff, Nat.reduceMul, Nat.reduceLT, Nat.reduceLeDiff, Int.reduceNeg, BEq.rfl, beq_self_eq_true, tabl, cellsOf, fldA, ldA, stA, entAt, partA, takeN, over, leafOk, Value.oneCell', idxA, nilA, cellsEq, fillA, elemsA, pure1, pure2, reps, chkA, tys, Try.results22, KX_draw, KX_drawQ, KX_tail, lastO_one, lastO_more, dropL_one, dropL_more, callP_eq, callM_true, bigA, digA, hD1, hD2, hN1, hN2, hT, hM, bne]
end
end Go.Proofs.Ytmgbmbganlndkaa
/-
  Sums, differences, opposites and the order of numbers.
-/

namespace Go.Proofs.Ytmgbmbganlndkaa
open Go

def sg (p : Bool) (n : Nat) : Int := if p = true then -(n : Int) else n
def okZ (z : Int) : Bool := !decide (200 < (dig z.natAbs).length)
def fitZ (z : Int) : Int := if okZ z = true then z else 0
/-- a number, and whether it is not too long -/
def sgnZ (z : Int) : AV := .tup [zA (fitZ z), .bool (okZ z)]
theorem zA_zero : zA 0 = bigA false [] := rfl
theorem sgZ_pure (z : Int) : pure3 (sgnZ z) = true := rfl
theorem sg_abs (p : Bool) (n : Nat) : (sg p n).natAbs = n := by unfold sg; split <;> omega
theorem sgn_sg (p : Bool) (n : Nat) : sgnF p (dig n) = sgnZ (sg p n) := by
  have ha := sg_abs p n
  unfold sgnF sgnZ fitZ okZ zA
  rw [ha]
  by_cases h : 200 < (dig n).length
  · simp [h, dig_zero]
  · have e : decide (sg p n < 0) = (p && !decide (dig n = [])) := by
      have h1 : (dig n = []) ↔ n = 0 := dig_nil
      cases p with
      | true => simp only [sg, if_true, Bool.true_and]; by_cases h0 : n = 0
                · subst h0; simp [dig_zero]
                · have h2 : ¬ dig n = [] := fun h => h0 (h1.1 h)
                  simp [h2]; omega
      | false => simp [sg]
    simp only [h, decide_false, Bool.not_false, if_true, if_false, ha, e]
theorem V_sg (p : Bool) (l : List Int) : V p l = sg p (V p l).natAbs := by
  unfold V
  cases h : validF p l with
  | false => cases p <;> simp [sg]
  | true =>
    have h3 := val_nonneg (valid_dig h).2.1
    cases p <;> simp [sg] <;> omega
theorem V_sg2 (p : Bool) (l : List Int) : V p l = sg (validF p l && p) (V p l).natAbs := by
  cases h : validF p l with
  | false => rw [V_bad h]; rfl
  | true => simpa using V_sg p l
theorem mul_sg (p q : Bool) (X Y : Nat) : sg (p != q) (X * Y) = sg p X * sg q Y := by
  cases p <;> cases q <;> simp [sg, Int.neg_mul, Int.mul_neg]
theorem add_same (p : Bool) (X Y : Nat) : sg p (X + Y) = sg p X + sg p Y := by cases p <;> simp [sg]; omega
theorem add_ge {p q : Bool} (h : p ≠ q) {X Y : Nat} (hl : Y ≤ X) : sg p (X - Y) = sg p X + sg q Y := by
  cases p <;> cases q <;> simp [sg] at h ⊢ <;> omega
theorem add_lt {p q : Bool} (h : p ≠ q) {X Y : Nat} (hl : X ≤ Y) : sg q (Y - X) = sg p X + sg q Y := by
  cases p <;> cases q <;> simp [sg] at h ⊢ <;> omega
theorem sg_not (p : Bool) (X : Nat) : sg (!p) X = - sg p X := by cases p <;> simp [sg]
theorem fits_V (p : Bool) (l : List Int) : okZ (V p l) = true := by
  have := V_len p l
  simp [okZ]; omega
theorem okZ_neg (z : Int) : okZ (-z) = okZ z := by simp [okZ]
theorem V_zA {z : Int} (h : okZ z = true) : V (decide (z < 0)) (dig z.natAbs) = z := V_of z (by simpa [okZ] using h)
theorem okZ_fit (z : Int) : okZ (fitZ z) = true := by
  unfold fitZ; split
  · assumption
  · rfl
theorem fit_of {z : Int} (h : okZ z = true) : fitZ z = z := by simp [fitZ, h]
theorem zA_len {z : Int} (h : okZ z = true) : (dig z.natAbs).length ≤ 200 := by simpa [okZ] using h
theorem cmpN_ge {X Y : Nat} (h : Y ≤ X) : decide (cmpN X Y ≥ 0) = true := by
  unfold cmpN
  rw [if_neg (by omega)]
  split <;> rfl
theorem cmpN_lt {X Y : Nat} (h : X < Y) : decide (cmpN X Y ≥ 0) = false := by
  unfold cmpN
  rw [if_pos h]
  rfl
theorem V_neg (p : Bool) (l : List Int) : if (validF p l && p) = true then V p l ≤ 0 ∧ V p l ≠ 0 else 0 ≤ V p l := by
  have h := V_sg2 p l
  cases hb : (validF p l && p) with
  | false => rw [hb] at h; simp [sg] at h ⊢; omega
  | true =>
    rw [hb] at h
    simp only [Bool.and_eq_true] at hb
    simp only [if_true]
    have h0 : V p l ≠ 0 := fun h0 => by
      have h1 := V_abs p l
      rw [h0, hb.1] at h1
      simp only [Int.natAbs_zero, dig_zero, if_true] at h1
      subst h1
      rw [hb.2] at hb
      simp [validF] at hb
    refine ⟨?_, h0⟩
    rw [h]; simp [sg]
/-- the order of two numbers -/
def cmpZ (x y : Int) : Int := if x < y then -1 else if y < x then 1 else 0

section
variable (S : List Ent) (tk : List Nat) (k : Nat)
theorem big_signed' (neg : Bool) (n : Nat) (c : Cap) : cL Try.prog 56 [.bool neg, .frz ((dig n).map digC) c] S tk k = some (sgnZ (sg neg n), S, tk, k) := by
  rw [big_signed, sgn_sg]
theorem R02_number' (neg : Bool) (n : Nat) (c : Cap) (hlen : (dig n).length ≤ 1000000) : cL Try.prog 46 [.bool neg, .frz ((dig n).map digC) c] S tk k = some (sgnZ (sg neg n), S, tk, k) := by
  rw [R02_number _ _ _ _ _ _ hlen, trimL_dig, sgn_sg]
theorem big_sum (p q : Bool) (X Y : Nat) (ha : (dig X).length ≤ 100000) (hb : (dig Y).length ≤ 100000) : cL Try.prog 58 [.bool p, digA (dig X), .bool q, digA (dig Y)] S tk k = some (sgnZ (sg p X + sg q Y), S, tk, k) := by
  have hP := fun S tk k => big_plus S tk k X Y ha hb
  have hC := fun S tk k => big_compare S tk k X Y (by omega) (by omega)
  simp only [digA] at hP hC
  refine call_pure Try.func58 rfl rfl (by decide +kernel) (by decide +kernel) Try.ntmps58 rfl rfl _ _ _ (sgZ_pure _) ?_; rw [RK_KX]
  by_cases hpq : p = q
  · subst hpq
    have hs := fun S tk k => big_signed' S tk k p (X + Y) .unk
    rw [add_same] at hs
    simp only [sgnZ] at hs ⊢
    simp (maxSteps := 1000000) +contextual (disch := first | with_reducible assumption | exact ⟨rfl⟩ | exact ⟨rfl, rfl⟩ | (refine _root_.id ?_; kernel_rfl) | omega) only [evs, ext_mv, nth, put, putT, getT, binInt, binStr, binBool, aUn, outA, resA, mapO, resA1, oneOf, w1, w2, w3, bots, cond_true, cond_false, if_true, if_false, ite_true, ite_false, reduceIte, reduceCtorEq, implies_true, Nat.reduceAdd, Nat.reduceSub, AV.int, AV.bool, AV.str, Nat.reduceBEq, Nat.reduceEqDiff, Nat.reduceMul, Nat.reduceLT, Nat.reduceLeDiff, Int.reduceNeg, BEq.rfl, beq_self_eq_true, tabl, cellsOf, fldA, ldA, stA, entAt, partA, takeN, over, leafOk, Value.oneCell', idxA, nilA, cellsEq, fillA, elemsA, pure1, pure2, reps, chkA, tys, Try.results58, KX_draw, KX_drawQ, KX_tail, lastO_one, lastO_more, dropL_one, dropL_more, callP_eq, callM_true, digA, zA, bigA, hP, hs]
  · have d1 : (p == q) = false := by simpa using hpq
    by_cases hge : Y ≤ X
    · have hM := fun S tk k => big_minus S tk k X Y ha hge
      have hs := fun S tk k => big_signed' S tk k p (X - Y) .unk
      rw [add_ge hpq hge] at hs
      have d2 : decide (cmpN X Y ≥ 0) = true := cmpN_ge hge
      simp only [sgnZ, digA] at hs hM ⊢
      simp (maxSteps := 1000000) +contextual (disch := first | with_reducible assumption | exact ⟨rfl⟩ | exact ⟨rfl, rfl⟩ | (refine _root_.id ?_; kernel_rfl) | omega) only [evs, ext_mv, nth, put, putT, getT, binInt, binStr, binBool, aUn, outA, resA, mapO, resA1, oneOf, w1, w2, w3, bots, cond_true, cond_false, if_true, if_false, ite_true, ite_false, reduceIte, reduceCtorEq, implies_true, Nat.reduceAdd, Nat.reduceSub, AV.int, AV.bool, AV.str, Nat.reduceBEq, Nat.reduceEqDiff, Nat.reduceMul, Nat.reduceLT, Nat.reduceLeDiff, Int.reduceNeg, BEq.rfl, beq_self_eq_true, tabl, cellsOf, fldA, ldA, stA, entAt, partA, takeN, over, leafOk, Value.oneCell', idxA, nilA, cellsEq, fillA, elemsA, pure1, pure2, reps, chkA, tys, Try.results58, KX_draw, KX_drawQ, KX_tail, lastO_one, lastO_more, dropL_one, dropL_more, callP_eq, callM_true, digA, zA, bigA, hM, hs, d1, d2, hC]
    · have hM := fun S tk k => big_minus S tk k Y X hb (by omega)
      have hs := fun S tk k => big_signed' S tk k q (Y - X) .unk
      rw [add_lt hpq (by omega)] at hs
      have d2 : decide (cmpN X Y ≥ 0) = false := cmpN_lt (by omega)
      simp only [sgnZ, digA] at hs hM ⊢
      simp (maxSteps := 1000000) +contextual (disch := first | with_reducible assumption | exact ⟨rfl⟩ | exact ⟨rfl, rfl⟩ | (refine _root_.id ?_; kernel_rfl) | omega) only [evs, ext_mv, nth, put, putT, getT, binInt, binStr, binBool, aUn, outA, resA, mapO, resA1, oneOf, w1, w2, w3, bots, cond_true, cond_false, if_true, if_false, ite_true, ite_false, reduceIte, reduceCtorEq, implies_true, Nat.reduceAdd, Nat.reduceSub, AV.int, AV.bool, AV.str, Nat.reduceBEq, Nat.reduceEqDiff, Nat.reduceMul, Nat.reduceLT, Nat.reduceLeDiff, Int.reduceNeg, BEq.rfl, beq_self_eq_true, tabl, cellsOf, fldA, ldA, stA, entAt, partA, takeN, over, leafOk, Value.oneCell', idxA, nilA, cellsEq, fillA, elemsA, pure1, pure2, reps, chkA, tys, Try.results58, KX_draw, KX_drawQ, KX_tail, lastO_one, lastO_more, dropL_one, dropL_more, callP_eq, callM_true, digA, zA, bigA, hM, hs, d1, d2, hC]
theorem big_Add (p q : Bool) (l r : List Int) (hl : l.length ≤ 1000000) (hr : r.length ≤ 1000000) : cL Try.prog 32 [bigA p l, bigA q r] S tk k = some (sgnZ (V p l + V q r), S, tk, k) := by
  have hD1 := fun S tk k => big_digits S tk k p l .unk hl
  have hD2 := fun S tk k => big_digits S tk k q r .unk hr
  have ha := V_len p l
  have hb := V_len q r
  have hS := fun S tk k => big_sum S tk k p q (V p l).natAbs (V q r).natAbs (by omega) (by omega)
  rw [← V_sg, ← V_sg] at hS
  simp only [digA, sgnZ] at hD1 hD2 hS ⊢
  refine call_pure Try.func32 rfl rfl (by decide +kernel) (by decide +kernel) Try.ntmps32 rfl rfl _ _ _ (sgZ_pure _) ?_; rw [RK_KX]
  simp (maxSteps := 1000000) +contextual (disch := first | with_reducible assumption | exact ⟨rfl⟩ | exact ⟨rfl, rfl⟩ | (refine _root_.id ?_; kernel_rfl) | omega) only [evs, ext_mv, nth, put, putT, getT, binInt, binStr, binBool, aUn, outA, resA, mapO, resA1, oneOf, w1, w2, w3, bots, cond_true, cond_false, if_true, if_false, ite_true, ite_false, reduceIte, reduceCtorEq, implies_true, Nat.reduceAdd, Nat.reduceSub, AV.int, AV.bool, AV.str, Nat.reduceBEq, Nat.reduceEqDiff, Nat.reduceMul, Nat.reduceLT, Nat.reduceLeDiff, Int.reduceNeg, BEq.rfl, beq_self_eq_true, tabl, cellsOf, fldA, ldA, stA, entAt, partA, takeN, over, leafOk, Value.oneCell', idxA, nilA, cellsEq, fillA, elemsA, pure1, pure2, reps, chkA, tys, Try.results32, KX_draw, KX_drawQ, KX_tail, lastO_one, lastO_more, dropL_one, dropL_more, callP_eq, callM_true, zA, bigA, digA, hD1, hD2, hS]
theorem R02_Add (p q : Bool) (l r : List Int) (hl : l.length ≤ 1000000) (hr : r.length ≤ 1000000) : cL Try.prog 63 [bigA p l, bigA q r] S tk k = some (sgnZ (V p l + V q r), S, tk, k) := by
  have hD1 := fun S tk k => R02_digits S tk k p l .unk hl
  have hD2 := fun S tk k => R02_digits S tk k q r .unk hr
  have hN1 := fun S tk k => R02_negative S tk k p l .unk hl
  have hN2 := fun S tk k => R02_negative S tk k q r .unk hr
  have ha := V_len p l
  have hb := V_len q r
  have e1 := V_sg2 p l
  have e2 := V_sg2 q r
  generalize V p l = x at *
  generalize V q r = y at *
  generalize (validF p l && p) = a at *
  generalize (validF q r && q) = b at *
  generalize hX : x.natAbs = X at *
  generalize hY : y.natAbs = Y at *
  subst e1 e2
  have hP := fun S tk k => R02_plus S tk k X Y (by omega) (by omega)
  have hC := fun S tk k => R02_order S tk k X Y (by omega) (by omega)
  simp only [digA] at hD1 hD2 hN1 hN2 hP hC
  refine call_pure Try.func63 rfl rfl (by decide +kernel) (by decide +kernel) Try.ntmps63 rfl rfl _ _ _ (sgZ_pure _) ?_; rw [RK_KX]
  by_cases hpq : a = b
  · subst hpq
    have hlen : (dig (X + Y)).length ≤ 1000000 := by
      have h1 : X + Y < 10000 ^ 201 := by
        rw [dig_len] at ha hb
        have e : (10000 : Nat) ^ 201 = 10000 ^ 200 * 10000 := by rw [← Nat.pow_succ]
        omega
      have := dig_len.2 h1
      omega
    have hs := fun S tk k => R02_number' S tk k a (X + Y) .unk hlen
    rw [add_same] at hs
    simp only [sgnZ] at hs ⊢
    simp (maxSteps := 1000000) +contextual (disch := first | with_reducible assumption | exact ⟨rfl⟩ | exact ⟨rfl, rfl⟩ | (refine _root_.id ?_; kernel_rfl) | omega) only [evs, ext_mv, nth, put, putT, getT, binInt, binStr, binBool, aUn, outA, resA, mapO, resA1, oneOf, w1, w2, w3, bots, cond_true, cond_false, if_true, if_false, ite_true, ite_false, reduceIte, reduceCtorEq, implies_true, Nat.reduceAdd, Nat.reduceSub, AV.int, AV.bool, AV.str, Nat.reduceBEq, Nat.reduceEqDiff, Nat.reduceMul, Nat.reduceLT, Nat.reduceLeDiff, Int.reduceNeg, BEq.rfl, beq_self_eq_true, tabl, cellsOf, fldA, ldA, stA, entAt, partA, takeN, over, leafOk, Value.oneCell', idxA, nilA, cellsEq, fillA, elemsA, pure1, pure2, reps, chkA, tys, Try.results63, KX_draw, KX_drawQ, KX_tail, lastO_one, lastO_more, dropL_one, dropL_more, callP_eq, callM_true, digA, zA, bigA, hD1, hD2, hN1, hN2, hP, hs]
  · have d1 : (a == b) = false := by simpa using hpq
    by_cases hge : Y ≤ X
    · have hM := fun S tk k => R02_minus S tk k X Y (by omega) hge
      have hs := fun S tk k => R02_number' S tk k a (X - Y) .unk (by have := len_mono (a := X) (b := X - Y) (by omega); omega)
      rw [add_ge hpq hge] at hs
      have d2 : decide (cmpN X Y ≥ 0) = true := cmpN_ge hge
      simp only [sgnZ, digA] at hs hM ⊢
      simp (maxSteps := 1000000) +contextual (disch := first | with_reducible assumption | exact ⟨rfl⟩ | exact ⟨rfl, rfl⟩ | (refine _root_.id ?_; kernel_rfl) | omega) only [evs, ext_mv, nth, put, putT, getT, binInt, binStr, binBool, aUn, outA, resA, mapO, resA1, oneOf, w1, w2, w3, bots, cond_true, cond_false, if_true, if_false, ite_true, ite_false, reduceIte, reduceCtorEq, implies_true, Nat.reduceAdd, Nat.reduceSub, AV.int, AV.bool, AV.str, Nat.reduceBEq, Nat.reduceEqDiff, Nat.reduceMul, Nat.reduceLT, Nat.reduceLeDiff, Int.reduceNeg, BEq.rfl, beq_self_eq_true, tabl, cellsOf, fldA, ldA, stA, entAt, partA, takeN, over, leafOk, Value.oneCell', idxA, nilA, cellsEq, fillA, elemsA, pure1, pure2, reps, chkA, tys, Try.results63, KX_draw, KX_drawQ, KX_tail, lastO_one, lastO_more, dropL_one, dropL_more, callP_eq, callM_true, digA, zA, bigA, hD1, hD2, hN1, hN2, hM, hs, d1, d2, hC]
    · have hM := fun S tk k => R02_minus S tk k Y X (by omega) (by omega)
      have hs := fun S tk k => R02_number' S tk k b (Y - X) .unk (by have := len_mono (a := Y) (b := Y - X) (by omega); omega)
      rw [add_lt hpq (by omega)] at hs
      have d2 : decide (cmpN X Y ≥ 0) = false := cmpN_lt (by omega)
      simp only [sgnZ, digA] at hs hM ⊢
      simp (maxSteps := 1000000) +contextual (disch := first | with_reducible assumption | exact ⟨rfl⟩ | exact ⟨rfl, rfl⟩ | (refine _root_.id ?_; kernel_rfl) | omega) only [evs, ext_mv, nth, put, putT, getT, binInt, binStr, binBool, aUn, outA, resA, mapO, resA1, oneOf, w1, w2, w3, bots, cond_true, cond_false, if_true, if_false, ite_true, ite_false, reduceIte, reduceCtorEq, implies_true, Nat.reduceAdd, Nat.reduceSub, AV.int, AV.bool, AV.str, Nat.reduceBEq, Nat.reduceEqDiff, Nat.reduceMul, Nat.reduceLT, Nat.reduceLeDiff, Int.reduceNeg, BEq.rfl, beq_self_eq_true, tabl, cellsOf, fldA, ldA, stA, entAt, partA, takeN, over, leafOk, Value.oneCell', idxA, nilA, cellsEq, fillA, elemsA, pure1, pure2, reps, chkA, tys, Try.results63, KX_draw, KX_drawQ, KX_tail, lastO_one, lastO_more, dropL_one, dropL_more, callP_eq, callM_true, digA, zA, bigA, hD1, hD2, hN1, hN2, hM, hs, d1, d2, hC]
theorem ap_nil {l : List Int} (hl : l.length ≤ 1000000) (tk : List Nat) : apB (some 1) [] Cap.nilc (l.map digC) tk = some (.frz (l.map digC) (capNew tk Cap.nilc 1), capPut tk Cap.nilc) := by
  rw [apB_all rfl rfl (rowsOk_dig l) (by simp; omega)]; rfl
theorem zA_call {f : FuncId} {z : Int} {S : List Ent} {tk : List Nat} {k : Nat} {r : Option (AV × List Ent × List Nat × Nat)} (h : cL Try.prog f [bigA (decide (z < 0)) (dig z.natAbs)] S tk k = r) : cL Try.prog f [zA z] S tk k = r := h
theorem len_pos_dig (X : Nat) : decide (((dig X).length : Int) > 0) = !decide (X = 0) := by
  by_cases h : X = 0
  · subst h; simp [dig_zero]
  · have h2 : ¬ dig X = [] := fun h' => h (dig_nil.1 h')
    rw [len_gt_zero h2]; simp [h]
set_option maxRecDepth 100000 in
theorem big_Cmp (p q : Bool) (l r : List Int) (hl : l.length ≤ 1000000) (hr : r.length ≤ 1000000) : cL Try.prog 40 [bigA p l, bigA q r] S tk k = some (.int (cmpZ (V p l) (V q r)), S, tk, k) := by
  have hD1 := fun S tk k => big_digits S tk k p l .unk hl
  have hD2 := fun S tk k => big_digits S tk k q r .unk hr
  have ha := V_len p l
  have hb := V_len q r
  have e1 := V_sg p l
  have e2 := V_sg q r
  generalize V p l = x at *
  generalize V q r = y at *
  generalize hX : x.natAbs = X at *
  generalize hY : y.natAbs = Y at *
  subst e1 e2
  have hC := fun S tk k => big_compare S tk k X Y (by omega) (by omega)
  have hC2 := fun S tk k => big_compare S tk k Y X (by omega) (by omega)
  simp only [digA] at hD1 hD2 hC hC2
  obtain ⟨bx, hbx⟩ : ∃ b, b = !decide (X = 0) := ⟨_, rfl⟩
  obtain ⟨bY, hby⟩ : ∃ b, b = !decide (Y = 0) := ⟨_, rfl⟩
  have z1 := len_pos_dig X
  have z2 := len_pos_dig Y
  rw [← hbx] at z1
  rw [← hby] at z2
  have hx0 : bx = true ↔ X ≠ 0 := by rw [hbx]; simp
  have hy0 : bY = true ↔ Y ≠ 0 := by rw [hby]; simp
  clear hbx hby
  cases bx <;> cases bY <;> simp only [Bool.false_eq_true, true_iff, false_iff, Classical.not_not, ne_eq] at hx0 hy0 <;> cases p <;> cases q
  all_goals
    refine call_pure Try.func40 rfl rfl (by decide +kernel) (by decide +kernel) Try.ntmps40 rfl rfl _ _ _ rfl ?_; rw [RK_KX]
    simp (maxSteps := 1000000) +contextual (disch := first | with_reducible assumption | exact ⟨rfl⟩ | exact ⟨rfl, rfl⟩ | (refine _root_.id ?_; kernel_rfl) | omega) only [evs, ext_mv, nth, put, putT, getT, binInt, binStr, binBool, aUn, outA, resA, mapO, resA1, oneOf, w1, w2, w3, bots, cond_true, cond_false, if_true, if_false, ite_true, ite_false, reduceIte, reduceCtorEq, implies_true, Nat.reduceAdd, Nat.reduceSub, AV.int, AV.bool, AV.str, Nat.reduceBEq, Nat.reduceEqDiff, Nat.reduceMul, Nat.reduceLT, Nat.reduceLeDiff, Int.reduceNeg, BEq.rfl, beq_self_eq_true, tabl, cellsOf, fldA, ldA, stA, entAt, partA, takeN, over, leafOk, Value.oneCell', idxA, nilA, cellsEq, fillA, elemsA, pure1, pure2, reps, chkA, tys, Try.results40, KX_draw, KX_drawQ, KX_tail, lastO_one, lastO_more, dropL_one, dropL_more, callP_eq, callM_true, digA, bigA, hD1, hD2, hC, hC2, z1, z2]
    simp only [cmpZ, cmpN, sg, if_true, Bool.false_eq_true, if_false]
    try omega
theorem R02_Cmp (p q : Bool) (l r : List Int) (hl : l.length ≤ 1000000) (hr : r.length ≤ 1000000) : cL Try.prog 45 [bigA p l, bigA q r] S tk k = some (.int (cmpZ (V p l) (V q r)), S, tk, k) := by
  have hD1 := fun S tk k => R02_digits S tk k p l .unk hl
  have hD2 := fun S tk k => R02_digits S tk k q r .unk hr
  have hN1 := fun S tk k => R02_negative S tk k p l .unk hl
  have hN2 := fun S tk k => R02_negative S tk k q r .unk hr
  have ha := V_len p l
  have hb := V_len q r
  have hC := fun S tk k => R02_order S tk k (V p l).natAbs (V q r).natAbs (by omega) (by omega)
  have hC2 := fun S tk k => R02_order S tk k (V q r).natAbs (V p l).natAbs (by omega) (by omega)
  simp only [digA] at hD1 hD2 hN1 hN2 hC hC2
  have n1 := V_neg p l
  have n2 := V_neg q r
  cases h1 : (validF p l && p) <;> cases h2 : (validF q r && q) <;> rw [h1] at n1 hN1 <;> rw [h2] at n2 hN2 <;> simp only [Bool.false_eq_true, if_false, if_true] at n1 n2
  all_goals
    refine call_pure Try.func45 rfl rfl (by decide +kernel) (by decide +kernel) Try.ntmps45 rfl rfl _ _ _ rfl ?_; rw [RK_KX]
    simp (maxSteps := 1000000) +contextual (disch := first | with_reducible assumption | exact ⟨rfl⟩ | exact ⟨rfl, rfl⟩ | (refine _root_.id ?_; kernel_rfl) | omega) only [evs, ext_mv, nth, put, putT, getT, binInt, binStr, binBool, aUn, outA, resA, mapO, resA1, oneOf, w1, w2, w3, bots, cond_true, cond_false, if_true, if_false, ite_true, ite_false, reduceIte, reduceCtorEq, implies_true, Nat.reduceAdd, Nat.reduceSub, AV.int, AV.bool, AV.str, Nat.reduceBEq, Nat.reduceEqDiff, Nat.reduceMul, Nat.reduceLT, Nat.reduceLeDiff, Int.reduceNeg, BEq.rfl, beq_self_eq_true, tabl, cellsOf, fldA, ldA, stA, entAt, partA, takeN, over, leafOk, Value.oneCell', idxA, nilA, cellsEq, fillA, elemsA, pure1, pure2, reps, chkA, tys, Try.results45, KX_draw, KX_drawQ, KX_tail, lastO_one, lastO_more, dropL_one, dropL_more, callP_eq, callM_true, digA, bigA, hD1, hD2, hN1, hN2, hC, hC2]
    simp only [cmpZ, cmpN]
    try omega
theorem same_self (s : Bool) (d : List Int) (h : d.length ≤ 1000000) : cL Try.prog 12 [bigA s d, bigA s d] S tk k = some (.bool true, S, tk, k) := by
  have := R02_Same S tk k s s d d h
  simpa using this
end
end Go.Proofs.Ytmgbmbganlndkaa
/-
  Sizes of sums and products.
-/

namespace Go.Proofs.Ytmgbmbganlndkaa
open Go

theorem num_of {z : Int} (h : okZ z = true) : ∃ s e, sgnZ z = .tup [bigA s e, .bool true] ∧ V s e = z ∧ e.length ≤ 200 ∧ validF s e = true :=
  ⟨decide (z < 0), dig z.natAbs, by rw [sgnZ, fit_of h, h]; rfl, V_zA h, zA_len h, valid_of z (zA_len h)⟩
theorem V_small (p : Bool) (l : List Int) {n : Nat} (h : l.length ≤ n) : (V p l).natAbs < 10000 ^ n := by
  refine dig_len.1 ?_
  rw [V_abs]
  split
  · exact h
  · simp
theorem okZ_lt {z : Int} (h : z.natAbs < 10000 ^ 200) : okZ z = true := by
  have := dig_len.2 h
  simp [okZ]; omega
theorem pow_le {m : Nat} (h : m ≤ 200) : (10000 : Nat) ^ m ≤ 10000 ^ 200 := Nat.pow_le_pow_right (by decide) h
theorem okZ_of {z : Int} {m : Nat} (h : z.natAbs < 10000 ^ m) (hm : m ≤ 200) : okZ z = true := okZ_lt (Nat.lt_of_lt_of_le h (pow_le hm))
theorem lt_add {a b : Int} {m : Nat} (ha : a.natAbs < 10000 ^ m) (hb : b.natAbs < 10000 ^ m) : (a + b).natAbs < 10000 ^ (m + 1) := by
  rw [Nat.pow_succ]
  generalize 10000 ^ m = t at *
  omega
theorem lt_mul {a b : Int} {m n : Nat} (ha : a.natAbs < 10000 ^ m) (hb : b.natAbs < 10000 ^ n) : (a * b).natAbs < 10000 ^ (m + n) := by
  rw [Int.natAbs_mul, Nat.pow_add]; exact Nat.mul_lt_mul'' ha hb
theorem cmp_self (x : Int) : cmpZ x x = 0 := by simp [cmpZ]
theorem cmp_sub (x y : Int) : cmpZ (x - y) 0 = cmpZ x y := by
  unfold cmpZ
  by_cases h1 : x < y
  · rw [if_pos h1, if_pos (by omega)]
  · rw [if_neg h1, if_neg (by omega)]
    by_cases h2 : y < x
    · rw [if_pos h2, if_pos (by omega)]
    · rw [if_neg h2, if_neg (by omega)]
theorem V_zero : V false [] = 0 := rfl

section
variable (S : List Ent) (tk : List Nat) (k : Nat)
theorem big_Mul' (p q : Bool) (l r : List Int) (hl : l.length ≤ 1000000) (hr : r.length ≤ 1000000) : cL Try.prog 30 [bigA p l, bigA q r] S tk k = some (sgnZ (V p l * V q r), S, tk, k) := by
  rw [big_Mul _ _ _ p q l r hl hr, sgn_sg, mul_sg, ← V_sg, ← V_sg]
theorem Cmp_zero (p : Bool) (l : List Int) (hl : l.length ≤ 1000000) : cL Try.prog 40 [bigA p l, .agg [.bool false, .frz [] .nilc]] S tk k = some (.int (cmpZ (V p l) 0), S, tk, k) := by
  refine (cL_w2 (args := [bigA p l, .agg [.bool false, .frz [] .nilc]]) (args' := [bigA p l, bigA false []]) rfl rfl rfl).trans ?_
  rw [big_Cmp _ _ _ p false l [] hl (by simp)]; rfl
end
end Go.Proofs.Ytmgbmbganlndkaa
/-
  Quotients of digits: plain arithmetic; division by one digit.
-/

namespace Go.Proofs.Ytmgbmbganlndkaa
open Go

theorem drop_set_same {l : List Int} {i : Nat} {x : Int} (h : i < l.length) : (l.set i x).drop i = x :: l.drop (i + 1) := by
  rw [nth_drop (nth_set_same h)]
  congr 1
  rw [List.drop_set]; simp
theorem drop_set_later {l : List Int} {i : Nat} {x : Int} : (l.set i x).drop (i + 1) = l.drop (i + 1) := by
  rw [List.drop_set]; simp
theorem okD_zeros (n : Nat) : okD (List.replicate n 0) := fun d hd => by
  have := (List.mem_replicate.1 hd).2; omega
theorem okD_one {r : Int} (h0 : 0 ≤ r) (h1 : r < 10000) : okD [r] := fun d hd => by simp at hd; omega
theorem trim_one {r : Int} (h0 : 0 ≤ r) (h1 : r < 10000) : trimL [r] = dig r.toNat := by
  rw [trim_dig (okD_one h0 h1)]; simp [val]
/-- digits from the top, divided by one digit -/
structure Short (A : Nat) (b : Int) (m : Nat) (r : Int) (out : List Int) : Prop where
  len : out.length = (dig A).length
  ok : okD out
  r0 : 0 ≤ r ∧ r < b
  eqv : val ((dig A).drop m) = val (out.drop m) * b + r
theorem Short.start {A : Nat} {b : Int} (h : 0 < b) : Short A b (dig A).length 0 (List.replicate (dig A).length 0) := by
  refine ⟨by simp, okD_zeros _, by omega, ?_⟩
  rw [List.drop_length, List.drop_eq_nil_of_le (by simp)]; simp [val]
theorem Short.step {A : Nat} {b : Int} {m : Nat} {r x : Int} {out : List Int} (h : Short A b m r out) (hm : m ≠ 0) (hml : m ≤ (dig A).length) (hx : nth (dig A) (m - 1) = some x) :
    Short A b (m - 1) ((r * 10000 + x).tmod b) (out.set (m - 1) ((r * 10000 + x).tdiv b)) ∧ 0 ≤ (r * 10000 + x).tdiv b ∧ (r * 10000 + x).tdiv b < 10000 ∧ 0 ≤ (r * 10000 + x).tmod b ∧ (r * 10000 + x).tmod b < b := by
  have hr := h.r0
  have hxk := of_okD (okD_dig A) hx
  have hn : 0 ≤ r * 10000 + x := by omega
  have e1 : (r * 10000 + x).tdiv b = (r * 10000 + x) / b := Int.tdiv_eq_ediv_of_nonneg hn
  have e2 : (r * 10000 + x).tmod b = (r * 10000 + x) % b := Int.tmod_eq_emod_of_nonneg hn
  have m0 := Int.emod_nonneg (r * 10000 + x) (show b ≠ 0 by omega)
  have m1 := Int.emod_lt_of_pos (r * 10000 + x) (show 0 < b by omega)
  have q0 : 0 ≤ (r * 10000 + x) / b := Int.ediv_nonneg hn (by omega)
  have q1 : (r * 10000 + x) / b < 10000 := Int.ediv_lt_of_lt_mul (by omega) (by omega)
  have hm1 : m - 1 + 1 = m := by omega
  have hlen : m - 1 < out.length := by have := h.len; omega
  rw [e1, e2]
  refine ⟨⟨by rw [List.length_set]; exact h.len, okD_set h.ok q0 q1, ⟨m0, m1⟩, ?_⟩, q0, q1, m0, m1⟩
  have hv := h.eqv
  rw [nth_drop hx, drop_set_same hlen, val, val, hm1, hv]
  have hd := Int.emod_add_mul_ediv (r * 10000 + x) b
  rw [Int.add_mul, Int.mul_add, ← Int.mul_assoc, Int.mul_comm ((r * 10000 + x) / b)]
  generalize b * ((r * 10000 + x) / b) = t at *
  generalize (r * 10000 + x) % b = u at *
  rw [Int.mul_assoc]
  generalize val (out.drop m) * b = w at *
  omega
theorem div_of {A B Q R : Int} (h : A = Q * B + R) (h0 : 0 ≤ R) (h1 : R < B) : A / B = Q ∧ A % B = R := by
  have hb : 0 < B := by omega
  subst h
  constructor
  · rw [Int.add_comm, Int.add_mul_ediv_right _ _ (by omega), Int.ediv_eq_zero_of_lt h0 h1]; omega
  · rw [Int.add_comm, Int.add_mul_emod_self_right, Int.emod_eq_of_lt h0 h1]
theorem div_nat {A B : Nat} {Q R : Int} (h : (A : Int) = Q * B + R) (h0 : 0 ≤ R) (h1 : R < B) : Q = ((A / B : Nat) : Int) ∧ R = ((A % B : Nat) : Int) := by
  obtain ⟨e1, e2⟩ := div_of h h0 h1
  rw [← e1, ← e2]; exact ⟨rfl, rfl⟩
theorem Short.done {A B : Nat} {r : Int} {out : List Int} (h : Short A B 0 r out) : trimL out = dig (A / B) ∧ r.toNat = A % B := by
  have hv := h.eqv
  rw [List.drop_zero, List.drop_zero, val_dig] at hv
  obtain ⟨e1, e2⟩ := div_nat hv h.r0.1 h.r0.2
  rw [trim_dig h.ok, e1]
  exact ⟨by congr 1, by omega⟩
section
variable (S : List Ent) (tk : List Nat) (k : Nat)
set_option maxRecDepth 100000 in
theorem big_short (A B : Nat) (ha : (dig A).length ≤ 100000) (hb0 : 0 < B) (hb1 : B < 10000) : cL Try.prog 80 [digA (dig A), .int (B : Nat)] S tk k = some (.tup [digA (dig (A / B)), digA (dig (A % B))], S, tk, k) := by
  refine call_pure Try.func80 rfl rfl (by decide +kernel) (by decide +kernel) Try.ntmps80 rfl rfl _ _ _ (rfl) ?_; rw [RK_KX]
  have hbo : (elemOf Try.prog 26).bind (bytesOf Try.prog) = some 8 := by kernel_rfl
  have hmk := mk_num (P := Try.prog) (t := 26) (n := (dig A).length) (by simp only [tys, Option.bind_some]) (by simp only [tys, Option.bind_some]) hbo (by omega)
  have d3 := top_idx (n := (dig A).length) (by omega)
  have hst := Short.start (A := A) (b := (B : Int)) (by omega)
  simp (maxSteps := 1000000) +contextual (disch := first | with_reducible assumption | exact ⟨rfl⟩ | exact ⟨rfl, rfl⟩ | (refine _root_.id ?_; kernel_rfl) | omega) only [evs, ext_mv, nth, put, putT, getT, binInt, binStr, binBool, aUn, outA, resA, mapO, resA1, oneOf, w1, w2, w3, bots, cond_true, cond_false, if_true, if_false, ite_true, ite_false, reduceIte, reduceCtorEq, implies_true, Nat.reduceAdd, Nat.reduceSub, AV.int, AV.bool, AV.str, Nat.reduceBEq, Nat.reduceEqDiff, Nat.reduceMul, Nat.reduceLT, Nat.reduceLeDiff, Int.reduceNeg, BEq.rfl, beq_self_eq_true, tabl, cellsOf, fldA, ldA, stA, entAt, partA, takeN, over, leafOk, Value.oneCell', idxA, nilA, cellsEq, fillA, elemsA, pure1, pure2, reps, chkA, tys, Try.results80, KX_draw, KX_drawQ, KX_tail, lastO_one, lastO_more, dropL_one, dropL_more, callP_eq, callM_true, digA, hmk, d3]
  refine loop1 (fun x st => st.T.length = 40 ∧ (x.1 ≤ (dig A).length) ∧ (Short A B x.1 x.2.1 x.2.2) ∧ getT st.T 0 = digA (dig A) ∧ getT st.T 1 = .int (B : Nat) ∧ getT st.T 6 = .sref 0 0 0 (dig A).length 1 ∧ getT st.T 7 = .int x.2.1 ∧ getT st.T 8 = .int ((x.1 : Int) - 1) ∧ st.S = [⟨0, x.2.2.map numC⟩]) (fun x => x.1) (fun x => .tup [digA (dig (A / B)), digA (dig (A % B))]) ((dig A).length, 0, List.replicate (dig A).length 0) ?_ ?_
  case refine_2 => exact ⟨rfl, Nat.le_refl _, hst, rfl, rfl, rfl, rfl, rfl, rfl⟩
  rintro ⟨m, r, out⟩ ⟨T, S', tk', n'⟩ ⟨hl, hm, hp, e0, e1, e6, e7, e8, eS⟩ IH
  simp only at hm hp e0 e1 e6 e7 e8 eS
  subst eS
  obtain ⟨g, hg, hT⟩ := tab_of hl
  rw [hg] at e0 e1 e6 e7 e8
  subst hT
  clear hg hl
  have hlen := hp.len
  by_cases h0 : m = 0
  · have d2 : decide ((m : Int) - 1 ≥ 0) = false := by simp; omega
    subst h0
    obtain ⟨q1, q2⟩ := hp.done
    have hr0 := hp.r0
    have hT := fun tk k => big_trim_own [⟨0, out.map numC⟩] tk k out 0 0 (by omega) rfl
    rw [hlen] at hT
    have hT2 := fun tk k => big_trim [⟨0, out.map numC⟩] tk k [r] .tight (by simp)
    rw [trim_one hr0.1 (by omega), q2] at hT2
    have hfz := fz_num (m := 0) (id := 0) (ep := 0) (S := [⟨0, out.map numC⟩]) (Nat.le_refl _) rfl (trim_len out)
    rw [← trim_is_take, q1] at hfz
    rw [q1] at hT
    simp only [List.map_cons, List.map_nil, digC, digA] at hT2
    simp (maxSteps := 1000000) +contextual (disch := first | with_reducible assumption | exact ⟨rfl⟩ | exact ⟨rfl, rfl⟩ | (refine _root_.id ?_; kernel_rfl) | omega) only [evs, ext_mv, nth, put, putT, getT, binInt, binStr, binBool, aUn, outA, resA, mapO, resA1, oneOf, w1, w2, w3, bots, cond_true, cond_false, if_true, if_false, ite_true, ite_false, reduceIte, reduceCtorEq, implies_true, Nat.reduceAdd, Nat.reduceSub, AV.int, AV.bool, AV.str, Nat.reduceBEq, Nat.reduceEqDiff, Nat.reduceMul, Nat.reduceLT, Nat.reduceLeDiff, Int.reduceNeg, BEq.rfl, beq_self_eq_true, tabl, cellsOf, fldA, ldA, stA, entAt, partA, takeN, over, leafOk, Value.oneCell', idxA, nilA, cellsEq, fillA, elemsA, pure1, pure2, reps, chkA, tys, Try.results80, KX_draw, KX_drawQ, KX_tail, lastO_one, lastO_more, dropL_one, dropL_more, callP_eq, callM_true, digA, e0, e1, e6, e7, e8, d2, hT, hT2, hfz]
  · have d2 : decide ((m : Int) - 1 ≥ 0) = true := by simp; omega
    have hi : (m : Int) - 1 = ((m - 1 : Nat) : Int) := by omega
    obtain ⟨x, hx⟩ := nth_some (show m - 1 < (dig A).length by omega)
    have hx' := nth_dig hx
    have hxk := of_okD (okD_dig A) hx
    obtain ⟨o, ho⟩ := nth_some (show m - 1 < out.length by omega)
    obtain ⟨hq, g1, g2, g3, g4⟩ := hp.step h0 hm hx
    have hr0 := hp.r0
    have hpw := top_idx (n := m - 1) (by omega)
    have hz' : ¬ ((B : Int) = 0) := by omega
    have hw1 : IntKind.i64.wrap (r * 10000) = r * 10000 := wrap_of (by unfold i64; omega)
    have hw2 : IntKind.i64.wrap (r * 10000 + x) = r * 10000 + x := wrap_of (by unfold i64; omega)
    have hw3 : IntKind.i64.wrap ((r * 10000 + x).tdiv B) = (r * 10000 + x).tdiv B := wrap_of (by unfold i64; omega)
    have hw4 : IntKind.i64.wrap ((r * 10000 + x).tmod B) = (r * 10000 + x).tmod B := wrap_of (by unfold i64; omega)
    have hov := over_num (v := (r * 10000 + x).tdiv B) ho
    have hin : m - 1 < (dig A).length := by omega
    rw [hi] at e8 d2
    simp (maxSteps := 1000000) +contextual (disch := first | with_reducible assumption | exact ⟨rfl⟩ | exact ⟨rfl, rfl⟩ | (refine _root_.id ?_; kernel_rfl) | omega) only [evs, ext_mv, nth, put, putT, getT, binInt, binStr, binBool, aUn, outA, resA, mapO, resA1, oneOf, w1, w2, w3, bots, cond_true, cond_false, if_true, if_false, ite_true, ite_false, reduceIte, reduceCtorEq, implies_true, Nat.reduceAdd, Nat.reduceSub, AV.int, AV.bool, AV.str, Nat.reduceBEq, Nat.reduceEqDiff, Nat.reduceMul, Nat.reduceLT, Nat.reduceLeDiff, Int.reduceNeg, BEq.rfl, beq_self_eq_true, tabl, cellsOf, fldA, ldA, stA, entAt, partA, takeN, over, leafOk, Value.oneCell', idxA, nilA, cellsEq, fillA, elemsA, pure1, pure2, reps, chkA, tys, Try.results80, KX_draw, KX_drawQ, KX_tail, lastO_one, lastO_more, dropL_one, dropL_more, callP_eq, callM_true, digA, e0, e1, e6, e7, e8, d2, hx', hpw, hz', hw1, hw2, hw3, hw4, hov, hin, Nat.mul_one]
    exact IH (m - 1, (r * 10000 + x).tmod B, out.set (m - 1) ((r * 10000 + x).tdiv B)) _ (by first | omega | (simp only; omega)) ⟨rfl, by first | omega | (dsimp only; omega), hq, (by first | rfl | simp only [getT, List.map_append, List.map_cons, List.map_nil, digC, digA]), (by first | rfl | simp only [getT, List.map_append, List.map_cons, List.map_nil, digC, digA]), (by first | rfl | simp only [getT, List.map_append, List.map_cons, List.map_nil, digC, digA]), (by first | rfl | simp only [getT, List.map_append, List.map_cons, List.map_nil, digC, digA]), (by first | rfl | simp only [getT, List.map_append, List.map_cons, List.map_nil, digC, digA]), (by first | rfl | simp only [getT, List.map_append, List.map_cons, List.map_nil, digC, digA])⟩
end
end Go.Proofs.Ytmgbmbganlndkaa
/-
  Quotients of digits: one digit of a quotient, by a guess from the top digits that is put right.
-/

namespace Go.Proofs.Ytmgbmbganlndkaa
open Go

/-- the digits of a number, and zeros behind them -/
def padD (v m : Nat) : List Int := padL (dig v) m
theorem padD_len {v m : Nat} (h : (dig v).length ≤ m) : (padD v m).length = m := padL_len h
theorem padD_val (v m : Nat) : val (padD v m) = v := by rw [padD, padL_val, val_dig]
theorem okD_padD (v m : Nat) : okD (padD v m) := fun d hd => by
  rcases List.mem_append.1 hd with hd | hd
  · exact okD_dig v d hd
  · have := (List.mem_replicate.1 hd).2; omega
theorem eq_of_val : ∀ {l r : List Int}, okD l → okD r → l.length = r.length → val l = val r → l = r
  | [], [], _, _, _, _ => rfl
  | d :: l, e :: r, h1, h2, hl, hv => by
    have g1 := h1 d (by simp)
    have g2 := h2 e (by simp)
    simp only [val] at hv
    have hde : d = e := by omega
    have ih := eq_of_val (l := l) (r := r) (fun x hx => h1 x (by simp [hx])) (fun x hx => h2 x (by simp [hx])) (by simpa using hl) (by omega)
    rw [hde, ih]
  | [], _ :: _, _, _, hl, _ => by simp at hl
  | _ :: _, [], _, _, hl, _ => by simp at hl
theorem pow_cast (n : Nat) : ((10000 ^ n : Nat) : Int) = (10000 : Int) ^ n := Int.natCast_pow ..
theorem lt_pow {a n : Nat} (h : (a : Int) < 10000 ^ n) : a < 10000 ^ n := by rw [← pow_cast] at h; omega
theorem pow_lt {a n : Nat} (h : a < 10000 ^ n) : (a : Int) < 10000 ^ n := by rw [← pow_cast]; omega
theorem eq_padD {l : List Int} {v : Nat} (h : okD l) (hv : val l = v) : l = padD v l.length := by
  have hl : (dig v).length ≤ l.length := by
    refine dig_len.2 ?_
    have := val_lt h
    rw [hv] at this
    exact lt_pow this
  exact eq_of_val h (okD_padD _ _) (padD_len hl).symm (by rw [hv, padD_val])
theorem okD_take {l : List Int} (h : okD l) (i : Nat) : okD (l.take i) := fun d hd => h d (List.mem_of_mem_take hd)
theorem okD_drop {l : List Int} (h : okD l) (i : Nat) : okD (l.drop i) := fun d hd => h d (List.mem_of_mem_drop hd)
theorem val_split {l : List Int} {i : Nat} (h : i ≤ l.length) : val l = val (l.take i) + 10000 ^ i * val (l.drop i) := by
  have e := val_append (l.take i) (l.drop i)
  rw [List.take_append_drop] at e
  rw [e]
  have : (l.take i).length = i := by simp; omega
  rw [this]
theorem val_take_lt {l : List Int} {i : Nat} (h : okD (l.take i)) (hi : i ≤ l.length) : 0 ≤ val (l.take i) ∧ val (l.take i) < 10000 ^ i := by
  have h1 := val_lt h
  have : (l.take i).length = i := by simp; omega
  rw [this] at h1
  exact ⟨val_nonneg h, h1⟩
/-- what stands behind the first digits -/
theorem val_drop_div {l : List Int} (h : okD l) {i : Nat} (hi : i ≤ l.length) : val (l.drop i) = val l / 10000 ^ i := by
  obtain ⟨h1, h2⟩ := val_take_lt (okD_take h i) hi
  have h3 := val_split hi
  have hp := pow_pos4 i
  generalize (10000 : Int) ^ i = P at *
  have := (div_of (A := val l) (B := P) (Q := val (l.drop i)) (R := val (l.take i)) (by rw [h3, Int.mul_comm P]; omega) h1 h2).1
  exact this.symm
theorem padD_at {v m j : Nat} (h : (dig v).length ≤ m) (hj : j < m) : nth (padD v m) j = some ((v / 10000 ^ j % 10000 : Nat) : Int) := by
  obtain ⟨x, hx⟩ := nth_some (show j < (padD v m).length by rw [padD_len h]; exact hj)
  have hk := okD_padD v m
  have h1 := val_drop_div hk (i := j) (by rw [padD_len h]; omega)
  rw [nth_drop hx, val, padD_val] at h1
  have hxk := of_okD hk hx
  rw [hx]; congr 1
  have e : ((v / 10000 ^ j : Nat) : Int) = (v : Int) / 10000 ^ j := by simp
  omega
theorem dig_at {v j : Nat} (hj : j < (dig v).length) : nth (dig v) j = some ((v / 10000 ^ j % 10000 : Nat) : Int) := by
  have := padD_at (v := v) (m := (dig v).length) (Nat.le_refl _) hj
  have e : padD v (dig v).length = dig v := by simp [padD, padL]
  rwa [e] at this
theorem div_pow (v i j : Nat) : v / 10000 ^ (i + j) = v / 10000 ^ i / 10000 ^ j := by rw [Nat.pow_add, Nat.div_div_eq_div_mul]
/-- the guess is not too small -/
theorem guess_le {R B W : Nat} (hw : 0 < W) (hb : 0 < B / W) : R / B ≤ (R / W) / (B / W) := by
  rw [Nat.le_div_iff_mul_le hb, Nat.le_div_iff_mul_le hw, Nat.mul_assoc]
  exact Nat.le_trans (Nat.mul_le_mul_left _ (Nat.div_mul_le_self B W)) (Nat.div_mul_le_self R B)
theorem three_digits {T : Nat} (h : T < 1000000000000) : ((T / 100000000 % 10000 * 10000 + T / 10000 % 10000) * 10000 + T % 10000) = T := by omega
theorem two_digits {T : Nat} (h : T < 100000000) : (T / 10000 % 10000 * 10000 + T % 10000) = T := by omega

/-- while q times the divisor is taken off: c is still to be taken off the next digit; E is what it will be -/
structure Off (B m i k : Nat) (q c E : Int) (o : List Int) : Prop where
  len : o.length = m
  ok : okD o
  c0 : 0 ≤ c ∧ c ≤ 9999
  high : ∀ j x, i + (dig B).length < j → nth o j = some x → x = 0
  eqv : val o - 10000 ^ (i + k) * (c + q * val ((dig B).drop k)) = E
theorem Off.step {B m i k : Nat} {q c E x d y : Int} {o : List Int} (h : Off B m i k q c E o) (hq : 0 ≤ q ∧ q ≤ 9999) (hx : nth o (i + k) = some x) (hd : nth (dig B) k = some d) (hy : y = x - q * d - c) :
    -99990000 ≤ y ∧ y ≤ 9999 ∧ (y < 0 → (0 - y + 10000 - 1).tdiv 10000 ≤ 9999 ∧ 0 ≤ (0 - y + 10000 - 1).tdiv 10000 ∧ 0 ≤ y + (0 - y + 10000 - 1).tdiv 10000 * 10000 ∧ y + (0 - y + 10000 - 1).tdiv 10000 * 10000 ≤ 9999 ∧ Off B m i (k + 1) q ((0 - y + 10000 - 1).tdiv 10000) E (o.set (i + k) (y + (0 - y + 10000 - 1).tdiv 10000 * 10000)))
      ∧ (¬ y < 0 → Off B m i (k + 1) q 0 E (o.set (i + k) y)) := by
  have hdk := of_okD (okD_dig B) hd
  have hxk := of_okD h.ok hx
  have hk := nth_lt hd
  have hc := h.c0
  have p0 : 0 ≤ q * d := Int.mul_nonneg hq.1 hdk.1
  have p1 : q * d ≤ 9999 * 9999 := Int.mul_le_mul hq.2 (by omega) hdk.1 (by omega)
  have hv := h.eqv
  rw [nth_drop hd, val, Int.mul_add q, Int.mul_left_comm] at hv
  have main : ∀ c' z : Int, 0 ≤ c' → c' ≤ 9999 → 0 ≤ z → z < 10000 → z = y + c' * 10000 → Off B m i (k + 1) q c' E (o.set (i + k) z) := fun c' z a1 a2 a3 a4 a5 => by
    refine ⟨by rw [List.length_set]; exact h.len, okD_set h.ok a3 a4, ⟨a1, a2⟩, fun j u hj hu => ?_, ?_⟩
    · rcases set_same hu with ⟨e, -⟩ | ⟨-, hu⟩
      · omega
      · exact h.high j u hj hu
    · rw [val_set hx, ← hv, ← Nat.add_assoc, Int.pow_succ, Int.mul_comm (z - x)]
      generalize (10000 : Int) ^ (i + k) = P at *
      generalize val ((dig B).drop (k + 1)) = D at *
      have e1 : P * 10000 * (c' + q * D) = P * (10000 * (c' + q * D)) := Int.mul_assoc ..
      have e2 : P * (z - x) = P * (10000 * (c' + q * D)) - P * (c + (q * d + 10000 * (q * D))) := by
        rw [← Int.mul_sub]; congr 1
        generalize q * D = u at *
        generalize q * d = t at *
        omega
      omega
  refine ⟨by omega, by omega, fun hn => ?_, fun hn => main 0 y (by omega) (by omega) (by omega) (by omega) (by omega)⟩
  have e : (0 - y + 10000 - 1).tdiv 10000 = (0 - y + 10000 - 1) / 10000 := Int.tdiv_eq_ediv_of_nonneg (by omega)
  rw [e]
  exact ⟨by omega, by omega, by omega, by omega, main _ _ (by omega) (by omega) (by omega) (by omega) rfl⟩
/-- between the rounds: all digits are in order but the top one, which may be negative -/
structure Mid (v B m i : Nat) (q : Int) (o : List Int) : Prop where
  len : o.length = m
  ok : ∀ j x, j ≠ i + (dig B).length → nth o j = some x → 0 ≤ x ∧ x < 10000
  top : ∀ x, nth o (i + (dig B).length) = some x → -10000 ≤ x ∧ x ≤ 9999
  high : ∀ j x, i + (dig B).length < j → nth o j = some x → x = 0
  q0 : ((v / 10000 ^ i / B : Nat) : Int) ≤ q ∧ q ≤ 9999
  eqv : val o = v - 10000 ^ i * (q * B)
theorem Off.start {v B m i : Nat} {q : Int} (hv : (dig v).length ≤ m) (hR : v / 10000 ^ i < 10000 * B) : Off B m i 0 q 0 (v - 10000 ^ i * (q * B)) (padD v m) := by
  refine ⟨padD_len hv, okD_padD v m, by omega, fun j x hj hx => ?_, ?_⟩
  · have hjm := nth_lt hx
    rw [padD_len hv] at hjm
    rw [padD_at hv hjm] at hx
    simp only [Option.some.injEq] at hx
    subst hx
    have hB := (dig_len (n := B) (k := (dig B).length)).1 (Nat.le_refl _)
    have e : v / 10000 ^ j = 0 := by
      have e1 : j = i + ((dig B).length + 1) + (j - (i + (dig B).length + 1)) := by omega
      rw [e1, div_pow, div_pow]
      have : v / 10000 ^ i / 10000 ^ ((dig B).length + 1) = 0 := Nat.div_eq_of_lt (by rw [Nat.pow_succ]; omega)
      rw [this, Nat.zero_div]
    rw [e]; rfl
  · rw [padD_val, List.drop_zero, val_dig, Nat.add_zero]; simp
theorem Off.done {v B m i : Nat} {q c x : Int} {o : List Int} (h : Off B m i (dig B).length q c (v - 10000 ^ i * (q * B)) o) (hx : nth o (i + (dig B).length) = some x) (hq : ((v / 10000 ^ i / B : Nat) : Int) ≤ q ∧ q ≤ 9999) : Mid v B m i q (o.set (i + (dig B).length) (x - c)) := by
  have hxk := of_okD h.ok hx
  have hc := h.c0
  refine ⟨by rw [List.length_set]; exact h.len, fun j u hj hu => ?_, fun u hu => ?_, fun j u hj hu => ?_, hq, ?_⟩
  · rcases set_same hu with ⟨e, -⟩ | ⟨-, hu⟩
    · omega
    · exact of_okD h.ok hu
  · rcases set_same hu with ⟨-, e⟩ | ⟨e, -⟩
    · omega
    · exact absurd rfl e
  · rcases set_same hu with ⟨e, -⟩ | ⟨-, hu⟩
    · omega
    · exact h.high j u hj hu
  · have hv := h.eqv
    rw [List.drop_length] at hv
    rw [val_set hx, ← hv]
    simp only [val, Int.mul_zero, Int.add_zero]
    have e : x - c - x = -c := by omega
    rw [e, Int.neg_mul, Int.mul_comm c]; omega
theorem Mid.val_eq {v B m i : Nat} {q x : Int} {o : List Int} (h : Mid v B m i q o) (hx : nth o (i + (dig B).length) = some x) : ∃ P, val o = P + 10000 ^ (i + (dig B).length) * x ∧ 0 ≤ P ∧ P < 10000 ^ (i + (dig B).length) := by
  have hl := nth_lt hx
  have hk : okD (o.take (i + (dig B).length)) := okD_of fun j y hy => by
    have hj := nth_lt hy
    have hj' : j < i + (dig B).length := by simp at hj; omega
    rw [nth_get, List.getElem?_take_of_lt hj', ← nth_get] at hy
    exact h.ok j y (by omega) hy
  obtain ⟨h1, h2⟩ := val_take_lt hk (by omega)
  refine ⟨_, ?_, h1, h2⟩
  rw [val_split (l := o) (i := i + (dig B).length) (by omega), nth_drop hx, val]
  have hz : ∀ l : List Int, (∀ d ∈ l, d = 0) → val l = 0 := fun l hl => by
    induction l with
    | nil => rfl
    | cons d l ih => rw [val, ih fun d hd => hl d (by simp [hd]), hl d (by simp)]; rfl
  rw [hz (o.drop (i + (dig B).length + 1)) fun d hd => by
    obtain ⟨j, hj⟩ := List.mem_iff_getElem?.1 hd
    rw [List.getElem?_drop] at hj
    exact h.high (i + (dig B).length + 1 + j) d (by omega) (by rw [nth_get]; exact hj)]
  simp
theorem v_split (v i : Nat) : ∃ L : Nat, (v : Int) = 10000 ^ i * ((v / 10000 ^ i : Nat) : Int) + L ∧ L < 10000 ^ i := by
  refine ⟨v % 10000 ^ i, ?_, Nat.mod_lt _ (Nat.pow_pos (by decide))⟩
  have h := Nat.div_add_mod v (10000 ^ i)
  have : ((10000 ^ i * (v / 10000 ^ i) + v % 10000 ^ i : Nat) : Int) = v := by rw [h]
  rw [← this]; simp
theorem Mid.neg {v B m i : Nat} {q x : Int} {o : List Int} (h : Mid v B m i q o) (hB : 0 < B) (hx : nth o (i + (dig B).length) = some x) (hn : x < 0) : ((v / 10000 ^ i / B : Nat) : Int) ≤ q - 1 := by
  obtain ⟨P, hP, h0, h1⟩ := h.val_eq hx
  obtain ⟨L, hL, hL1⟩ := v_split v i
  have hv := h.eqv
  have hp := pow_pos4 i
  have hpp := pow_pos4 (i + (dig B).length)
  have hneg : val o < 0 := by
    have : (10000 : Int) ^ (i + (dig B).length) * x ≤ 10000 ^ (i + (dig B).length) * (-1) := Int.mul_le_mul_of_nonneg_left (by omega) (by omega)
    omega
  have hlt : 10000 ^ i * (((v / 10000 ^ i : Nat) : Int) - q * B) < 0 := by rw [Int.mul_sub]; omega
  have hlt2 : ((v / 10000 ^ i : Nat) : Int) - q * B < 0 := by
    rcases Int.lt_or_le (((v / 10000 ^ i : Nat) : Int) - q * B) 0 with h | h
    · exact h
    · have := Int.mul_nonneg (Int.le_of_lt hp) h; omega
  have : ((v / 10000 ^ i / B : Nat) : Int) < q := by
    have e : ((v / 10000 ^ i / B : Nat) : Int) = ((v / 10000 ^ i : Nat) : Int) / (B : Int) := by simp
    rw [e]; exact Int.ediv_lt_of_lt_mul (by omega) (by omega)
  omega
theorem Mid.done {v B m i : Nat} {q x : Int} {o : List Int} (h : Mid v B m i q o) (hB : 0 < B) (hx : nth o (i + (dig B).length) = some x) (hn : ¬ x < 0) : q = ((v / 10000 ^ i / B : Nat) : Int) ∧ o = padD (v - 10000 ^ i * (v / 10000 ^ i / B * B)) m := by
  obtain ⟨P, hP, h0, h1⟩ := h.val_eq hx
  obtain ⟨L, hL, hL1⟩ := v_split v i
  have hv := h.eqv
  have hp := pow_pos4 i
  have hpp := pow_pos4 (i + (dig B).length)
  have hpos : 0 ≤ val o := by
    have : 0 ≤ (10000 : Int) ^ (i + (dig B).length) * x := Int.mul_nonneg (by omega) (by omega)
    omega
  have hL1' : (L : Int) < 10000 ^ i := pow_lt hL1
  have hgt : -(10000 ^ i) < 10000 ^ i * (((v / 10000 ^ i : Nat) : Int) - q * B) := by rw [Int.mul_sub]; omega
  have hge : 0 ≤ ((v / 10000 ^ i : Nat) : Int) - q * B := by
    rcases Int.lt_or_le (((v / 10000 ^ i : Nat) : Int) - q * B) 0 with h | h
    · have : (10000 : Int) ^ i * (((v / 10000 ^ i : Nat) : Int) - q * B) ≤ 10000 ^ i * (-1) := Int.mul_le_mul_of_nonneg_left (by omega) (by omega)
      omega
    · exact h
  have hqe : q = ((v / 10000 ^ i / B : Nat) : Int) := by
    have e : ((v / 10000 ^ i / B : Nat) : Int) = ((v / 10000 ^ i : Nat) : Int) / (B : Int) := by simp
    have h1 := h.q0.1
    have h2 : q ≤ ((v / 10000 ^ i : Nat) : Int) / (B : Int) := by rw [Int.le_ediv_iff_mul_le (by omega)]; omega
    omega
  refine ⟨hqe, ?_⟩
  have hk : okD o := okD_of fun j y hy => by
    by_cases e : j = i + (dig B).length
    · subst e; rw [hx] at hy; simp only [Option.some.injEq] at hy; have := h.top x hx; omega
    · exact h.ok j y e hy
  have hle : 10000 ^ i * (v / 10000 ^ i / B * B) ≤ v := by
    refine Nat.le_trans (Nat.mul_le_mul_left _ (Nat.div_mul_le_self _ _)) (Nat.mul_div_le _ _)
  have hval : val o = ((v - 10000 ^ i * (v / 10000 ^ i / B * B) : Nat) : Int) := by
    rw [hv, hqe, Int.ofNat_sub hle]; simp
  have := eq_padD hk hval
  rw [h.len] at this
  exact this
/-- while the divisor is put back once: c is still to be added to the next digit -/
structure Back (v B m i k : Nat) (q c : Int) (o : List Int) : Prop where
  len : o.length = m
  ok : ∀ j x, j ≠ i + (dig B).length → nth o j = some x → 0 ≤ x ∧ x < 10000
  top : ∀ x, nth o (i + (dig B).length) = some x → -10000 ≤ x ∧ x < 0
  high : ∀ j x, i + (dig B).length < j → nth o j = some x → x = 0
  c0 : 0 ≤ c ∧ c ≤ 1
  q0 : ((v / 10000 ^ i / B : Nat) : Int) ≤ q ∧ q ≤ 9999
  eqv : val o + 10000 ^ (i + k) * (c + val ((dig B).drop k)) = v - 10000 ^ i * (q * B)
theorem Mid.back {v B m i : Nat} {q x : Int} {o : List Int} (h : Mid v B m i q o) (hB : 0 < B) (hx : nth o (i + (dig B).length) = some x) (hn : x < 0) : Back v B m i 0 (q - 1) 0 o := by
  have h1 := h.neg hB hx hn
  refine ⟨h.len, h.ok, fun y hy => ?_, h.high, by omega, ⟨h1, by have := h.q0; omega⟩, ?_⟩
  · have := h.top y hy; rw [hx] at hy; simp only [Option.some.injEq] at hy; omega
  · rw [h.eqv, List.drop_zero, val_dig, Nat.add_zero, Int.sub_mul, Int.one_mul, Int.mul_sub, Int.zero_add]; omega
theorem Back.step {v B m i k : Nat} {q c x d y : Int} {o : List Int} (h : Back v B m i k q c o) (hx : nth o (i + k) = some x) (hd : nth (dig B) k = some d) (hy : y = x + d + c) :
    Back v B m i (k + 1) q (y.tdiv 10000) (o.set (i + k) (y.tmod 10000)) ∧ 0 ≤ y ∧ y ≤ 19999 ∧ 0 ≤ x ∧ x < 10000 := by
  have hdk := of_okD (okD_dig B) hd
  have hk := nth_lt hd
  have hxk := h.ok _ x (by omega) hx
  have hc := h.c0
  have e1 : y.tdiv 10000 = y / 10000 := Int.tdiv_eq_ediv_of_nonneg (by omega)
  have e2 : y.tmod 10000 = y % 10000 := Int.tmod_eq_emod_of_nonneg (by omega)
  refine ⟨⟨by rw [List.length_set]; exact h.len, fun j u hj hu => ?_, fun u hu => ?_, fun j u hj hu => ?_, by omega, h.q0, ?_⟩, by omega, by omega, hxk.1, hxk.2⟩
  · rcases set_same hu with ⟨-, e⟩ | ⟨-, hu⟩
    · omega
    · exact h.ok j u hj hu
  · rcases set_same hu with ⟨e, -⟩ | ⟨-, hu⟩
    · omega
    · exact h.top u hu
  · rcases set_same hu with ⟨e, -⟩ | ⟨-, hu⟩
    · omega
    · exact h.high j u hj hu
  · have hv := h.eqv
    rw [nth_drop hd, val] at hv
    rw [val_set hx, ← hv, ← Nat.add_assoc, Int.pow_succ, Int.mul_comm (y.tmod 10000 - x)]
    generalize (10000 : Int) ^ (i + k) = P at *
    generalize val ((dig B).drop (k + 1)) = D at *
    rw [Int.mul_assoc, Int.add_assoc, ← Int.mul_add]
    congr 2
    omega
theorem Back.done {v B m i : Nat} {q c x : Int} {o : List Int} (h : Back v B m i (dig B).length q c o) (hx : nth o (i + (dig B).length) = some x) : Mid v B m i q (o.set (i + (dig B).length) (x + c)) := by
  have hxk := h.top x hx
  have hc := h.c0
  refine ⟨by rw [List.length_set]; exact h.len, fun j u hj hu => ?_, fun u hu => ?_, fun j u hj hu => ?_, h.q0, ?_⟩
  · rcases set_same hu with ⟨e, -⟩ | ⟨-, hu⟩
    · omega
    · exact h.ok j u hj hu
  · rcases set_same hu with ⟨-, e⟩ | ⟨e, -⟩
    · omega
    · exact absurd rfl e
  · rcases set_same hu with ⟨e, -⟩ | ⟨-, hu⟩
    · omega
    · exact h.high j u hj hu
  · have hv := h.eqv
    rw [List.drop_length] at hv
    rw [val_set hx, ← hv]
    simp only [val, Int.add_zero]
    have e : x + c - x = c := by omega
    rw [e, Int.mul_comm c]
end Go.Proofs.Ytmgbmbganlndkaa
/-
  Quotients of digits: one digit of a quotient, walked.
-/

namespace Go.Proofs.Ytmgbmbganlndkaa
open Go

theorem guess {v B i : Nat} (hB2 : 2 ≤ (dig B).length) (hR : v / 10000 ^ i < 10000 * B) : ∃ T U : Nat,
    v / 10000 ^ (i + (dig B).length) % 10000 = T / 100000000 % 10000 ∧ v / 10000 ^ (i + (dig B).length - 1) % 10000 = T / 10000 % 10000 ∧ v / 10000 ^ (i + (dig B).length - 2) % 10000 = T % 10000 ∧ T < 1000000000000 ∧
    B / 10000 ^ ((dig B).length - 1) % 10000 = U / 10000 % 10000 ∧ B / 10000 ^ ((dig B).length - 2) % 10000 = U % 10000 ∧ U < 100000000 ∧ 10000 ≤ U ∧ v / 10000 ^ i / B ≤ T / U ∧ v / 10000 ^ i / B ≤ 9999 := by
  obtain ⟨m, hm⟩ : ∃ m, (dig B).length = m + 2 := ⟨(dig B).length - 2, by omega⟩
  have hB := (dig_len (n := B) (k := m + 2)).1 (by omega)
  have hB1 : 10000 ^ (m + 1) ≤ B := by
    rcases Nat.lt_or_ge B (10000 ^ (m + 1)) with h | h
    · have := (dig_len (n := B) (k := m + 1)).2 h; omega
    · exact h
  rw [hm]
  have hW : 0 < 10000 ^ m := Nat.pow_pos (by decide)
  have e0 : i + (m + 2) = (i + m) + 2 := by omega
  have e1 : i + (m + 2) - 1 = (i + m) + 1 := by omega
  have e2 : i + (m + 2) - 2 = i + m := by omega
  have e3 : m + 2 - 1 = m + 1 := by omega
  have e4 : m + 2 - 2 = m := by omega
  rw [e2, e1, e0, e3, e4, div_pow v (i + m) 2, div_pow v (i + m) 1, div_pow B m 1]
  refine ⟨v / 10000 ^ (i + m), B / 10000 ^ m, rfl, rfl, rfl, ?_, rfl, rfl, ?_, ?_, ?_, ?_⟩
  · rw [div_pow, Nat.div_lt_iff_lt_mul hW]
    rw [Nat.pow_add] at hB
    generalize 10000 ^ m = W at *
    have : (10000 : Nat) ^ 2 = 100000000 := by decide
    rw [this] at hB
    omega
  · rw [Nat.div_lt_iff_lt_mul hW]
    rw [Nat.pow_add] at hB
    have : (10000 : Nat) ^ 2 = 100000000 := by decide
    rw [this] at hB
    omega
  · rw [Nat.le_div_iff_mul_le hW]
    rw [Nat.pow_add] at hB1
    omega
  · rw [div_pow]
    refine guess_le hW ?_
    rw [Nat.div_pos_iff]
    refine ⟨hW, ?_⟩
    rw [Nat.pow_add] at hB1
    omega
  · have : v / 10000 ^ i / B < 10000 := by
      rw [Nat.div_lt_iff_lt_mul (by omega)]; omega
    omega
section
variable (tk : List Nat) (k : Nat)
set_option maxRecDepth 100000 in
set_option maxHeartbeats 1000000 in
theorem big_digit (v B m i : Nat) (out : List Int) (hv : (dig v).length ≤ m) (hm : m ≤ 100001) (hB2 : 2 ≤ (dig B).length) (him : i + (dig B).length < m) (hR : v / 10000 ^ i < 10000 * B) :
    cL Try.prog 81 [.sref 0 0 0 m 1, digA (dig B), .int (i : Nat)] [⟨0, (padD v m).map numC⟩, ⟨1, out.map numC⟩] tk k = some (.int ((v / 10000 ^ i / B : Nat) : Int), [⟨0, (padD (v - 10000 ^ i * (v / 10000 ^ i / B * B)) m).map numC⟩, ⟨1, out.map numC⟩], tk, k) := by
  have hB0 : 0 < B := by
    rcases Nat.eq_zero_or_pos B with h | h
    · subst h; simp [dig_zero] at hB2
    · exact h
  obtain ⟨T, U, t2, t1, t0, hT, u1, u0, hU, hU1, hg, hq9⟩ := guess hB2 hR
  have n2 := nth_num (padD_at hv him)
  have n1 := nth_num (padD_at hv (j := i + (dig B).length - 1) (by omega))
  have n0 := nth_num (padD_at hv (j := i + (dig B).length - 2) (by omega))
  have b1 := nth_dig (dig_at (v := B) (j := (dig B).length - 1) (by omega))
  have b0 := nth_dig (dig_at (v := B) (j := (dig B).length - 2) (by omega))
  rw [t2] at n2
  rw [t1] at n1
  rw [t0] at n0
  rw [u1] at b1
  rw [u0] at b0
  have hin2 : i + (dig B).length < m := him
  have hin1 : i + (dig B).length - 1 < m := by omega
  have hin0 : i + (dig B).length - 2 < m := by omega
  have wn : IntKind.i64.wrap ((i : Int) + ((dig B).length : Int)) = ((i + (dig B).length : Nat) : Int) := by rw [wrap_of (by unfold i64; omega)]; omega
  have wn1 : IntKind.i64.wrap (((i + (dig B).length : Nat) : Int) - 1) = ((i + (dig B).length - 1 : Nat) : Int) := by rw [wrap_of (by unfold i64; omega)]; omega
  have wn2 : IntKind.i64.wrap (((i + (dig B).length : Nat) : Int) - 2) = ((i + (dig B).length - 2 : Nat) : Int) := by rw [wrap_of (by unfold i64; omega)]; omega
  have wb1 : IntKind.i64.wrap (((dig B).length : Int) - 1) = (((dig B).length - 1 : Nat) : Int) := by rw [wrap_of (by unfold i64; omega)]; omega
  have wb2 : IntKind.i64.wrap (((dig B).length : Int) - 2) = (((dig B).length - 2 : Nat) : Int) := by rw [wrap_of (by unfold i64; omega)]; omega
  have g1 : IntKind.i64.wrap (((T / 100000000 % 10000 : Nat) : Int) * 10000) = ((T / 100000000 % 10000 : Nat) : Int) * 10000 := wrap_of (by unfold i64; omega)
  have g2 : IntKind.i64.wrap (((T / 100000000 % 10000 : Nat) : Int) * 10000 + ((T / 10000 % 10000 : Nat) : Int)) = ((T / 100000000 % 10000 : Nat) : Int) * 10000 + ((T / 10000 % 10000 : Nat) : Int) := wrap_of (by unfold i64; omega)
  have g3 : IntKind.i64.wrap ((((T / 100000000 % 10000 : Nat) : Int) * 10000 + ((T / 10000 % 10000 : Nat) : Int)) * 10000) = (((T / 100000000 % 10000 : Nat) : Int) * 10000 + ((T / 10000 % 10000 : Nat) : Int)) * 10000 := wrap_of (by unfold i64; omega)
  have g4 : IntKind.i64.wrap ((((T / 100000000 % 10000 : Nat) : Int) * 10000 + ((T / 10000 % 10000 : Nat) : Int)) * 10000 + ((T % 10000 : Nat) : Int)) = (T : Int) := by rw [wrap_of (by unfold i64; omega)]; omega
  have g5 : IntKind.i64.wrap (((U / 10000 % 10000 : Nat) : Int) * 10000) = ((U / 10000 % 10000 : Nat) : Int) * 10000 := wrap_of (by unfold i64; omega)
  have g6 : IntKind.i64.wrap (((U / 10000 % 10000 : Nat) : Int) * 10000 + ((U % 10000 : Nat) : Int)) = (U : Int) := by rw [wrap_of (by unfold i64; omega)]; omega
  have hz : ¬ ((U : Int) = 0) := by omega
  have hTU : T / U ≤ T := Nat.div_le_self _ _
  obtain ⟨G, hG⟩ : ∃ G : Nat, G = T / U := ⟨_, rfl⟩
  have hqt0 : (0 : Int) ≤ ((v / 10000 ^ i / B : Nat) : Int) := Int.natCast_nonneg _
  have g7 : IntKind.i64.wrap ((T : Int).tdiv U) = (G : Int) := by
    rw [Int.tdiv_eq_ediv_of_nonneg (Int.natCast_nonneg _), ← Int.natCast_ediv, ← hG]
    rw [← hG] at hTU
    exact wrap_of (by unfold i64; omega)
  rw [← hG] at hg
  obtain ⟨q, hq⟩ : ∃ q : Int, (if (9999 : Int) < (G : Int) then (9999 : Int) else (G : Int)) = q := ⟨_, rfl⟩
  have hq0 : ((v / 10000 ^ i / B : Nat) : Int) ≤ q ∧ q ≤ 9999 := by
    have hg' : ((v / 10000 ^ i / B : Nat) : Int) ≤ (G : Int) := Int.ofNat_le.2 hg
    have hq9' : ((v / 10000 ^ i / B : Nat) : Int) ≤ 9999 := Int.ofNat_le.2 hq9
    rw [← hq]; generalize ((v / 10000 ^ i / B : Nat) : Int) = t at *
    split <;> omega
  have hq1 : 0 ≤ q := Int.le_trans hqt0 hq0.1
  have hst := Off.start (q := q) hv hR
  refine call_shared Try.func81 rfl rfl (by decide +kernel) Try.ntmps81 rfl ?_; rw [RK_KX]
  simp (maxSteps := 1000000) +contextual (disch := first | with_reducible assumption | exact ⟨rfl⟩ | exact ⟨rfl, rfl⟩ | (refine _root_.id ?_; kernel_rfl) | omega) only [evs, ext_mv, nth, put, putT, getT, binInt, binStr, binBool, aUn, outA, resA, mapO, resA1, oneOf, w1, w2, w3, bots, cond_true, cond_false, if_true, if_false, ite_true, ite_false, reduceIte, reduceCtorEq, implies_true, Nat.reduceAdd, Nat.reduceSub, AV.int, AV.bool, AV.str, Nat.reduceBEq, Nat.reduceEqDiff, Nat.reduceMul, Nat.reduceLT, Nat.reduceLeDiff, Int.reduceNeg, BEq.rfl, beq_self_eq_true, tabl, cellsOf, fldA, ldA, stA, entAt, partA, takeN, over, leafOk, Value.oneCell', idxA, nilA, cellsEq, fillA, elemsA, pure1, pure2, reps, chkA, tys, Try.results81, KX_draw, KX_drawQ, KX_tail, lastO_one, lastO_more, dropL_one, dropL_more, callP_eq, callM_true, digA, n2, n1, n0, b1, b0, hin2, hin1, hin0, wn, wn1, wn2, wb1, wb2, g1, g2, g3, g4, g5, g6, g7, hz, hq, Nat.mul_one]
  clear hq g1 g2 g3 g4 g5 g6 g7 n2 n1 n0 b1 b0 wn1 wn2 wb1 wb2 t2 t1 t0 u1 u0 hg
  refine loopS (fun x st => st.T.length = 151 ∧ (x.1 ≤ (dig B).length) ∧ (Off B m i x.1 q x.2.1 (v - 10000 ^ i * (q * B)) x.2.2) ∧ getT st.T 0 = .sref 0 0 0 m 1 ∧ getT st.T 1 = digA (dig B) ∧ getT st.T 2 = .int (i : Nat) ∧ getT st.T 7 = .int (dig B).length ∧ getT st.T 9 = .int q ∧ getT st.T 10 = .int x.2.1 ∧ getT st.T 59 = digA (dig B) ∧ getT st.T 60 = .int (dig B).length ∧ getT st.T 61 = .int (x.1 : Nat) ∧ st.S = [⟨0, x.2.2.map numC⟩, ⟨1, out.map numC⟩] ∧ st.tk = tk ∧ st.n = k) (fun x => (dig B).length - x.1) (fun x => (.int ((v / 10000 ^ i / B : Nat) : Int), [⟨0, (padD (v - 10000 ^ i * (v / 10000 ^ i / B * B)) m).map numC⟩, ⟨1, out.map numC⟩], tk, k)) (0, 0, padD v m) ?_ ?_
  case refine_2 => exact ⟨rfl, Nat.zero_le _, hst, rfl, rfl, rfl, rfl, rfl, rfl, rfl, rfl, rfl, rfl, rfl, rfl⟩
  rintro ⟨kk, c, o⟩ ⟨T, S', tk', n'⟩ ⟨hl, hk, hp, e0, e1, e2, e7, e9, e10, e59, e60, e61, eS, eT, eN⟩ IH
  simp only at hk hp e0 e1 e2 e7 e9 e10 e59 e60 e61 eS eT eN
  subst eS eT eN
  obtain ⟨g, hg, hT⟩ := tab_of hl
  rw [hg] at e0 e1 e2 e7 e9 e10 e59 e60 e61
  subst hT
  clear hg hl
  have hlen := hp.len
  have hc := hp.c0
  by_cases hlt : kk < (dig B).length
  · have d2 : decide ((kk : Int) < ((dig B).length : Int)) = true := by simpa using hlt
    obtain ⟨d, hd⟩ := nth_some hlt
    have hd' := nth_dig hd
    have hdk := of_okD (okD_dig B) hd
    have hiw := wrap_add (i := kk) (by omega)
    have hik : IntKind.i64.wrap ((i : Int) + (kk : Int)) = ((i + kk : Nat) : Int) := by rw [wrap_of (by unfold i64; omega)]; omega
    have hin : i + kk < m := by omega
    obtain ⟨x, hx⟩ := nth_some (show i + kk < o.length by omega)
    have hx' := nth_num hx
    have hxk := of_okD hp.ok hx
    obtain ⟨y, hy⟩ : ∃ y, y = x - q * d - c := ⟨_, rfl⟩
    obtain ⟨y0, y1, hneg, hpos⟩ := hp.step ⟨hq1, hq0.2⟩ hx hd hy
    have p0 : 0 ≤ q * d := Int.mul_nonneg hq1 hdk.1
    have p1 : q * d ≤ 9999 * 9999 := Int.mul_le_mul hq0.2 (by omega) hdk.1 (by omega)
    have f1 : IntKind.i64.wrap (q * d) = q * d := wrap_of (by unfold i64; omega)
    have f2 : IntKind.i64.wrap (x - q * d) = x - q * d := wrap_of (by unfold i64; omega)
    have f3 : IntKind.i64.wrap (x - q * d - c) = y := by rw [hy, wrap_of (by unfold i64; omega)]
    by_cases hn : y < 0
    · have d3 : decide (y < 0) = true := by simpa using hn
      obtain ⟨r1, r2, r3, r4, hnext⟩ := hneg hn
      have f4 : IntKind.i64.wrap (0 - y) = 0 - y := wrap_of (by unfold i64; omega)
      have f5 : IntKind.i64.wrap (0 - y + 10000) = 0 - y + 10000 := wrap_of (by unfold i64; omega)
      have f6 : IntKind.i64.wrap (0 - y + 10000 - 1) = 0 - y + 10000 - 1 := wrap_of (by unfold i64; omega)
      have hz2 : ¬ ((10000 : Int) = 0) := by omega
      obtain ⟨c', hc'⟩ : ∃ c', c' = (0 - y + 10000 - 1).tdiv 10000 := ⟨_, rfl⟩
      rw [← hc'] at r1 r2 r3 r4 hnext
      have f7 : IntKind.i64.wrap ((0 - y + 10000 - 1).tdiv 10000) = c' := by rw [← hc', wrap_of (by unfold i64; omega)]
      have f8 : IntKind.i64.wrap (c' * 10000) = c' * 10000 := wrap_of (by unfold i64; omega)
      have f9 : IntKind.i64.wrap (y + c' * 10000) = y + c' * 10000 := wrap_of (by unfold i64; omega)
      have hov := over_num (v := y + c' * 10000) hx
      simp (maxSteps := 1000000) +contextual (disch := first | with_reducible assumption | exact ⟨rfl⟩ | exact ⟨rfl, rfl⟩ | (refine _root_.id ?_; kernel_rfl) | omega) only [evs, ext_mv, nth, put, putT, getT, binInt, binStr, binBool, aUn, outA, resA, mapO, resA1, oneOf, w1, w2, w3, bots, cond_true, cond_false, if_true, if_false, ite_true, ite_false, reduceIte, reduceCtorEq, implies_true, Nat.reduceAdd, Nat.reduceSub, AV.int, AV.bool, AV.str, Nat.reduceBEq, Nat.reduceEqDiff, Nat.reduceMul, Nat.reduceLT, Nat.reduceLeDiff, Int.reduceNeg, BEq.rfl, beq_self_eq_true, tabl, cellsOf, fldA, ldA, stA, entAt, partA, takeN, over, leafOk, Value.oneCell', idxA, nilA, cellsEq, fillA, elemsA, pure1, pure2, reps, chkA, tys, Try.results81, KX_draw, KX_drawQ, KX_tail, lastO_one, lastO_more, dropL_one, dropL_more, callP_eq, callM_true, digA, e0, e1, e2, e7, e9, e10, e59, e60, e61, d2, d3, hd', hiw, hik, hx', hin, f1, f2, f3, f4, f5, f6, f7, f8, f9, hz2, hov, Nat.mul_one]
      exact IH (kk + 1, c', o.set (i + kk) (y + c' * 10000)) _ (by first | omega | (simp only; omega)) ⟨rfl, by first | omega | (dsimp only; omega), hnext, (by first | rfl | simp only [getT, List.map_append, List.map_cons, List.map_nil, digC, digA]), (by first | rfl | simp only [getT, List.map_append, List.map_cons, List.map_nil, digC, digA]), (by first | rfl | simp only [getT, List.map_append, List.map_cons, List.map_nil, digC, digA]), (by first | rfl | simp only [getT, List.map_append, List.map_cons, List.map_nil, digC, digA]), (by first | rfl | simp only [getT, List.map_append, List.map_cons, List.map_nil, digC, digA]), (by first | rfl | simp only [getT, List.map_append, List.map_cons, List.map_nil, digC, digA]), (by first | rfl | simp only [getT, List.map_append, List.map_cons, List.map_nil, digC, digA]), (by first | rfl | simp only [getT, List.map_append, List.map_cons, List.map_nil, digC, digA]), (by first | rfl | simp only [getT, List.map_append, List.map_cons, List.map_nil, digC, digA]), (by first | rfl | simp only [getT, List.map_append, List.map_cons, List.map_nil, digC, digA]), rfl, rfl⟩
    · have d3 : decide (y < 0) = false := by simpa using hn
      have hov := over_num (v := y) hx
      simp (maxSteps := 1000000) +contextual (disch := first | with_reducible assumption | exact ⟨rfl⟩ | exact ⟨rfl, rfl⟩ | (refine _root_.id ?_; kernel_rfl) | omega) only [evs, ext_mv, nth, put, putT, getT, binInt, binStr, binBool, aUn, outA, resA, mapO, resA1, oneOf, w1, w2, w3, bots, cond_true, cond_false, if_true, if_false, ite_true, ite_false, reduceIte, reduceCtorEq, implies_true, Nat.reduceAdd, Nat.reduceSub, AV.int, AV.bool, AV.str, Nat.reduceBEq, Nat.reduceEqDiff, Nat.reduceMul, Nat.reduceLT, Nat.reduceLeDiff, Int.reduceNeg, BEq.rfl, beq_self_eq_true, tabl, cellsOf, fldA, ldA, stA, entAt, partA, takeN, over, leafOk, Value.oneCell', idxA, nilA, cellsEq, fillA, elemsA, pure1, pure2, reps, chkA, tys, Try.results81, KX_draw, KX_drawQ, KX_tail, lastO_one, lastO_more, dropL_one, dropL_more, callP_eq, callM_true, digA, e0, e1, e2, e7, e9, e10, e59, e60, e61, d2, d3, hd', hiw, hik, hx', hin, f1, f2, f3, hov, Nat.mul_one]
      exact IH (kk + 1, 0, o.set (i + kk) y) _ (by first | omega | (simp only; omega)) ⟨rfl, by first | omega | (dsimp only; omega), hpos hn, (by first | rfl | simp only [getT, List.map_append, List.map_cons, List.map_nil, digC, digA]), (by first | rfl | simp only [getT, List.map_append, List.map_cons, List.map_nil, digC, digA]), (by first | rfl | simp only [getT, List.map_append, List.map_cons, List.map_nil, digC, digA]), (by first | rfl | simp only [getT, List.map_append, List.map_cons, List.map_nil, digC, digA]), (by first | rfl | simp only [getT, List.map_append, List.map_cons, List.map_nil, digC, digA]), (by first | rfl | simp only [getT, List.map_append, List.map_cons, List.map_nil, digC, digA]), (by first | rfl | simp only [getT, List.map_append, List.map_cons, List.map_nil, digC, digA]), (by first | rfl | simp only [getT, List.map_append, List.map_cons, List.map_nil, digC, digA]), (by first | rfl | simp only [getT, List.map_append, List.map_cons, List.map_nil, digC, digA]), (by first | rfl | simp only [getT, List.map_append, List.map_cons, List.map_nil, digC, digA]), rfl, rfl⟩
  have d2 : decide ((kk : Int) < ((dig B).length : Int)) = false := by simpa using hlt
  have hke : kk = (dig B).length := by omega
  subst hke
  obtain ⟨x, hx⟩ := nth_some (show i + (dig B).length < o.length by omega)
  have hx' := nth_num hx
  have hxk := of_okD hp.ok hx
  have hmid := hp.done hx hq0
  have f1 : IntKind.i64.wrap (x - c) = x - c := wrap_of (by unfold i64; omega)
  have hov := over_num (v := x - c) hx
  clear hlen IH hst
  simp (maxSteps := 1000000) +contextual (disch := first | with_reducible assumption | exact ⟨rfl⟩ | exact ⟨rfl, rfl⟩ | (refine _root_.id ?_; kernel_rfl) | omega) only [evs, ext_mv, nth, put, putT, getT, binInt, binStr, binBool, aUn, outA, resA, mapO, resA1, oneOf, w1, w2, w3, bots, cond_true, cond_false, if_true, if_false, ite_true, ite_false, reduceIte, reduceCtorEq, implies_true, Nat.reduceAdd, Nat.reduceSub, AV.int, AV.bool, AV.str, Nat.reduceBEq, Nat.reduceEqDiff, Nat.reduceMul, Nat.reduceLT, Nat.reduceLeDiff, Int.reduceNeg, BEq.rfl, beq_self_eq_true, tabl, cellsOf, fldA, ldA, stA, entAt, partA, takeN, over, leafOk, Value.oneCell', idxA, nilA, cellsEq, fillA, elemsA, pure1, pure2, reps, chkA, tys, Try.results81, KX_draw, KX_drawQ, KX_tail, lastO_one, lastO_more, dropL_one, dropL_more, callP_eq, callM_true, digA, e0, e1, e2, e7, e9, e10, e59, e60, e61, d2, wn, hx', hin2, f1, hov, Nat.mul_one]
  clear f1 hx' hov hxk hp hlt d2 e0 e1 e2 e7 e9 e10 e59 e60 e61
  refine loopS (fun x st => st.T.length = 151 ∧ (Mid v B m i x.1 x.2) ∧ getT st.T 0 = .sref 0 0 0 m 1 ∧ getT st.T 1 = digA (dig B) ∧ getT st.T 2 = .int (i : Nat) ∧ getT st.T 7 = .int (dig B).length ∧ getT st.T 9 = .int x.1 ∧ st.S = [⟨0, x.2.map numC⟩, ⟨1, out.map numC⟩] ∧ st.tk = tk' ∧ st.n = n') (fun x => x.1.toNat) (fun x => (.int ((v / 10000 ^ i / B : Nat) : Int), [⟨0, (padD (v - 10000 ^ i * (v / 10000 ^ i / B * B)) m).map numC⟩, ⟨1, out.map numC⟩], tk', n')) (q, o.set (i + (dig B).length) (x - c)) ?_ ?_
  case refine_2 => exact ⟨rfl, hmid, rfl, rfl, rfl, rfl, rfl, rfl, rfl, rfl⟩
  rintro ⟨q2, o2⟩ ⟨T, S', tk', n'⟩ ⟨hl, hp, e0, e1, e2, e7, e9, eS, eT, eN⟩ IH
  simp only at hp e0 e1 e2 e7 e9 eS eT eN
  subst eS eT eN
  obtain ⟨g, hg, hT⟩ := tab_of hl
  rw [hg] at e0 e1 e2 e7 e9
  subst hT
  clear hg hl
  have OUT := IH
  clear IH
  have hlen := hp.len
  have hq2 := hp.q0
  obtain ⟨z, hz⟩ := nth_some (show i + (dig B).length < o2.length by omega)
  have hz' := nth_num hz
  have hzk := hp.top z hz
  by_cases hn : z < 0
  case neg =>
    have d3 : decide (z < 0) = false := by simpa using hn
    obtain ⟨r1, r2⟩ := hp.done hB0 hz hn
    simp (maxSteps := 1000000) +contextual (disch := first | with_reducible assumption | exact ⟨rfl⟩ | exact ⟨rfl, rfl⟩ | (refine _root_.id ?_; kernel_rfl) | omega) only [evs, ext_mv, nth, put, putT, getT, binInt, binStr, binBool, aUn, outA, resA, mapO, resA1, oneOf, w1, w2, w3, bots, cond_true, cond_false, if_true, if_false, ite_true, ite_false, reduceIte, reduceCtorEq, implies_true, Nat.reduceAdd, Nat.reduceSub, AV.int, AV.bool, AV.str, Nat.reduceBEq, Nat.reduceEqDiff, Nat.reduceMul, Nat.reduceLT, Nat.reduceLeDiff, Int.reduceNeg, BEq.rfl, beq_self_eq_true, tabl, cellsOf, fldA, ldA, stA, entAt, partA, takeN, over, leafOk, Value.oneCell', idxA, nilA, cellsEq, fillA, elemsA, pure1, pure2, reps, chkA, tys, Try.results81, KX_draw, KX_drawQ, KX_tail, lastO_one, lastO_more, dropL_one, dropL_more, callP_eq, callM_true, digA, e0, e1, e2, e7, e9, d3, wn, hz', hin2, Nat.mul_one]
    rw [r1, r2]
  have d3 : decide (z < 0) = true := by simpa using hn
  have hq3 := hp.neg hB0 hz hn
  have f1 : IntKind.i64.wrap (q2 - 1) = q2 - 1 := wrap_of (by unfold i64; omega)
  have hbk := hp.back hB0 hz hn
  simp (maxSteps := 1000000) +contextual (disch := first | with_reducible assumption | exact ⟨rfl⟩ | exact ⟨rfl, rfl⟩ | (refine _root_.id ?_; kernel_rfl) | omega) only [evs, ext_mv, nth, put, putT, getT, binInt, binStr, binBool, aUn, outA, resA, mapO, resA1, oneOf, w1, w2, w3, bots, cond_true, cond_false, if_true, if_false, ite_true, ite_false, reduceIte, reduceCtorEq, implies_true, Nat.reduceAdd, Nat.reduceSub, AV.int, AV.bool, AV.str, Nat.reduceBEq, Nat.reduceEqDiff, Nat.reduceMul, Nat.reduceLT, Nat.reduceLeDiff, Int.reduceNeg, BEq.rfl, beq_self_eq_true, tabl, cellsOf, fldA, ldA, stA, entAt, partA, takeN, over, leafOk, Value.oneCell', idxA, nilA, cellsEq, fillA, elemsA, pure1, pure2, reps, chkA, tys, Try.results81, KX_draw, KX_drawQ, KX_tail, lastO_one, lastO_more, dropL_one, dropL_more, callP_eq, callM_true, digA, e0, e1, e2, e7, e9, d3, wn, hz', hin2, f1, Nat.mul_one]
  clear e0 e1 e2 e7 e9 d3 hz' f1 hlen hp
  refine loopS (fun x st => st.T.length = 151 ∧ (x.1 ≤ (dig B).length) ∧ (Back v B m i x.1 (q2 - 1) x.2.1 x.2.2) ∧ getT st.T 0 = .sref 0 0 0 m 1 ∧ getT st.T 1 = digA (dig B) ∧ getT st.T 2 = .int (i : Nat) ∧ getT st.T 7 = .int (dig B).length ∧ getT st.T 9 = .int (q2 - 1) ∧ getT st.T 14 = .int x.2.1 ∧ getT st.T 114 = digA (dig B) ∧ getT st.T 115 = .int (dig B).length ∧ getT st.T 116 = .int (x.1 : Nat) ∧ st.S = [⟨0, x.2.2.map numC⟩, ⟨1, out.map numC⟩] ∧ st.tk = tk' ∧ st.n = n') (fun x => (dig B).length - x.1) (fun x => (.int ((v / 10000 ^ i / B : Nat) : Int), [⟨0, (padD (v - 10000 ^ i * (v / 10000 ^ i / B * B)) m).map numC⟩, ⟨1, out.map numC⟩], tk', n')) (0, 0, o2) ?_ ?_
  case refine_2 => exact ⟨rfl, Nat.zero_le _, hbk, rfl, rfl, rfl, rfl, rfl, rfl, rfl, rfl, rfl, rfl, rfl, rfl⟩
  rintro ⟨kk, c, o3⟩ ⟨T, S', tk', n'⟩ ⟨hl, hk, hp, e0, e1, e2, e7, e9, e14, e114, e115, e116, eS, eT, eN⟩ IH
  simp only at hk hp e0 e1 e2 e7 e9 e14 e114 e115 e116 eS eT eN
  subst eS eT eN
  obtain ⟨g, hg, hT⟩ := tab_of hl
  rw [hg] at e0 e1 e2 e7 e9 e14 e114 e115 e116
  subst hT
  clear hg hl
  have hlen := hp.len
  have hc := hp.c0
  by_cases hlt : kk < (dig B).length
  · have d2 : decide ((kk : Int) < ((dig B).length : Int)) = true := by simpa using hlt
    obtain ⟨d, hd⟩ := nth_some hlt
    have hd' := nth_dig hd
    have hdk := of_okD (okD_dig B) hd
    have hiw := wrap_add (i := kk) (by omega)
    have hik : IntKind.i64.wrap ((i : Int) + (kk : Int)) = ((i + kk : Nat) : Int) := by rw [wrap_of (by unfold i64; omega)]; omega
    have hin : i + kk < m := by omega
    obtain ⟨x, hx⟩ := nth_some (show i + kk < o3.length by omega)
    have hx' := nth_num hx
    obtain ⟨y, hy⟩ : ∃ y, y = x + d + c := ⟨_, rfl⟩
    obtain ⟨hnext, y0, y1, x0, x1⟩ := hp.step hx hd hy
    have f2 : IntKind.i64.wrap (x + d) = x + d := wrap_of (by unfold i64; omega)
    have f3 : IntKind.i64.wrap (x + d + c) = y := by rw [hy, wrap_of (by unfold i64; omega)]
    have hz2 : ¬ ((10000 : Int) = 0) := by omega
    have ey : y.tdiv 10000 = y / 10000 := Int.tdiv_eq_ediv_of_nonneg y0
    have f7 : IntKind.i64.wrap (y.tdiv 10000) = y.tdiv 10000 := by rw [ey, wrap_of (by unfold i64; omega)]
    have hov := over_num (v := y.tmod 10000) hx
    simp (maxSteps := 1000000) +contextual (disch := first | with_reducible assumption | exact ⟨rfl⟩ | exact ⟨rfl, rfl⟩ | (refine _root_.id ?_; kernel_rfl) | omega) only [evs, ext_mv, nth, put, putT, getT, binInt, binStr, binBool, aUn, outA, resA, mapO, resA1, oneOf, w1, w2, w3, bots, cond_true, cond_false, if_true, if_false, ite_true, ite_false, reduceIte, reduceCtorEq, implies_true, Nat.reduceAdd, Nat.reduceSub, AV.int, AV.bool, AV.str, Nat.reduceBEq, Nat.reduceEqDiff, Nat.reduceMul, Nat.reduceLT, Nat.reduceLeDiff, Int.reduceNeg, BEq.rfl, beq_self_eq_true, tabl, cellsOf, fldA, ldA, stA, entAt, partA, takeN, over, leafOk, Value.oneCell', idxA, nilA, cellsEq, fillA, elemsA, pure1, pure2, reps, chkA, tys, Try.results81, KX_draw, KX_drawQ, KX_tail, lastO_one, lastO_more, dropL_one, dropL_more, callP_eq, callM_true, digA, e0, e1, e2, e7, e9, e14, e114, e115, e116, d2, hd', hiw, hik, hx', hin, f2, f3, f7, hz2, hov, Nat.mul_one]
    exact IH (kk + 1, y.tdiv 10000, o3.set (i + kk) (y.tmod 10000)) _ (by first | omega | (simp only; omega)) ⟨rfl, by first | omega | (dsimp only; omega), hnext, (by first | rfl | simp only [getT, List.map_append, List.map_cons, List.map_nil, digC, digA]), (by first | rfl | simp only [getT, List.map_append, List.map_cons, List.map_nil, digC, digA]), (by first | rfl | simp only [getT, List.map_append, List.map_cons, List.map_nil, digC, digA]), (by first | rfl | simp only [getT, List.map_append, List.map_cons, List.map_nil, digC, digA]), (by first | rfl | simp only [getT, List.map_append, List.map_cons, List.map_nil, digC, digA]), (by first | rfl | simp only [getT, List.map_append, List.map_cons, List.map_nil, digC, digA]), (by first | rfl | simp only [getT, List.map_append, List.map_cons, List.map_nil, digC, digA]), (by first | rfl | simp only [getT, List.map_append, List.map_cons, List.map_nil, digC, digA]), (by first | rfl | simp only [getT, List.map_append, List.map_cons, List.map_nil, digC, digA]), (by first | rfl | simp only [getT, List.map_append, List.map_cons, List.map_nil, digC, digA]), rfl, rfl⟩
  have d2 : decide ((kk : Int) < ((dig B).length : Int)) = false := by simpa using hlt
  have hke : kk = (dig B).length := by omega
  subst hke
  obtain ⟨x, hx⟩ := nth_some (show i + (dig B).length < o3.length by omega)
  have hx' := nth_num hx
  have hxk := hp.top x hx
  have hmid2 := hp.done hx
  have f1 : IntKind.i64.wrap (x + c) = x + c := wrap_of (by unfold i64; omega)
  have hov := over_num (v := x + c) hx
  simp (maxSteps := 1000000) +contextual (disch := first | with_reducible assumption | exact ⟨rfl⟩ | exact ⟨rfl, rfl⟩ | (refine _root_.id ?_; kernel_rfl) | omega) only [evs, ext_mv, nth, put, putT, getT, binInt, binStr, binBool, aUn, outA, resA, mapO, resA1, oneOf, w1, w2, w3, bots, cond_true, cond_false, if_true, if_false, ite_true, ite_false, reduceIte, reduceCtorEq, implies_true, Nat.reduceAdd, Nat.reduceSub, AV.int, AV.bool, AV.str, Nat.reduceBEq, Nat.reduceEqDiff, Nat.reduceMul, Nat.reduceLT, Nat.reduceLeDiff, Int.reduceNeg, BEq.rfl, beq_self_eq_true, tabl, cellsOf, fldA, ldA, stA, entAt, partA, takeN, over, leafOk, Value.oneCell', idxA, nilA, cellsEq, fillA, elemsA, pure1, pure2, reps, chkA, tys, Try.results81, KX_draw, KX_drawQ, KX_tail, lastO_one, lastO_more, dropL_one, dropL_more, callP_eq, callM_true, digA, e0, e1, e2, e7, e9, e14, e114, e115, e116, d2, wn, hx', hin2, f1, hov, Nat.mul_one]
  exact OUT (q2 - 1, o3.set (i + (dig B).length) (x + c)) _ (by first | omega | (simp only; omega)) ⟨rfl, hmid2, (by first | rfl | simp only [getT, List.map_append, List.map_cons, List.map_nil, digC, digA]), (by first | rfl | simp only [getT, List.map_append, List.map_cons, List.map_nil, digC, digA]), (by first | rfl | simp only [getT, List.map_append, List.map_cons, List.map_nil, digC, digA]), (by first | rfl | simp only [getT, List.map_append, List.map_cons, List.map_nil, digC, digA]), (by first | rfl | simp only [getT, List.map_append, List.map_cons, List.map_nil, digC, digA]), (by first | rfl | simp only [getT, List.map_append, List.map_cons, List.map_nil, digC, digA]), rfl, rfl⟩
end
end Go.Proofs.Ytmgbmbganlndkaa
/-
  Quotients of digits, walked.
-/

namespace Go.Proofs.Ytmgbmbganlndkaa
open Go

structure Quo (A B L j v : Nat) (out : List Int) : Prop where
  len : out.length = L
  ok : okD out
  lt : v < B * 10000 ^ j
  le : v ≤ A
  eqv : (A : Int) = v + 10000 ^ j * (val (out.drop j) * B)
theorem len_lb {B : Nat} (hB : 0 < B) : 10000 ^ ((dig B).length - 1) ≤ B := by
  have h0 : (dig B).length ≠ 0 := fun h => by
    have := dig_nil.1 (List.length_eq_zero_iff.1 h); omega
  rcases Nat.lt_or_ge B (10000 ^ ((dig B).length - 1)) with h | h
  · have := (dig_len (n := B) (k := (dig B).length - 1)).2 h; omega
  · exact h
theorem Quo.start {A B : Nat} (hB : 0 < B) (hAB : B ≤ A) : Quo A B ((dig A).length - (dig B).length + 1) ((dig A).length - (dig B).length + 1) A (List.replicate ((dig A).length - (dig B).length + 1) 0) := by
  refine ⟨by simp, okD_zeros _, ?_, Nat.le_refl _, ?_⟩
  · have h1 := (dig_len (n := A) (k := (dig A).length)).1 (Nat.le_refl _)
    have h2 := len_lb hB
    have h0 : (dig B).length ≠ 0 := fun h => by
      have := dig_nil.1 (List.length_eq_zero_iff.1 h); omega
    have h3 := len_mono hAB
    have h4 := Nat.mul_le_mul_right (10000 ^ ((dig A).length - (dig B).length + 1)) h2
    rw [← Nat.pow_add] at h4
    have e : (dig B).length - 1 + ((dig A).length - (dig B).length + 1) = (dig A).length := by omega
    rw [e] at h4
    omega
  · rw [List.drop_eq_nil_of_le (by simp)]; simp [val]
theorem Quo.top {A B L j v : Nat} {out : List Int} (h : Quo A B L j v out) (hj : j ≠ 0) : v / 10000 ^ (j - 1) < 10000 * B := by
  rw [Nat.div_lt_iff_lt_mul (Nat.pow_pos (by decide))]
  have := h.lt
  have e : j = (j - 1) + 1 := by omega
  rw [e, Nat.pow_succ] at this
  rw [Nat.mul_comm 10000 B, Nat.mul_assoc, Nat.mul_comm 10000]; exact this
theorem Quo.step {A B L j v : Nat} {out : List Int} (h : Quo A B L j v out) (hB : 0 < B) (hj : j ≠ 0) (hjl : j ≤ L) :
    Quo A B L (j - 1) (v - 10000 ^ (j - 1) * (v / 10000 ^ (j - 1) / B * B)) (out.set (j - 1) ((v / 10000 ^ (j - 1) / B : Nat) : Int)) := by
  have ht := h.top hj
  have hq : v / 10000 ^ (j - 1) / B < 10000 := by rw [Nat.div_lt_iff_lt_mul hB]; omega
  have hle1 : v / 10000 ^ (j - 1) / B * B ≤ v / 10000 ^ (j - 1) := Nat.div_mul_le_self _ _
  have hle2 : 10000 ^ (j - 1) * (v / 10000 ^ (j - 1) / B * B) ≤ v := Nat.le_trans (Nat.mul_le_mul_left _ hle1) (Nat.mul_div_le _ _)
  have hmod := Nat.mod_lt (v / 10000 ^ (j - 1)) hB
  have hdm := Nat.div_add_mod (v / 10000 ^ (j - 1)) B
  have hdv := Nat.div_add_mod v (10000 ^ (j - 1))
  have hml := Nat.mod_lt v (Nat.pow_pos (n := j - 1) (show 0 < 10000 by decide))
  have hj1 : j - 1 + 1 = j := by omega
  refine ⟨by rw [List.length_set]; exact h.len, okD_set h.ok (Int.natCast_nonneg _) (Int.ofNat_lt.2 hq), ?_, by have := h.le; omega, ?_⟩
  · generalize 10000 ^ (j - 1) = P at *
    generalize v / P / B = q at *
    generalize v % P = l at *
    generalize v / P % B = r at *
    generalize v / P = R at *
    have e1 : P * R = P * (B * q) + P * r := by rw [← hdm, Nat.mul_add]
    have e2 : P * (q * B) = P * (B * q) := by rw [Nat.mul_comm q B]
    have e3 : P * r + P ≤ B * P := by
      rw [← Nat.mul_succ, Nat.mul_comm]; exact Nat.mul_le_mul_right _ hmod
    omega
  · have hv := h.eqv
    have hlt : j - 1 < out.length := by have := h.len; omega
    rw [drop_set_same hlt, val, hj1, Int.ofNat_sub hle2, hv]
    have hp : (10000 : Int) ^ j = 10000 ^ (j - 1) * 10000 := by
      have := Int.pow_succ (10000 : Int) (j - 1)
      rwa [Nat.succ_eq_add_one, hj1] at this
    rw [hp, Int.natCast_mul, Int.natCast_mul, pow_cast, Int.add_mul, Int.mul_add]
    generalize (10000 : Int) ^ (j - 1) = P
    generalize ((v / 10000 ^ (j - 1) / B : Nat) : Int) * (B : Int) = t
    rw [Int.mul_assoc P 10000, Int.mul_assoc 10000 _ (B : Int)]
    omega
theorem Quo.done {A B L v : Nat} {out : List Int} (h : Quo A B L 0 v out) : trimL out = dig (A / B) ∧ v = A % B := by
  have hv := h.eqv
  have hl := h.lt
  rw [List.drop_zero, Int.pow_zero, Int.one_mul] at hv
  rw [Nat.pow_zero, Nat.mul_one] at hl
  obtain ⟨e1, e2⟩ := div_nat (Q := val out) (R := (v : Int)) (by rw [hv, Int.add_comm]) (Int.natCast_nonneg _) (Int.ofNat_lt.2 hl)
  rw [trim_dig h.ok, e1]
  exact ⟨by congr 1, Int.ofNat.inj e2⟩
theorem trim_padD {v m : Nat} : trimL (padD v m) = dig v := by
  rw [trim_dig (okD_padD v m), padD_val]; congr 1
theorem dig_single {B : Nat} (h : (dig B).length = 1) : 0 < B ∧ B < 10000 ∧ dig B = [(B : Int)] := by
  have h0 : B ≠ 0 := fun e => by subst e; simp [dig_zero] at h
  have h1 := (dig_len (n := B) (k := 1)).1 (by omega)
  rw [Nat.pow_one] at h1
  have := dig_one (d := (B : Int)) (by omega) (by omega)
  exact ⟨by omega, h1, by simpa using this⟩
section
variable (S : List Ent) (tk : List Nat) (k : Nat)
set_option maxRecDepth 100000 in
set_option maxHeartbeats 1000000 in
theorem big_divide (A B : Nat) (ha : (dig A).length ≤ 100000) (hbl0 : (dig B).length ≤ 100000) (hB : 0 < B) : cL Try.prog 65 [digA (dig A), digA (dig B)] S tk k = some (.tup [digA (dig (A / B)), digA (dig (A % B))], S, tk, k) := by
  refine call_pure Try.func65 rfl rfl (by decide +kernel) (by decide +kernel) Try.ntmps65 rfl rfl _ _ _ (rfl) ?_; rw [RK_KX]
  have hb0 : (dig B).length ≠ 0 := fun h => by
    have := dig_nil.1 (List.length_eq_zero_iff.1 h); omega
  have hbl : (dig B).length ≤ 100000 → ∀ S tk k, cL Try.prog 64 [digA (dig A), digA (dig B)] S tk k = some (.int (cmpN A B), S, tk, k) := fun h S tk k => big_compare S tk k A B (by omega) (by omega)
  have hC := hbl hbl0
  clear hbl
  simp only [digA] at hC
  by_cases hAB : A < B
  · have d1 : decide (cmpN A B < 0) = true := by
      unfold cmpN; rw [if_pos hAB]; rfl
    simp (maxSteps := 1000000) +contextual (disch := first | with_reducible assumption | exact ⟨rfl⟩ | exact ⟨rfl, rfl⟩ | (refine _root_.id ?_; kernel_rfl) | omega) only [evs, ext_mv, nth, put, putT, getT, binInt, binStr, binBool, aUn, outA, resA, mapO, resA1, oneOf, w1, w2, w3, bots, cond_true, cond_false, if_true, if_false, ite_true, ite_false, reduceIte, reduceCtorEq, implies_true, Nat.reduceAdd, Nat.reduceSub, AV.int, AV.bool, AV.str, Nat.reduceBEq, Nat.reduceEqDiff, Nat.reduceMul, Nat.reduceLT, Nat.reduceLeDiff, Int.reduceNeg, BEq.rfl, beq_self_eq_true, tabl, cellsOf, fldA, ldA, stA, entAt, partA, takeN, over, leafOk, Value.oneCell', idxA, nilA, cellsEq, fillA, elemsA, pure1, pure2, reps, chkA, tys, Try.results65, KX_draw, KX_drawQ, KX_tail, lastO_one, lastO_more, dropL_one, dropL_more, callP_eq, callM_true, digA, hC, d1]
    rw [Nat.div_eq_of_lt hAB, Nat.mod_eq_of_lt hAB, dig_zero]; exact ⟨rfl, rfl⟩
  have d1 : decide (cmpN A B < 0) = false := by
    unfold cmpN; rw [if_neg hAB]; split <;> rfl
  by_cases h1 : (dig B).length = 1
  · obtain ⟨g0, g1, g2⟩ := dig_single h1
    have hS := fun S tk k => big_short S tk k A B ha g0 g1
    simp only [digA] at hS
    have d2 : (((dig B).length : Int) == 1) = true := by rw [h1]; rfl
    have hx' : nth ((dig B).map digC) 0 = some [.prim (.int .i64 (B : Int))] := by rw [g2]; rfl
    simp (maxSteps := 1000000) +contextual (disch := first | with_reducible assumption | exact ⟨rfl⟩ | exact ⟨rfl, rfl⟩ | (refine _root_.id ?_; kernel_rfl) | omega) only [evs, ext_mv, nth, put, putT, getT, binInt, binStr, binBool, aUn, outA, resA, mapO, resA1, oneOf, w1, w2, w3, bots, cond_true, cond_false, if_true, if_false, ite_true, ite_false, reduceIte, reduceCtorEq, implies_true, Nat.reduceAdd, Nat.reduceSub, AV.int, AV.bool, AV.str, Nat.reduceBEq, Nat.reduceEqDiff, Nat.reduceMul, Nat.reduceLT, Nat.reduceLeDiff, Int.reduceNeg, BEq.rfl, beq_self_eq_true, tabl, cellsOf, fldA, ldA, stA, entAt, partA, takeN, over, leafOk, Value.oneCell', idxA, nilA, cellsEq, fillA, elemsA, pure1, pure2, reps, chkA, tys, Try.results65, KX_draw, KX_drawQ, KX_tail, lastO_one, lastO_more, dropL_one, dropL_more, callP_eq, callM_true, digA, hC, d1, d2, hx', hS]
  have d2 : (((dig B).length : Int) == 1) = false := by simp; omega
  have hlab := len_mono (a := A) (b := B) (by omega)
  have hst := Quo.start hB (show B ≤ A by omega)
  obtain ⟨L, hL⟩ : ∃ L, L = (dig A).length - (dig B).length + 1 := ⟨_, rfl⟩
  rw [← hL] at hst
  have f1 : IntKind.i64.wrap (((dig A).length : Int) + 1) = (((dig A).length + 1 : Nat) : Int) := wrap_add (by omega)
  have f2 : IntKind.i64.wrap (((dig A).length : Int) - ((dig B).length : Int)) = ((L - 1 : Nat) : Int) := by rw [wrap_of (by unfold i64; omega)]; omega
  have f3 : IntKind.i64.wrap (((L - 1 : Nat) : Int) + 1) = ((L : Nat) : Int) := by rw [wrap_of (by unfold i64; omega)]; omega
  have f4 := top_idx (n := L) (by omega)
  have hbo : (elemOf Try.prog 26).bind (bytesOf Try.prog) = some 8 := by kernel_rfl
  have hmk := mk_num (P := Try.prog) (t := 26) (n := (dig A).length + 1) (by simp only [tys, Option.bind_some]) (by simp only [tys, Option.bind_some]) hbo (by omega)
  have hmk2 := mk_num (P := Try.prog) (t := 26) (n := L) (by simp only [tys, Option.bind_some]) (by simp only [tys, Option.bind_some]) hbo (by omega)
  have hcp := cp_num (P := Try.prog) (t := 26) (n := (dig A).length + 1) (id := 0) (ep := 0) (l := dig A) (c := .unk) (S := [⟨0, zeroC ((dig A).length + 1)⟩]) (by simp only [tys, Option.bind_some]) (by omega) rfl
  simp (maxSteps := 1000000) +contextual (disch := first | with_reducible assumption | exact ⟨rfl⟩ | exact ⟨rfl, rfl⟩ | (refine _root_.id ?_; kernel_rfl) | omega) only [evs, ext_mv, nth, put, putT, getT, binInt, binStr, binBool, aUn, outA, resA, mapO, resA1, oneOf, w1, w2, w3, bots, cond_true, cond_false, if_true, if_false, ite_true, ite_false, reduceIte, reduceCtorEq, implies_true, Nat.reduceAdd, Nat.reduceSub, AV.int, AV.bool, AV.str, Nat.reduceBEq, Nat.reduceEqDiff, Nat.reduceMul, Nat.reduceLT, Nat.reduceLeDiff, Int.reduceNeg, BEq.rfl, beq_self_eq_true, tabl, cellsOf, fldA, ldA, stA, entAt, partA, takeN, over, leafOk, Value.oneCell', idxA, nilA, cellsEq, fillA, elemsA, pure1, pure2, reps, chkA, tys, Try.results65, KX_draw, KX_drawQ, KX_tail, lastO_one, lastO_more, dropL_one, dropL_more, callP_eq, callM_true, digA, hC, d1, d2, f1, f2, f3, f4, hmk, hmk2, hcp]
  refine loop1 (fun x st => st.T.length = 56 ∧ (x.1 ≤ L) ∧ (Quo A B L x.1 x.2.1 x.2.2) ∧ getT st.T 0 = digA (dig A) ∧ getT st.T 1 = digA (dig B) ∧ getT st.T 6 = .sref 0 0 0 ((dig A).length + 1) 1 ∧ getT st.T 7 = .sref 1 1 0 L 1 ∧ getT st.T 8 = .int ((x.1 : Int) - 1) ∧ st.S = [⟨0, (padD x.2.1 ((dig A).length + 1)).map numC⟩, ⟨1, x.2.2.map numC⟩]) (fun x => x.1) (fun x => .tup [digA (dig (A / B)), digA (dig (A % B))]) (L, A, List.replicate L 0) ?_ ?_
  case refine_2 => exact ⟨rfl, Nat.le_refl _, by rw [hL] at hst ⊢; exact hst, rfl, rfl, rfl, rfl, rfl, rfl⟩
  rintro ⟨j, v, out⟩ ⟨T, S', tk', n'⟩ ⟨hl, hj, hp, e0, e1, e6, e7, e8, eS⟩ IH
  simp only at hj hp e0 e1 e6 e7 e8 eS
  subst eS
  obtain ⟨g, hg, hT⟩ := tab_of hl
  rw [hg] at e0 e1 e6 e7 e8
  subst hT
  clear hg hl
  have hlen := hp.len
  have hvl := len_mono hp.le
  by_cases h0 : j = 0
  · have d3 : decide ((j : Int) - 1 ≥ 0) = false := by simp; omega
    subst h0
    obtain ⟨q1, q2⟩ := hp.done
    subst q2
    have hT := fun tk k => big_trim_own [⟨0, (padD (A % B) ((dig A).length + 1)).map numC⟩, ⟨1, out.map numC⟩] tk k out 1 1 (by omega) rfl
    rw [hlen] at hT
    have hpl := padD_len (v := A % B) (m := (dig A).length + 1) (by omega)
    have hT2 := fun tk k => big_trim_own [⟨0, (padD (A % B) ((dig A).length + 1)).map numC⟩, ⟨1, out.map numC⟩] tk k (padD (A % B) ((dig A).length + 1)) 0 0 (by omega) rfl
    rw [hpl] at hT2
    have hfz := fz_num (m := 0) (id := 1) (ep := 1) (S := [⟨0, (padD (A % B) ((dig A).length + 1)).map numC⟩, ⟨1, out.map numC⟩]) (Nat.zero_le _) rfl (trim_len out)
    have hfz2 := fz_num (m := 0) (id := 0) (ep := 0) (S := [⟨0, (padD (A % B) ((dig A).length + 1)).map numC⟩, ⟨1, out.map numC⟩]) (Nat.le_refl _) rfl (trim_len (padD (A % B) ((dig A).length + 1)))
    rw [← trim_is_take, q1] at hfz
    rw [← trim_is_take, trim_padD] at hfz2
    rw [q1] at hT
    rw [trim_padD] at hT2
    simp (maxSteps := 1000000) +contextual (disch := first | with_reducible assumption | exact ⟨rfl⟩ | exact ⟨rfl, rfl⟩ | (refine _root_.id ?_; kernel_rfl) | omega) only [evs, ext_mv, nth, put, putT, getT, binInt, binStr, binBool, aUn, outA, resA, mapO, resA1, oneOf, w1, w2, w3, bots, cond_true, cond_false, if_true, if_false, ite_true, ite_false, reduceIte, reduceCtorEq, implies_true, Nat.reduceAdd, Nat.reduceSub, AV.int, AV.bool, AV.str, Nat.reduceBEq, Nat.reduceEqDiff, Nat.reduceMul, Nat.reduceLT, Nat.reduceLeDiff, Int.reduceNeg, BEq.rfl, beq_self_eq_true, tabl, cellsOf, fldA, ldA, stA, entAt, partA, takeN, over, leafOk, Value.oneCell', idxA, nilA, cellsEq, fillA, elemsA, pure1, pure2, reps, chkA, tys, Try.results65, KX_draw, KX_drawQ, KX_tail, lastO_one, lastO_more, dropL_one, dropL_more, callP_eq, callM_true, digA, e0, e1, e6, e7, e8, d3, hT, hT2, hfz, hfz2]
  · have d3 : decide ((j : Int) - 1 ≥ 0) = true := by simp; omega
    have hi : (j : Int) - 1 = ((j - 1 : Nat) : Int) := by omega
    have hDg := fun tk k => big_digit tk k v B ((dig A).length + 1) (j - 1) out (by omega) (by omega) (by omega) (by omega) (hp.top h0)
    have hst2 := hp.step hB h0 hj
    generalize v / 10000 ^ (j - 1) / B = q at *
    generalize v - 10000 ^ (j - 1) * (q * B) = v2 at *
    obtain ⟨o, ho⟩ := nth_some (show j - 1 < out.length by omega)
    have hov := over_num (v := (q : Int)) ho
    have hin : j - 1 < L := by omega
    have hpw := top_idx (n := j - 1) (by omega)
    simp only [digA] at hDg
    rw [hi] at e8 d3
    simp (maxSteps := 1000000) +contextual (disch := first | with_reducible assumption | exact ⟨rfl⟩ | exact ⟨rfl, rfl⟩ | (refine _root_.id ?_; kernel_rfl) | omega) only [evs, ext_mv, nth, put, putT, getT, binInt, binStr, binBool, aUn, outA, resA, mapO, resA1, oneOf, w1, w2, w3, bots, cond_true, cond_false, if_true, if_false, ite_true, ite_false, reduceIte, reduceCtorEq, implies_true, Nat.reduceAdd, Nat.reduceSub, AV.int, AV.bool, AV.str, Nat.reduceBEq, Nat.reduceEqDiff, Nat.reduceMul, Nat.reduceLT, Nat.reduceLeDiff, Int.reduceNeg, BEq.rfl, beq_self_eq_true, tabl, cellsOf, fldA, ldA, stA, entAt, partA, takeN, over, leafOk, Value.oneCell', idxA, nilA, cellsEq, fillA, elemsA, pure1, pure2, reps, chkA, tys, Try.results65, KX_draw, KX_drawQ, KX_tail, lastO_one, lastO_more, dropL_one, dropL_more, callP_eq, callM_true, digA, e0, e1, e6, e7, e8, d3, hDg, hov, hin, hpw, Nat.mul_one]
    exact IH (j - 1, v2, out.set (j - 1) (q : Int)) _ (by first | omega | (simp only; omega)) ⟨rfl, by first | omega | (dsimp only; omega), hst2, (by first | rfl | simp only [getT, List.map_append, List.map_cons, List.map_nil, digC, digA]), (by first | rfl | simp only [getT, List.map_append, List.map_cons, List.map_nil, digC, digA]), (by first | rfl | simp only [getT, List.map_append, List.map_cons, List.map_nil, digC, digA]), (by first | rfl | simp only [getT, List.map_append, List.map_cons, List.map_nil, digC, digA]), (by first | rfl | simp only [getT, List.map_append, List.map_cons, List.map_nil, digC, digA]), (by first | rfl | simp only [getT, List.map_append, List.map_cons, List.map_nil, digC, digA])⟩
set_option maxRecDepth 100000 in
theorem R02_times_zero (X : Nat) (ha : (dig X).length ≤ 100000) : cL Try.prog 48 [digA (dig X), .frz [[.prim (.int .i64 0)]] .tight] S tk k = some (digA [], S, tk, k) := by
  refine call_pure Try.func48 rfl rfl (by decide +kernel) (by decide +kernel) Try.ntmps48 rfl rfl _ _ _ rfl ?_; rw [RK_KX]
  have hw : IntKind.i64.wrap (((dig X).length : Int) + ((1 : Nat) : Int)) = (((dig X).length + 1 : Nat) : Int) := by rw [wrap_of (by unfold i64; omega)]; omega
  have hbo : (elemOf Try.prog 26).bind (bytesOf Try.prog) = some 8 := by kernel_rfl
  have hmk := mk_num (P := Try.prog) (t := 26) (n := (dig X).length + 1) (by simp only [tys, Option.bind_some]) (by simp only [tys, Option.bind_some]) hbo (by omega)
  simp (maxSteps := 1000000) +contextual (disch := first | with_reducible assumption | exact ⟨rfl⟩ | exact ⟨rfl, rfl⟩ | (refine _root_.id ?_; kernel_rfl) | omega) only [evs, ext_mv, nth, put, putT, getT, binInt, binStr, binBool, aUn, outA, resA, mapO, resA1, oneOf, w1, w2, w3, bots, cond_true, cond_false, if_true, if_false, ite_true, ite_false, reduceIte, reduceCtorEq, implies_true, Nat.reduceAdd, Nat.reduceSub, AV.int, AV.bool, AV.str, Nat.reduceBEq, Nat.reduceEqDiff, Nat.reduceMul, Nat.reduceLT, Nat.reduceLeDiff, Int.reduceNeg, BEq.rfl, beq_self_eq_true, tabl, cellsOf, fldA, ldA, stA, entAt, partA, takeN, over, leafOk, Value.oneCell', idxA, nilA, cellsEq, fillA, elemsA, pure1, pure2, reps, chkA, tys, Try.results48, KX_draw, KX_drawQ, KX_tail, lastO_one, lastO_more, dropL_one, dropL_more, callP_eq, callM_true, digA, hw, hmk]
  refine loop1 (fun x st => st.T.length = 60 ∧ (x.1 ≤ (dig X).length) ∧ (x.2 = List.replicate ((dig X).length + 1) 0) ∧ getT st.T 0 = digA (dig X) ∧ getT st.T 1 = .frz [[.prim (.int .i64 0)]] .unk ∧ getT st.T 5 = .sref 0 0 0 ((dig X).length + 1) 1 ∧ getT st.T 6 = .int (x.1 : Nat) ∧ st.S = [⟨0, x.2.map numC⟩]) (fun x => (dig X).length - x.1) (fun x => digA []) (0, List.replicate ((dig X).length + 1) 0) ?_ ?_
  case refine_2 => exact ⟨rfl, Nat.zero_le _, rfl, rfl, rfl, rfl, rfl, rfl⟩
  rintro ⟨i, out⟩ ⟨T, S', tk', n'⟩ ⟨hl, hi, ho, e0, e1, e5, e6, eS⟩ IH
  simp only at hi ho e0 e1 e5 e6 eS
  subst eS
  obtain ⟨g, hg, hT⟩ := tab_of hl
  rw [hg] at e0 e1 e5 e6
  subst hT
  clear hg hl
  have OUT := IH
  clear IH
  have hlen : out.length = (dig X).length + 1 := by rw [ho]; simp
  have hall : ∀ j, j < out.length → nth out j = some 0 := fun j hj => by
    rw [nth_get, ho, List.getElem?_replicate, if_pos (by omega)]
  have hsame : ∀ j, out.set j 0 = out := fun j => by
    rw [ho]; simp
  by_cases hlt : i < (dig X).length
  · have d2 : decide ((i : Int) < ((dig X).length : Int)) = true := by simpa using hlt
    obtain ⟨d, hd⟩ := nth_some hlt
    have hd' := nth_dig hd
    have hdk := of_okD (okD_dig X) hd
    have hiw := wrap_add (i := i) (by omega)
    simp (maxSteps := 1000000) +contextual (disch := first | with_reducible assumption | exact ⟨rfl⟩ | exact ⟨rfl, rfl⟩ | (refine _root_.id ?_; kernel_rfl) | omega) only [evs, ext_mv, nth, put, putT, getT, binInt, binStr, binBool, aUn, outA, resA, mapO, resA1, oneOf, w1, w2, w3, bots, cond_true, cond_false, if_true, if_false, ite_true, ite_false, reduceIte, reduceCtorEq, implies_true, Nat.reduceAdd, Nat.reduceSub, AV.int, AV.bool, AV.str, Nat.reduceBEq, Nat.reduceEqDiff, Nat.reduceMul, Nat.reduceLT, Nat.reduceLeDiff, Int.reduceNeg, BEq.rfl, beq_self_eq_true, tabl, cellsOf, fldA, ldA, stA, entAt, partA, takeN, over, leafOk, Value.oneCell', idxA, nilA, cellsEq, fillA, elemsA, pure1, pure2, reps, chkA, tys, Try.results48, KX_draw, KX_drawQ, KX_tail, lastO_one, lastO_more, dropL_one, dropL_more, callP_eq, callM_true, digA, e0, e1, e5, e6, d2]
    refine loop1 (fun x st => st.T.length = 60 ∧ (x ≤ 1) ∧ getT st.T 0 = digA (dig X) ∧ getT st.T 1 = .frz [[.prim (.int .i64 0)]] .unk ∧ getT st.T 5 = .sref 0 0 0 ((dig X).length + 1) 1 ∧ getT st.T 6 = .int (i : Nat) ∧ getT st.T 7 = .int 0 ∧ getT st.T 8 = .int (x : Nat) ∧ st.S = [⟨0, out.map numC⟩]) (fun x => 1 - x) (fun x => digA []) (0) ?_ ?_
    case refine_2 => exact ⟨rfl, Nat.zero_le _, rfl, rfl, rfl, rfl, rfl, rfl, rfl⟩
    rintro m ⟨T, S', tk', n'⟩ ⟨hl, hm, e0, e1, e5, e6, e7, e8, eS⟩ IH
    subst eS
    obtain ⟨g, hg, hT⟩ := tab_of hl
    rw [hg] at e0 e1 e5 e6 e7 e8
    subst hT
    clear hg hl
    have hmw := wrap_add (i := m) (by omega)
    have hB := fun S tk k => R02_digit S tk k [0] m .unk
    by_cases cm : m < 1
    · have d3 : decide ((m : Int) < ((1 : Nat) : Int)) = true := by simp; omega
      have hm0 : m = 0 := by omega
      have hg : (nth [(0 : Int)] m).getD 0 = 0 := by rw [hm0]; rfl
      rw [hg] at hB
      simp only [List.map_cons, List.map_nil, digC] at hB
      have him : IntKind.i64.wrap ((i : Int) + (m : Int)) = ((i + m : Nat) : Int) := by rw [wrap_of (by unfold i64; omega)]; omega
      have hin : i + m < (dig X).length + 1 := by omega
      have hx := hall (i + m) (by omega)
      have hx' := nth_num hx
      have hov := over_num (v := 0) hx
      rw [hsame] at hov
      have f1 : IntKind.i64.wrap (d * 0) = 0 := by rw [Int.mul_zero]; exact wrap_of (by unfold i64; omega)
      have f2 : IntKind.i64.wrap ((0 : Int) + 0) = 0 := wrap_of (by unfold i64; omega)
      have f3 : (0 : Int).tmod 10000 = 0 := rfl
      have f4 : IntKind.i64.wrap ((0 : Int).tdiv 10000) = 0 := wrap_of (by unfold i64; decide)
      have hz' : ¬ ((10000 : Int) = 0) := by omega
      simp (maxSteps := 1000000) +contextual (disch := first | with_reducible assumption | exact ⟨rfl⟩ | exact ⟨rfl, rfl⟩ | (refine _root_.id ?_; kernel_rfl) | omega) only [evs, ext_mv, nth, put, putT, getT, binInt, binStr, binBool, aUn, outA, resA, mapO, resA1, oneOf, w1, w2, w3, bots, cond_true, cond_false, if_true, if_false, ite_true, ite_false, reduceIte, reduceCtorEq, implies_true, Nat.reduceAdd, Nat.reduceSub, AV.int, AV.bool, AV.str, Nat.reduceBEq, Nat.reduceEqDiff, Nat.reduceMul, Nat.reduceLT, Nat.reduceLeDiff, Int.reduceNeg, BEq.rfl, beq_self_eq_true, tabl, cellsOf, fldA, ldA, stA, entAt, partA, takeN, over, leafOk, Value.oneCell', idxA, nilA, cellsEq, fillA, elemsA, pure1, pure2, reps, chkA, tys, Try.results48, KX_draw, KX_drawQ, KX_tail, lastO_one, lastO_more, dropL_one, dropL_more, callP_eq, callM_true, digA, e0, e1, e5, e6, e7, e8, d3, hd', hmw, hB, him, hin, hx', f1, f2, f3, f4, hz', hov, Nat.mul_one]
      exact IH (m + 1) _ (by first | omega | (simp only; omega)) ⟨rfl, by first | omega | (dsimp only; omega), (by first | rfl | simp only [getT, List.map_append, List.map_cons, List.map_nil, digC, digA]), (by first | rfl | simp only [getT, List.map_append, List.map_cons, List.map_nil, digC, digA]), (by first | rfl | simp only [getT, List.map_append, List.map_cons, List.map_nil, digC, digA]), (by first | rfl | simp only [getT, List.map_append, List.map_cons, List.map_nil, digC, digA]), (by first | rfl | simp only [getT, List.map_append, List.map_cons, List.map_nil, digC, digA]), (by first | rfl | simp only [getT, List.map_append, List.map_cons, List.map_nil, digC, digA]), (by first | rfl | simp only [getT, List.map_append, List.map_cons, List.map_nil, digC, digA])⟩
    · have d3 : decide ((m : Int) < ((1 : Nat) : Int)) = false := by simp; omega
      have d4 : decide ((0 : Int) > 0) = false := rfl
      simp (maxSteps := 1000000) +contextual (disch := first | with_reducible assumption | exact ⟨rfl⟩ | exact ⟨rfl, rfl⟩ | (refine _root_.id ?_; kernel_rfl) | omega) only [evs, ext_mv, nth, put, putT, getT, binInt, binStr, binBool, aUn, outA, resA, mapO, resA1, oneOf, w1, w2, w3, bots, cond_true, cond_false, if_true, if_false, ite_true, ite_false, reduceIte, reduceCtorEq, implies_true, Nat.reduceAdd, Nat.reduceSub, AV.int, AV.bool, AV.str, Nat.reduceBEq, Nat.reduceEqDiff, Nat.reduceMul, Nat.reduceLT, Nat.reduceLeDiff, Int.reduceNeg, BEq.rfl, beq_self_eq_true, tabl, cellsOf, fldA, ldA, stA, entAt, partA, takeN, over, leafOk, Value.oneCell', idxA, nilA, cellsEq, fillA, elemsA, pure1, pure2, reps, chkA, tys, Try.results48, KX_draw, KX_drawQ, KX_tail, lastO_one, lastO_more, dropL_one, dropL_more, callP_eq, callM_true, digA, e0, e1, e5, e6, e7, e8, d3, d4, hiw]
      exact OUT (i + 1, out) _ (by first | omega | (simp only; omega)) ⟨rfl, by first | omega | (dsimp only; omega), ho, (by first | rfl | simp only [getT, List.map_append, List.map_cons, List.map_nil, digC, digA]), (by first | rfl | simp only [getT, List.map_append, List.map_cons, List.map_nil, digC, digA]), (by first | rfl | simp only [getT, List.map_append, List.map_cons, List.map_nil, digC, digA]), (by first | rfl | simp only [getT, List.map_append, List.map_cons, List.map_nil, digC, digA]), (by first | rfl | simp only [getT, List.map_append, List.map_cons, List.map_nil, digC, digA])⟩
  · have d2 : decide ((i : Int) < ((dig X).length : Int)) = false := by simpa using hlt
    obtain ⟨c9, tk9, hT⟩ := R02_trim_own [⟨0, out.map numC⟩] tk' n' out 0 0 (by omega) rfl
    have hdone : trimL out = [] := by
      have hk : okD out := by rw [ho]; exact okD_zeros _
      rw [trim_dig hk, ho, val_replicate]; rfl
    rw [hlen, hdone] at hT
    simp only [List.map_nil] at hT
    simp (maxSteps := 1000000) +contextual (disch := first | with_reducible assumption | exact ⟨rfl⟩ | exact ⟨rfl, rfl⟩ | (refine _root_.id ?_; kernel_rfl) | omega) only [evs, ext_mv, nth, put, putT, getT, binInt, binStr, binBool, aUn, outA, resA, mapO, resA1, oneOf, w1, w2, w3, bots, cond_true, cond_false, if_true, if_false, ite_true, ite_false, reduceIte, reduceCtorEq, implies_true, Nat.reduceAdd, Nat.reduceSub, AV.int, AV.bool, AV.str, Nat.reduceBEq, Nat.reduceEqDiff, Nat.reduceMul, Nat.reduceLT, Nat.reduceLeDiff, Int.reduceNeg, BEq.rfl, beq_self_eq_true, tabl, cellsOf, fldA, ldA, stA, entAt, partA, takeN, over, leafOk, Value.oneCell', idxA, nilA, cellsEq, fillA, elemsA, pure1, pure2, reps, chkA, tys, Try.results48, KX_draw, KX_drawQ, KX_tail, lastO_one, lastO_more, dropL_one, dropL_more, callP_eq, callM_true, digA, e0, e1, e5, e6, d2, hT, List.map_nil]
/-- a product with one digit -/
theorem R02_times_lit (X : Nat) (y : Nat) (ha : (dig X).length ≤ 100000) (hy : y < 10000) : cL Try.prog 48 [digA (dig X), .frz [[.prim (.int .i64 (y : Nat))]] .tight] S tk k = some (digA (dig (X * y)), S, tk, k) := by
  by_cases h0 : y = 0
  · subst h0
    rw [Nat.mul_zero, dig_zero]
    exact R02_times_zero S tk k X ha
  · have h1 := dig_one (d := (y : Int)) (by omega) (by omega)
    have h1' : dig y = [(y : Int)] := by simpa using h1
    have h2 := R02_times S tk k X y ha (by rw [h1']; simp)
    rw [h1'] at h2
    exact (cL_w2 (args := [digA (dig X), .frz [[.prim (.int .i64 (y : Nat))]] .tight]) (args' := [digA (dig X), digA [(y : Int)]]) rfl rfl rfl).trans h2
theorem len_step {r X n : Nat} (hr : (dig r).length ≤ n) (hX : X < 10000 * r + 10000) : (dig X).length ≤ n + 1 := by
  rw [dig_len] at hr ⊢
  rw [Nat.pow_succ]; omega
theorem mid_facts {lo hi : Nat} (h : lo < hi) (hh : hi < 10000) : (((lo : Int) + (hi : Int)) + 1).tdiv 2 = (((lo + hi + 1) / 2 : Nat) : Int) := by
  rw [Int.tdiv_eq_ediv_of_nonneg (by omega)]; omega
theorem Short.nat {A B m : Nat} {r : Int} {out : List Int} (h : Short A (B : Int) m r out) : r = ((r.toNat : Nat) : Int) := by have := h.r0; omega
set_option maxRecDepth 100000 in
set_option maxHeartbeats 1000000 in
theorem R02_divide (A B : Nat) (ha : (dig A).length ≤ 90000) (hbl0 : (dig B).length ≤ 90000) (hB : 0 < B) : cL Try.prog 68 [digA (dig A), digA (dig B)] S tk k = some (.tup [digA (dig (A / B)), digA (dig (A % B))], S, tk, k) := by
  refine call_pure Try.func68 rfl rfl (by decide +kernel) (by decide +kernel) Try.ntmps68 rfl rfl _ _ _ (rfl) ?_; rw [RK_KX]
  have hbo : (elemOf Try.prog 26).bind (bytesOf Try.prog) = some 8 := by kernel_rfl
  have hmk := mk_num (P := Try.prog) (t := 26) (n := (dig A).length) (by simp only [tys, Option.bind_some]) (by simp only [tys, Option.bind_some]) hbo (by omega)
  have d3 := top_idx (n := (dig A).length) (by omega)
  have hst := Short.start (A := A) (b := (B : Int)) (by omega)
  simp (maxSteps := 1000000) +contextual (disch := first | with_reducible assumption | exact ⟨rfl⟩ | exact ⟨rfl, rfl⟩ | (refine _root_.id ?_; kernel_rfl) | omega) only [evs, ext_mv, nth, put, putT, getT, binInt, binStr, binBool, aUn, outA, resA, mapO, resA1, oneOf, w1, w2, w3, bots, cond_true, cond_false, if_true, if_false, ite_true, ite_false, reduceIte, reduceCtorEq, implies_true, Nat.reduceAdd, Nat.reduceSub, AV.int, AV.bool, AV.str, Nat.reduceBEq, Nat.reduceEqDiff, Nat.reduceMul, Nat.reduceLT, Nat.reduceLeDiff, Int.reduceNeg, BEq.rfl, beq_self_eq_true, tabl, cellsOf, fldA, ldA, stA, entAt, partA, takeN, over, leafOk, Value.oneCell', idxA, nilA, cellsEq, fillA, elemsA, pure1, pure2, reps, chkA, tys, Try.results68, KX_draw, KX_drawQ, KX_tail, lastO_one, lastO_more, dropL_one, dropL_more, callP_eq, callM_true, digA, hmk, d3]
  refine loop1 (fun x st => st.T.length = 61 ∧ (x.1 ≤ (dig A).length) ∧ (Short A B x.1 ((x.2.1 : Nat) : Int) x.2.2.1) ∧ getT st.T 0 = digA (dig A) ∧ getT st.T 1 = digA (dig B) ∧ getT st.T 6 = .sref 0 0 0 (dig A).length 1 ∧ getT st.T 7 = .frz ((dig x.2.1).map digC) x.2.2.2 ∧ getT st.T 8 = .int ((x.1 : Int) - 1) ∧ st.S = [⟨0, x.2.2.1.map numC⟩]) (fun x => x.1) (fun x => .tup [digA (dig (A / B)), digA (dig (A % B))]) ((dig A).length, 0, List.replicate (dig A).length 0, .nilc) ?_ ?_
  case refine_2 => exact ⟨rfl, Nat.le_refl _, hst, rfl, rfl, rfl, rfl, rfl, rfl⟩
  rintro ⟨m, r, out, c⟩ ⟨T, S', tk', n'⟩ ⟨hl, hm, hp, e0, e1, e6, e7, e8, eS⟩ IH
  simp only at hm hp e0 e1 e6 e7 e8 eS
  subst eS
  obtain ⟨g, hg, hT⟩ := tab_of hl
  rw [hg] at e0 e1 e6 e7 e8
  subst hT
  clear hg hl
  have OUT := IH
  clear IH
  have hlen := hp.len
  by_cases h0 : m = 0
  · have d2 : decide ((m : Int) - 1 ≥ 0) = false := by simp; omega
    subst h0
    obtain ⟨q1, q2⟩ := hp.done
    obtain ⟨c9, tk9, hT⟩ := R02_trim_own [⟨0, out.map numC⟩] tk' n' out 0 0 (by omega) rfl
    rw [hlen, q1] at hT
    have q3 : r = A % B := by simpa using q2
    rw [q3] at e7
    simp (maxSteps := 1000000) +contextual (disch := first | with_reducible assumption | exact ⟨rfl⟩ | exact ⟨rfl, rfl⟩ | (refine _root_.id ?_; kernel_rfl) | omega) only [evs, ext_mv, nth, put, putT, getT, binInt, binStr, binBool, aUn, outA, resA, mapO, resA1, oneOf, w1, w2, w3, bots, cond_true, cond_false, if_true, if_false, ite_true, ite_false, reduceIte, reduceCtorEq, implies_true, Nat.reduceAdd, Nat.reduceSub, AV.int, AV.bool, AV.str, Nat.reduceBEq, Nat.reduceEqDiff, Nat.reduceMul, Nat.reduceLT, Nat.reduceLeDiff, Int.reduceNeg, BEq.rfl, beq_self_eq_true, tabl, cellsOf, fldA, ldA, stA, entAt, partA, takeN, over, leafOk, Value.oneCell', idxA, nilA, cellsEq, fillA, elemsA, pure1, pure2, reps, chkA, tys, Try.results68, KX_draw, KX_drawQ, KX_tail, lastO_one, lastO_more, dropL_one, dropL_more, callP_eq, callM_true, digA, e0, e1, e6, e7, e8, d2, hT]
  have d2 : decide ((m : Int) - 1 ≥ 0) = true := by simp; omega
  have hi : (m : Int) - 1 = ((m - 1 : Nat) : Int) := by omega
  obtain ⟨x, hx⟩ := nth_some (show m - 1 < (dig A).length by omega)
  have hx' := nth_dig hx
  have hxk := of_okD (okD_dig A) hx
  obtain ⟨o, ho⟩ := nth_some (show m - 1 < out.length by omega)
  have hrB : r < B := by have := hp.r0; omega
  have hrl : (dig r).length ≤ 90000 := Nat.le_trans (len_mono (Nat.le_of_lt hrB)) hbl0
  obtain ⟨hq, g1, g2, g3, g4⟩ := hp.step h0 hm hx
  obtain ⟨X, hX⟩ : ∃ X : Nat, X = r * 10000 + x.toNat := ⟨_, rfl⟩
  have hXi : ((r : Nat) : Int) * 10000 + x = (X : Int) := by omega
  rw [hXi] at hq g1 g2 g3 g4
  have hQ1 : ((X : Nat) : Int).tdiv (B : Int) = ((X / B : Nat) : Int) := by
    rw [Int.tdiv_eq_ediv_of_nonneg (Int.natCast_nonneg _), ← Int.natCast_ediv]
  have hQ2 : ((X : Nat) : Int).tmod (B : Int) = ((X % B : Nat) : Int) := by
    rw [Int.tmod_eq_emod_of_nonneg (Int.natCast_nonneg _), ← Int.natCast_emod]
  rw [hQ1, hQ2] at hq
  rw [hQ1] at g1 g2
  have hQ9 : X / B < 10000 := by have := Int.ofNat_lt.1 g2; exact this
  clear g1 g2 g3 g4 hQ1 hQ2
  have hmodeq : X - B * (X / B) = X % B := by have := Nat.div_add_mod X B; omega
  have hXl : (dig X).length ≤ 90000 + 1 := len_step hrl (by omega)
  obtain ⟨Q, hQd⟩ : ∃ Q, Q = X / B := ⟨_, rfl⟩
  rw [← hQd] at hq hQ9 hmodeq
  have htr : trimL (x :: dig r) = dig X := by
    have hk : okD (x :: dig r) := fun d hd => by
      rcases List.mem_cons.1 hd with rfl | hd
      · exact hxk
      · exact okD_dig r d hd
    rw [trim_dig hk, val, val_dig]
    congr 1; omega
  have hT := fun c S tk k => R02_trim S tk k (x :: dig r) c (by simp; omega)
  rw [htr] at hT
  simp only [List.map_cons, digC, digA] at hT
  have hr1 : rowsOk 1 ((dig r).map digC) = true := rowsOk_dig _
  have hr2 : ([[(.prim (.int .i64 x) : AV)]]).length + ((dig r).map digC).length ≤ 1048576 := by simp; omega
  have hok1 : okCap tk' .tight 1 = true := rfl
  rw [hi] at e8 d2
  simp (maxSteps := 1000000) +contextual (disch := first | with_reducible assumption | exact ⟨rfl⟩ | exact ⟨rfl, rfl⟩ | (refine _root_.id ?_; kernel_rfl) | omega) only [evs, ext_mv, nth, put, putT, getT, binInt, binStr, binBool, aUn, outA, resA, mapO, resA1, oneOf, w1, w2, w3, bots, cond_true, cond_false, if_true, if_false, ite_true, ite_false, reduceIte, reduceCtorEq, implies_true, Nat.reduceAdd, Nat.reduceSub, AV.int, AV.bool, AV.str, Nat.reduceBEq, Nat.reduceEqDiff, Nat.reduceMul, Nat.reduceLT, Nat.reduceLeDiff, Int.reduceNeg, BEq.rfl, beq_self_eq_true, tabl, cellsOf, fldA, ldA, stA, entAt, partA, takeN, over, leafOk, Value.oneCell', idxA, nilA, cellsEq, fillA, elemsA, pure1, pure2, reps, chkA, tys, Try.results68, KX_draw, KX_drawQ, KX_tail, lastO_one, lastO_more, dropL_one, dropL_more, callP_eq, callM_true, digA, e0, e1, e6, e7, e8, d2, hx', hT, hr1, litA_nil]
  clear hT hr1 hr2 d3 htr hst
  refine loop1 (fun x st => st.T.length = 61 ∧ (x.1 ≤ Q) ∧ (Q ≤ x.2) ∧ (x.2 < 10000) ∧ getT st.T 0 = digA (dig A) ∧ getT st.T 1 = digA (dig B) ∧ getT st.T 6 = .sref 0 0 0 (dig A).length 1 ∧ getT st.T 7 = digA (dig X) ∧ getT st.T 8 = .int ((m - 1 : Nat) : Int) ∧ getT st.T 9 = .int ((x.1 : Nat) : Int) ∧ getT st.T 10 = .int ((x.2 : Nat) : Int) ∧ st.S = [⟨0, out.map numC⟩]) (fun x => x.2 - x.1) (fun x => .tup [digA (dig (A / B)), digA (dig (A % B))]) (0, 9999) ?_ ?_
  case refine_2 => exact ⟨rfl, Nat.zero_le _, by omega, by omega, rfl, rfl, rfl, rfl, rfl, rfl, rfl, rfl⟩
  rintro ⟨lo, hi⟩ ⟨T, S', tk', n'⟩ ⟨hl, hlo, hhi, h9, e0, e1, e6, e7, e8, e9, e10, eS⟩ IH
  simp only at hlo hhi h9 e0 e1 e6 e7 e8 e9 e10 eS
  subst eS
  obtain ⟨g, hg, hT⟩ := tab_of hl
  rw [hg] at e0 e1 e6 e7 e8 e9 e10
  subst hT
  clear hg hl
  have hBl1 : (dig B).length ≤ 100000 := by omega
  by_cases hlt : lo < hi
  · have d3 : decide (((lo : Nat) : Int) < ((hi : Nat) : Int)) = true := by simpa using hlt
    have f1 : IntKind.i64.wrap ((lo : Int) + (hi : Int)) = (lo : Int) + (hi : Int) := wrap_of (by unfold i64; omega)
    have f2 : IntKind.i64.wrap ((lo : Int) + (hi : Int) + 1) = (lo : Int) + (hi : Int) + 1 := wrap_of (by unfold i64; omega)
    have f3 := mid_facts hlt h9
    obtain ⟨mid, hmid⟩ : ∃ mid, mid = (lo + hi + 1) / 2 := ⟨_, rfl⟩
    rw [← hmid] at f3
    have f4 : IntKind.i64.wrap ((mid : Nat) : Int) = (mid : Int) := wrap_of (by unfold i64; omega)
    have f5 : IntKind.i64.wrap ((mid : Int) - 1) = ((mid - 1 : Nat) : Int) := by rw [wrap_of (by unfold i64; omega)]; omega
    have hz' : ¬ ((2 : Int) = 0) := by omega
    have hTm := fun S tk k => R02_times_lit S tk k B mid hBl1 (by omega)
    have hBm : (dig (B * mid)).length ≤ 100000 := by
      have h9 := dig_mul_len (X := B) (Y := mid) hbl0 (n := 1) (dig_len.2 (by omega)); omega
    have hC := fun S tk k => R02_order S tk k (B * mid) X (by omega) (by omega)
    simp only [digA] at hTm hC
    by_cases hle : B * mid ≤ X
    · have d4 : decide (cmpN (B * mid) X ≤ 0) = true := by
        unfold cmpN
        split
        · rfl
        · rw [if_neg (by omega)]; rfl
      have hmQ : mid ≤ Q := by rw [hQd, Nat.le_div_iff_mul_le hB, Nat.mul_comm]; exact hle
      simp (maxSteps := 1000000) +contextual (disch := first | with_reducible assumption | exact ⟨rfl⟩ | exact ⟨rfl, rfl⟩ | (refine _root_.id ?_; kernel_rfl) | omega) only [evs, ext_mv, nth, put, putT, getT, binInt, binStr, binBool, aUn, outA, resA, mapO, resA1, oneOf, w1, w2, w3, bots, cond_true, cond_false, if_true, if_false, ite_true, ite_false, reduceIte, reduceCtorEq, implies_true, Nat.reduceAdd, Nat.reduceSub, AV.int, AV.bool, AV.str, Nat.reduceBEq, Nat.reduceEqDiff, Nat.reduceMul, Nat.reduceLT, Nat.reduceLeDiff, Int.reduceNeg, BEq.rfl, beq_self_eq_true, tabl, cellsOf, fldA, ldA, stA, entAt, partA, takeN, over, leafOk, Value.oneCell', idxA, nilA, cellsEq, fillA, elemsA, pure1, pure2, reps, chkA, tys, Try.results68, KX_draw, KX_drawQ, KX_tail, lastO_one, lastO_more, dropL_one, dropL_more, callP_eq, callM_true, digA, e0, e1, e6, e7, e8, e9, e10, d3, d4, f1, f2, f3, f4, hz', hTm, hC]
      exact IH (mid, hi) _ (by first | omega | (simp only; omega)) ⟨rfl, hmQ, hhi, h9, (by first | rfl | simp only [getT, List.map_append, List.map_cons, List.map_nil, digC, digA]), (by first | rfl | simp only [getT, List.map_append, List.map_cons, List.map_nil, digC, digA]), (by first | rfl | simp only [getT, List.map_append, List.map_cons, List.map_nil, digC, digA]), (by first | rfl | simp only [getT, List.map_append, List.map_cons, List.map_nil, digC, digA]), (by first | rfl | simp only [getT, List.map_append, List.map_cons, List.map_nil, digC, digA]), (by first | rfl | simp only [getT, List.map_append, List.map_cons, List.map_nil, digC, digA]), (by first | rfl | simp only [getT, List.map_append, List.map_cons, List.map_nil, digC, digA]), (by first | rfl | simp only [getT, List.map_append, List.map_cons, List.map_nil, digC, digA])⟩
    · have d4 : decide (cmpN (B * mid) X ≤ 0) = false := by
        unfold cmpN
        rw [if_neg (by omega), if_pos (by omega)]; rfl
      have hmQ : Q < mid := by
        rw [hQd, Nat.div_lt_iff_lt_mul hB, Nat.mul_comm]; omega
      simp (maxSteps := 1000000) +contextual (disch := first | with_reducible assumption | exact ⟨rfl⟩ | exact ⟨rfl, rfl⟩ | (refine _root_.id ?_; kernel_rfl) | omega) only [evs, ext_mv, nth, put, putT, getT, binInt, binStr, binBool, aUn, outA, resA, mapO, resA1, oneOf, w1, w2, w3, bots, cond_true, cond_false, if_true, if_false, ite_true, ite_false, reduceIte, reduceCtorEq, implies_true, Nat.reduceAdd, Nat.reduceSub, AV.int, AV.bool, AV.str, Nat.reduceBEq, Nat.reduceEqDiff, Nat.reduceMul, Nat.reduceLT, Nat.reduceLeDiff, Int.reduceNeg, BEq.rfl, beq_self_eq_true, tabl, cellsOf, fldA, ldA, stA, entAt, partA, takeN, over, leafOk, Value.oneCell', idxA, nilA, cellsEq, fillA, elemsA, pure1, pure2, reps, chkA, tys, Try.results68, KX_draw, KX_drawQ, KX_tail, lastO_one, lastO_more, dropL_one, dropL_more, callP_eq, callM_true, digA, e0, e1, e6, e7, e8, e9, e10, d3, d4, f1, f2, f3, f4, f5, hz', hTm, hC]
      exact IH (lo, mid - 1) _ (by first | omega | (simp only; omega)) ⟨rfl, hlo, by first | omega | (dsimp only; omega), by first | omega | (dsimp only; omega), (by first | rfl | simp only [getT, List.map_append, List.map_cons, List.map_nil, digC, digA]), (by first | rfl | simp only [getT, List.map_append, List.map_cons, List.map_nil, digC, digA]), (by first | rfl | simp only [getT, List.map_append, List.map_cons, List.map_nil, digC, digA]), (by first | rfl | simp only [getT, List.map_append, List.map_cons, List.map_nil, digC, digA]), (by first | rfl | simp only [getT, List.map_append, List.map_cons, List.map_nil, digC, digA]), (by first | rfl | simp only [getT, List.map_append, List.map_cons, List.map_nil, digC, digA]), (by first | rfl | simp only [getT, List.map_append, List.map_cons, List.map_nil, digC, digA]), (by first | rfl | simp only [getT, List.map_append, List.map_cons, List.map_nil, digC, digA])⟩
  · have d3 : decide (((lo : Nat) : Int) < ((hi : Nat) : Int)) = false := by simpa using hlt
    have hloQ : lo = Q := by omega
    subst hloQ
    have hTm := fun S tk k => R02_times_lit S tk k B lo hBl1 (by omega)
    have hBQ : B * lo ≤ X := by rw [hQd]; exact Nat.mul_div_le _ _
    have hM := fun S tk k => R02_minus S tk k X (B * lo) (by omega) hBQ
    rw [hmodeq] at hM
    simp only [digA] at hTm hM
    have hov := over_num (v := (lo : Int)) ho
    have hin : m - 1 < (dig A).length := by omega
    have hpw := top_idx (n := m - 1) (by omega)
    simp (maxSteps := 1000000) +contextual (disch := first | with_reducible assumption | exact ⟨rfl⟩ | exact ⟨rfl, rfl⟩ | (refine _root_.id ?_; kernel_rfl) | omega) only [evs, ext_mv, nth, put, putT, getT, binInt, binStr, binBool, aUn, outA, resA, mapO, resA1, oneOf, w1, w2, w3, bots, cond_true, cond_false, if_true, if_false, ite_true, ite_false, reduceIte, reduceCtorEq, implies_true, Nat.reduceAdd, Nat.reduceSub, AV.int, AV.bool, AV.str, Nat.reduceBEq, Nat.reduceEqDiff, Nat.reduceMul, Nat.reduceLT, Nat.reduceLeDiff, Int.reduceNeg, BEq.rfl, beq_self_eq_true, tabl, cellsOf, fldA, ldA, stA, entAt, partA, takeN, over, leafOk, Value.oneCell', idxA, nilA, cellsEq, fillA, elemsA, pure1, pure2, reps, chkA, tys, Try.results68, KX_draw, KX_drawQ, KX_tail, lastO_one, lastO_more, dropL_one, dropL_more, callP_eq, callM_true, digA, e0, e1, e6, e7, e8, e9, e10, d3, hTm, hM, hov, hin, hpw, Nat.mul_one]
    exact OUT (m - 1, X % B, out.set (m - 1) (lo : Int), .unk) _ (by first | omega | (simp only; omega)) ⟨rfl, by first | omega | (dsimp only; omega), hq, (by first | rfl | simp only [getT, List.map_append, List.map_cons, List.map_nil, digC, digA]), (by first | rfl | simp only [getT, List.map_append, List.map_cons, List.map_nil, digC, digA]), (by first | rfl | simp only [getT, List.map_append, List.map_cons, List.map_nil, digC, digA]), (by first | rfl | simp only [getT, List.map_append, List.map_cons, List.map_nil, digC, digA]), (by first | rfl | simp only [getT, List.map_append, List.map_cons, List.map_nil, digC, digA]), (by first | rfl | simp only [getT, List.map_append, List.map_cons, List.map_nil, digC, digA])⟩
end
end Go.Proofs.Ytmgbmbganlndkaa
