/-
  Texts laid together: B8, R1.
-/
import Derived.Test.YtgadegdhfjnoaaaDoorZR10
/-
  Sums, differences, opposites and the order of numbers.
-/

namespace Go.Proofs.YtgadegdhfjnoaaaDoor
open Go

def sg (p : Bool) (n : Nat) : Int := if p = true then -(n : Int) else n
def okZ (z : Int) : Bool := !decide (200 < (dig z.natAbs).length)
def fitZ (z : Int) : Int := if okZ z = true then z else 0
/-- a number, and whether it is not too long -/
def sgnZ (z : Int) : AV := .tup [zA (fitZ z), .bool (okZ z)]
theorem zA_zero : zA 0 = bigA false [] := rfl
theorem sgZ_pure (z : Int) : pure3 (sgnZ z) = true := rfl
theorem sg_abs (p : Bool) (n : Nat) : (sg p n).natAbs = n := by unfold sg; split <;> omega
theorem sgn_sg (p : Bool) (n : Nat) : sgnF p (dig n) = sgnZ (sg p n) := by
  have ha := sg_abs p n
  unfold sgnF sgnZ fitZ okZ zA
  rw [ha]
  by_cases h : 200 < (dig n).length
  · simp [h, dig_zero]
  · have e : decide (sg p n < 0) = (p && !decide (dig n = [])) := by
      have h1 : (dig n = []) ↔ n = 0 := dig_nil
      cases p with
      | true => simp only [sg, if_true, Bool.true_and]; by_cases h0 : n = 0
                · subst h0; simp [dig_zero]
                · have h2 : ¬ dig n = [] := fun h => h0 (h1.1 h)
                  simp [h2]; omega
      | false => simp [sg]
    simp only [h, decide_false, Bool.not_false, if_true, if_false, ha, e]
theorem V_sg (p : Bool) (l : List Int) : V p l = sg p (V p l).natAbs := by
  unfold V
  cases h : validF p l with
  | false => cases p <;> simp [sg]
  | true =>
    have h3 := val_nonneg (valid_dig h).2.1
    cases p <;> simp [sg] <;> omega
theorem V_sg2 (p : Bool) (l : List Int) : V p l = sg (validF p l && p) (V p l).natAbs := by
  cases h : validF p l with
  | false => rw [V_bad h]; rfl
  | true => simpa using V_sg p l
theorem mul_sg (p q : Bool) (X Y : Nat) : sg (p != q) (X * Y) = sg p X * sg q Y := by
  cases p <;> cases q <;> simp [sg, Int.neg_mul, Int.mul_neg]
theorem add_same (p : Bool) (X Y : Nat) : sg p (X + Y) = sg p X + sg p Y := by cases p <;> simp [sg]; omega
theorem add_ge {p q : Bool} (h : p ≠ q) {X Y : Nat} (hl : Y ≤ X) : sg p (X - Y) = sg p X + sg q Y := by
  cases p <;> cases q <;> simp [sg] at h ⊢ <;> omega
theorem add_lt {p q : Bool} (h : p ≠ q) {X Y : Nat} (hl : X ≤ Y) : sg q (Y - X) = sg p X + sg q Y := by
  cases p <;> cases q <;> simp [sg] at h ⊢ <;> omega
theorem sg_not (p : Bool) (X : Nat) : sg (!p) X = - sg p X := by cases p <;> simp [sg]
theorem fits_V (p : Bool) (l : List Int) : okZ (V p l) = true := by
  have := V_len p l
  simp [okZ]; omega
theorem okZ_neg (z : Int) : okZ (-z) = okZ z := by simp [okZ]
theorem V_zA {z : Int} (h : okZ z = true) : V (decide (z < 0)) (dig z.natAbs) = z := V_of z (by simpa [okZ] using h)
theorem okZ_fit (z : Int) : okZ (fitZ z) = true := by
  unfold fitZ; split
  · assumption
  · rfl
theorem fit_of {z : Int} (h : okZ z = true) : fitZ z = z := by simp [fitZ, h]
theorem zA_len {z : Int} (h : okZ z = true) : (dig z.natAbs).length ≤ 200 := by simpa [okZ] using h
theorem cmpN_ge {X Y : Nat} (h : Y ≤ X) : decide (cmpN X Y ≥ 0) = true := by
  unfold cmpN
  rw [if_neg (by omega)]
  split <;> rfl
theorem cmpN_lt {X Y : Nat} (h : X < Y) : decide (cmpN X Y ≥ 0) = false := by
  unfold cmpN
  rw [if_pos h]
  rfl
theorem V_neg (p : Bool) (l : List Int) : if (validF p l && p) = true then V p l ≤ 0 ∧ V p l ≠ 0 else 0 ≤ V p l := by
  have h := V_sg2 p l
  cases hb : (validF p l && p) with
  | false => rw [hb] at h; simp [sg] at h ⊢; omega
  | true =>
    rw [hb] at h
    simp only [Bool.and_eq_true] at hb
    simp only [if_true]
    have h0 : V p l ≠ 0 := fun h0 => by
      have h1 := V_abs p l
      rw [h0, hb.1] at h1
      simp only [Int.natAbs_zero, dig_zero, if_true] at h1
      subst h1
      rw [hb.2] at hb
      simp [validF] at hb
    refine ⟨?_, h0⟩
    rw [h]; simp [sg]
/-- the order of two numbers -/
def cmpZ (x y : Int) : Int := if x < y then -1 else if y < x then 1 else 0

section
variable (S : List Ent) (tk : List Nat) (k : Nat)
theorem big_signed' (neg : Bool) (n : Nat) (c : Cap) : cL Tryd.prog 71 [.bool neg, .frz ((dig n).map digC) c] S tk k = some (sgnZ (sg neg n), S, tk, k) := by
  rw [big_signed, sgn_sg]
theorem big_sum (p q : Bool) (X Y : Nat) (ha : (dig X).length ≤ 100000) (hb : (dig Y).length ≤ 100000) : cL Tryd.prog 69 [.bool p, digA (dig X), .bool q, digA (dig Y)] S tk k = some (sgnZ (sg p X + sg q Y), S, tk, k) := by
  have hP := fun S tk k => big_plus S tk k X Y ha hb
  have hC := fun S tk k => big_compare S tk k X Y (by omega) (by omega)
  simp only [digA] at hP hC
  refine call_pure Tryd.func69 rfl rfl (by decide +kernel) (by decide +kernel) Tryd.ntmps69 rfl rfl _ _ _ (sgZ_pure _) ?_; rw [RK_KX]
  by_cases hpq : p = q
  · subst hpq
    have hs := fun S tk k => big_signed' S tk k p (X + Y) .unk
    rw [add_same] at hs
    simp only [sgnZ] at hs ⊢
    simp (maxSteps := 1000000) +contextual (disch := first | with_reducible assumption | exact ⟨rfl⟩ | exact ⟨rfl, rfl⟩ | (refine _root_.id ?_; kernel_rfl) | omega) only [evs, ext_mv, nth, put, putT, getT, binInt, binStr, binBool, aUn, outA, resA, mapO, resA1, oneOf, w1, w2, w3, bots, cond_true, cond_false, if_true, if_false, ite_true, ite_false, reduceIte, reduceCtorEq, implies_true, Nat.reduceAdd, Nat.reduceSub, AV.int, AV.bool, AV.str, Nat.reduceBEq, Nat.reduceEqDiff, Nat.reduceMul, Nat.reduceLT, Nat.reduceLeDiff, Int.reduceNeg, BEq.rfl, beq_self_eq_true, tabl, cellsOf, fldA, ldA, stA, entAt, partA, takeN, over, leafOk, Value.oneCell', idxA, nilA, cellsEq, fillA, elemsA, pure1, pure2, reps, chkA, tys, Tryd.results69, KX_draw, KX_drawQ, KX_tail, lastO_one, lastO_more, dropL_one, dropL_more, callP_eq, callM_true, digA, zA, bigA, hP, hs]
  · have d1 : (p == q) = false := by simpa using hpq
    by_cases hge : Y ≤ X
    · have hM := fun S tk k => big_minus S tk k X Y ha hge
      have hs := fun S tk k => big_signed' S tk k p (X - Y) .unk
      rw [add_ge hpq hge] at hs
      have d2 : decide (cmpN X Y ≥ 0) = true := cmpN_ge hge
      simp only [sgnZ, digA] at hs hM ⊢
      simp (maxSteps := 1000000) +contextual (disch := first | with_reducible assumption | exact ⟨rfl⟩ | exact ⟨rfl, rfl⟩ | (refine _root_.id ?_; kernel_rfl) | omega) only [evs, ext_mv, nth, put, putT, getT, binInt, binStr, binBool, aUn, outA, resA, mapO, resA1, oneOf, w1, w2, w3, bots, cond_true, cond_false, if_true, if_false, ite_true, ite_false, reduceIte, reduceCtorEq, implies_true, Nat.reduceAdd, Nat.reduceSub, AV.int, AV.bool, AV.str, Nat.reduceBEq, Nat.reduceEqDiff, Nat.reduceMul, Nat.reduceLT, Nat.reduceLeDiff, Int.reduceNeg, BEq.rfl, beq_self_eq_true, tabl, cellsOf, fldA, ldA, stA, entAt, partA, takeN, over, leafOk, Value.oneCell', idxA, nilA, cellsEq, fillA, elemsA, pure1, pure2, reps, chkA, tys, Tryd.results69, KX_draw, KX_drawQ, KX_tail, lastO_one, lastO_more, dropL_one, dropL_more, callP_eq, callM_true, digA, zA, bigA, hM, hs, d1, d2, hC]
    · have hM := fun S tk k => big_minus S tk k Y X hb (by omega)
      have hs := fun S tk k => big_signed' S tk k q (Y - X) .unk
      rw [add_lt hpq (by omega)] at hs
      have d2 : decide (cmpN X Y ≥ 0) = false := cmpN_lt (by omega)
      simp only [sgnZ, digA] at hs hM ⊢
      simp (maxSteps := 1000000) +contextual (disch := first | with_reducible assumption | exact ⟨rfl⟩ | exact ⟨rfl, rfl⟩ | (refine _root_.id ?_; kernel_rfl) | omega) only [evs, ext_mv, nth, put, putT, getT, binInt, binStr, binBool, aUn, outA, resA, mapO, resA1, oneOf, w1, w2, w3, bots, cond_true, cond_false, if_true, if_false, ite_true, ite_false, reduceIte, reduceCtorEq, implies_true, Nat.reduceAdd, Nat.reduceSub, AV.int, AV.bool, AV.str, Nat.reduceBEq, Nat.reduceEqDiff, Nat.reduceMul, Nat.reduceLT, Nat.reduceLeDiff, Int.reduceNeg, BEq.rfl, beq_self_eq_true, tabl, cellsOf, fldA, ldA, stA, entAt, partA, takeN, over, leafOk, Value.oneCell', idxA, nilA, cellsEq, fillA, elemsA, pure1, pure2, reps, chkA, tys, Tryd.results69, KX_draw, KX_drawQ, KX_tail, lastO_one, lastO_more, dropL_one, dropL_more, callP_eq, callM_true, digA, zA, bigA, hM, hs, d1, d2, hC]
theorem big_Add (p q : Bool) (l r : List Int) (hl : l.length ≤ 1000000) (hr : r.length ≤ 1000000) : cL Tryd.prog 38 [bigA p l, bigA q r] S tk k = some (sgnZ (V p l + V q r), S, tk, k) := by
  have hD1 := fun S tk k => big_digits S tk k p l .unk hl
  have hD2 := fun S tk k => big_digits S tk k q r .unk hr
  have ha := V_len p l
  have hb := V_len q r
  have hS := fun S tk k => big_sum S tk k p q (V p l).natAbs (V q r).natAbs (by omega) (by omega)
  rw [← V_sg, ← V_sg] at hS
  simp only [digA, sgnZ] at hD1 hD2 hS ⊢
  refine call_pure Tryd.func38 rfl rfl (by decide +kernel) (by decide +kernel) Tryd.ntmps38 rfl rfl _ _ _ (sgZ_pure _) ?_; rw [RK_KX]
  simp (maxSteps := 1000000) +contextual (disch := first | with_reducible assumption | exact ⟨rfl⟩ | exact ⟨rfl, rfl⟩ | (refine _root_.id ?_; kernel_rfl) | omega) only [evs, ext_mv, nth, put, putT, getT, binInt, binStr, binBool, aUn, outA, resA, mapO, resA1, oneOf, w1, w2, w3, bots, cond_true, cond_false, if_true, if_false, ite_true, ite_false, reduceIte, reduceCtorEq, implies_true, Nat.reduceAdd, Nat.reduceSub, AV.int, AV.bool, AV.str, Nat.reduceBEq, Nat.reduceEqDiff, Nat.reduceMul, Nat.reduceLT, Nat.reduceLeDiff, Int.reduceNeg, BEq.rfl, beq_self_eq_true, tabl, cellsOf, fldA, ldA, stA, entAt, partA, takeN, over, leafOk, Value.oneCell', idxA, nilA, cellsEq, fillA, elemsA, pure1, pure2, reps, chkA, tys, Tryd.results38, KX_draw, KX_drawQ, KX_tail, lastO_one, lastO_more, dropL_one, dropL_more, callP_eq, callM_true, zA, bigA, digA, hD1, hD2, hS]
theorem ap_nil {l : List Int} (hl : l.length ≤ 1000000) (tk : List Nat) : apB (some 1) [] Cap.nilc (l.map digC) tk = some (.frz (l.map digC) (capNew tk Cap.nilc 1), capPut tk Cap.nilc) := by
  rw [apB_all rfl rfl (rowsOk_dig l) (by simp; omega)]; rfl
theorem big_Neg (p : Bool) (l : List Int) (hl : l.length ≤ 1000000) : cL Tryd.prog 39 [bigA p l] S tk k = some (zA (- V p l), S, tk, k) := by
  have hD := fun S tk k => big_digits S tk k p l .unk hl
  have ha := V_len p l
  have hs := fun S tk k => big_signed' S tk k (!p) (V p l).natAbs
  have hz : okZ (- V p l) = true := by rw [okZ_neg]; exact fits_V p l
  rw [sg_not, ← V_sg] at hs
  simp only [sgnZ, fit_of hz, zA, bigA, digA] at hD hs ⊢
  refine call_pure Tryd.func39 rfl rfl (by decide +kernel) (by decide +kernel) Tryd.ntmps39 rfl rfl _ _ _ (rfl) ?_; rw [RK_KX]
  have hap := fun tk => ap_nil (l := dig (V p l).natAbs) (by omega) tk
  simp (maxSteps := 1000000) +contextual (disch := first | with_reducible assumption | exact ⟨rfl⟩ | exact ⟨rfl, rfl⟩ | (refine _root_.id ?_; kernel_rfl) | omega) only [evs, ext_mv, nth, put, putT, getT, binInt, binStr, binBool, aUn, outA, resA, mapO, resA1, oneOf, w1, w2, w3, bots, cond_true, cond_false, if_true, if_false, ite_true, ite_false, reduceIte, reduceCtorEq, implies_true, Nat.reduceAdd, Nat.reduceSub, AV.int, AV.bool, AV.str, Nat.reduceBEq, Nat.reduceEqDiff, Nat.reduceMul, Nat.reduceLT, Nat.reduceLeDiff, Int.reduceNeg, BEq.rfl, beq_self_eq_true, tabl, cellsOf, fldA, ldA, stA, entAt, partA, takeN, over, leafOk, Value.oneCell', idxA, nilA, cellsEq, fillA, elemsA, pure1, pure2, reps, chkA, tys, Tryd.results39, KX_draw, KX_drawQ, KX_tail, lastO_one, lastO_more, dropL_one, dropL_more, callP_eq, callM_true, digA, zA, bigA, hD, hs, hap]
theorem zA_call {f : FuncId} {z : Int} {S : List Ent} {tk : List Nat} {k : Nat} {r : Option (AV × List Ent × List Nat × Nat)} (h : cL Tryd.prog f [bigA (decide (z < 0)) (dig z.natAbs)] S tk k = r) : cL Tryd.prog f [zA z] S tk k = r := h
theorem len_pos_dig (X : Nat) : decide (((dig X).length : Int) > 0) = !decide (X = 0) := by
  by_cases h : X = 0
  · subst h; simp [dig_zero]
  · have h2 : ¬ dig X = [] := fun h' => h (dig_nil.1 h')
    rw [len_gt_zero h2]; simp [h]
end
end Go.Proofs.YtgadegdhfjnoaaaDoor
/-
  What the functions of the fractions compute: comparing digits, cutting zeros off, products.
-/

namespace Go.Proofs.YtgadegdhfjnoaaaDoor
open Go
section
variable (S : List Ent) (tk : List Nat) (k : Nat)
theorem rat_order (a b : Nat) (ha : (dig a).length ≤ 1000000) (hb : (dig b).length ≤ 1000000) : cL Tryd.prog 48 [digA (dig a), digA (dig b)] S tk k = some (.int (cmpN a b), S, tk, k) := by
  refine call_pure Tryd.func48 rfl rfl (by decide +kernel) (by decide +kernel) Tryd.ntmps48 rfl rfl _ _ _ rfl ?_; rw [RK_KX]
  by_cases hl : (dig a).length = (dig b).length
  case neg =>
    have d1 : (((dig a).length : Int) != ((dig b).length : Int)) = true := by simp; omega
    rcases Nat.lt_or_ge (dig a).length (dig b).length with h | h
    · have d2 : decide (((dig a).length : Int) < ((dig b).length : Int)) = true := by simpa using h
      have := cmp_shorter h
      simp (maxSteps := 1000000) +contextual (disch := first | with_reducible assumption | exact ⟨rfl⟩ | exact ⟨rfl, rfl⟩ | (refine _root_.id ?_; kernel_rfl) | omega) only [evs, ext_mv, nth, put, putT, getT, binInt, binStr, binBool, aUn, outA, resA, mapO, resA1, oneOf, w1, w2, w3, bots, cond_true, cond_false, if_true, if_false, ite_true, ite_false, reduceIte, reduceCtorEq, implies_true, Nat.reduceAdd, Nat.reduceSub, AV.int, AV.bool, AV.str, Nat.reduceBEq, Nat.reduceEqDiff, Nat.reduceMul, Nat.reduceLT, Nat.reduceLeDiff, Int.reduceNeg, BEq.rfl, beq_self_eq_true, tabl, cellsOf, fldA, ldA, stA, entAt, partA, takeN, over, leafOk, Value.oneCell', idxA, nilA, cellsEq, fillA, elemsA, pure1, pure2, reps, chkA, tys, Tryd.results48, KX_draw, KX_drawQ, KX_tail, lastO_one, lastO_more, dropL_one, dropL_more, callP_eq, callM_true, digA, d1, d2]
      simp [cmpN, this]
    · have d2 : decide (((dig a).length : Int) < ((dig b).length : Int)) = false := by simp; omega
      have := cmp_shorter (a := b) (b := a) (by omega)
      simp (maxSteps := 1000000) +contextual (disch := first | with_reducible assumption | exact ⟨rfl⟩ | exact ⟨rfl, rfl⟩ | (refine _root_.id ?_; kernel_rfl) | omega) only [evs, ext_mv, nth, put, putT, getT, binInt, binStr, binBool, aUn, outA, resA, mapO, resA1, oneOf, w1, w2, w3, bots, cond_true, cond_false, if_true, if_false, ite_true, ite_false, reduceIte, reduceCtorEq, implies_true, Nat.reduceAdd, Nat.reduceSub, AV.int, AV.bool, AV.str, Nat.reduceBEq, Nat.reduceEqDiff, Nat.reduceMul, Nat.reduceLT, Nat.reduceLeDiff, Int.reduceNeg, BEq.rfl, beq_self_eq_true, tabl, cellsOf, fldA, ldA, stA, entAt, partA, takeN, over, leafOk, Value.oneCell', idxA, nilA, cellsEq, fillA, elemsA, pure1, pure2, reps, chkA, tys, Tryd.results48, KX_draw, KX_drawQ, KX_tail, lastO_one, lastO_more, dropL_one, dropL_more, callP_eq, callM_true, digA, d1, d2]
      rw [cmpN, if_neg (by omega), if_pos this]
  have d1 : (((dig a).length : Int) != ((dig b).length : Int)) = false := by simp; omega
  have d3 := top_idx ha
  simp (maxSteps := 1000000) +contextual (disch := first | with_reducible assumption | exact ⟨rfl⟩ | exact ⟨rfl, rfl⟩ | (refine _root_.id ?_; kernel_rfl) | omega) only [evs, ext_mv, nth, put, putT, getT, binInt, binStr, binBool, aUn, outA, resA, mapO, resA1, oneOf, w1, w2, w3, bots, cond_true, cond_false, if_true, if_false, ite_true, ite_false, reduceIte, reduceCtorEq, implies_true, Nat.reduceAdd, Nat.reduceSub, AV.int, AV.bool, AV.str, Nat.reduceBEq, Nat.reduceEqDiff, Nat.reduceMul, Nat.reduceLT, Nat.reduceLeDiff, Int.reduceNeg, BEq.rfl, beq_self_eq_true, tabl, cellsOf, fldA, ldA, stA, entAt, partA, takeN, over, leafOk, Value.oneCell', idxA, nilA, cellsEq, fillA, elemsA, pure1, pure2, reps, chkA, tys, Tryd.results48, KX_draw, KX_drawQ, KX_tail, lastO_one, lastO_more, dropL_one, dropL_more, callP_eq, callM_true, digA, d1, d3]
  refine loop1 (fun x st => st.T.length = 41 ∧ (x ≤ (dig a).length) ∧ (∀ j, x ≤ j → nth (dig a) j = nth (dig b) j) ∧ getT st.T 0 = digA (dig a) ∧ getT st.T 1 = digA (dig b) ∧ getT st.T 5 = .int ((x : Int) - 1) ∧ st.S = []) (fun x => x) (fun x => .int (cmpN a b)) ((dig a).length) ?_ ?_
  case refine_2 => exact ⟨rfl, Nat.le_refl _, fun j hj => by rw [nth_get, nth_get, List.getElem?_eq_none hj, List.getElem?_eq_none (by omega)], rfl, rfl, rfl, rfl⟩
  rintro n ⟨T, S', tk', n'⟩ ⟨hl, hn, he, e0, e1, e5, eS⟩ IH
  subst eS
  obtain ⟨g, hg, hT⟩ := tab_of hl
  rw [hg] at e0 e1 e5
  subst hT
  clear hg hl
  by_cases h0 : n = 0
  · have d2 : decide ((n : Int) - 1 ≥ 0) = false := by simp; omega
    have := cmp_same fun j => he j (by omega)
    subst this
    simp (maxSteps := 1000000) +contextual (disch := first | with_reducible assumption | exact ⟨rfl⟩ | exact ⟨rfl, rfl⟩ | (refine _root_.id ?_; kernel_rfl) | omega) only [evs, ext_mv, nth, put, putT, getT, binInt, binStr, binBool, aUn, outA, resA, mapO, resA1, oneOf, w1, w2, w3, bots, cond_true, cond_false, if_true, if_false, ite_true, ite_false, reduceIte, reduceCtorEq, implies_true, Nat.reduceAdd, Nat.reduceSub, AV.int, AV.bool, AV.str, Nat.reduceBEq, Nat.reduceEqDiff, Nat.reduceMul, Nat.reduceLT, Nat.reduceLeDiff, Int.reduceNeg, BEq.rfl, beq_self_eq_true, tabl, cellsOf, fldA, ldA, stA, entAt, partA, takeN, over, leafOk, Value.oneCell', idxA, nilA, cellsEq, fillA, elemsA, pure1, pure2, reps, chkA, tys, Tryd.results48, KX_draw, KX_drawQ, KX_tail, lastO_one, lastO_more, dropL_one, dropL_more, callP_eq, callM_true, e0, e1, e5, d2, digA]
    simp [cmpN]
  · have d2 : decide ((n : Int) - 1 ≥ 0) = true := by simp; omega
    have hi : (n : Int) - 1 = ((n - 1 : Nat) : Int) := by omega
    obtain ⟨x, hx⟩ := nth_some (show n - 1 < (dig a).length by omega)
    obtain ⟨y, hy⟩ := nth_some (show n - 1 < (dig b).length by omega)
    have hx' := nth_dig hx
    have hy' := nth_dig hy
    have he' : ∀ j, n - 1 < j → nth (dig a) j = nth (dig b) j := fun j hj => he j (by omega)
    have hp := top_idx (n := n - 1) (by omega)
    rw [hi] at e5 d2
    by_cases hxy : x = y
    · have d4 : (x != y) = false := by simpa using hxy
      simp (maxSteps := 1000000) +contextual (disch := first | with_reducible assumption | exact ⟨rfl⟩ | exact ⟨rfl, rfl⟩ | (refine _root_.id ?_; kernel_rfl) | omega) only [evs, ext_mv, nth, put, putT, getT, binInt, binStr, binBool, aUn, outA, resA, mapO, resA1, oneOf, w1, w2, w3, bots, cond_true, cond_false, if_true, if_false, ite_true, ite_false, reduceIte, reduceCtorEq, implies_true, Nat.reduceAdd, Nat.reduceSub, AV.int, AV.bool, AV.str, Nat.reduceBEq, Nat.reduceEqDiff, Nat.reduceMul, Nat.reduceLT, Nat.reduceLeDiff, Int.reduceNeg, BEq.rfl, beq_self_eq_true, tabl, cellsOf, fldA, ldA, stA, entAt, partA, takeN, over, leafOk, Value.oneCell', idxA, nilA, cellsEq, fillA, elemsA, pure1, pure2, reps, chkA, tys, Tryd.results48, KX_draw, KX_drawQ, KX_tail, lastO_one, lastO_more, dropL_one, dropL_more, callP_eq, callM_true, e0, e1, e5, d2, d4, digA, hx', hy', hp]
      exact IH (n - 1) _ (by first | omega | (simp only; omega)) ⟨rfl, by first | omega | (dsimp only; omega), fun j hj => by by_cases e : j = n - 1; (· rw [e, hx, hy, hxy]); exact he' j (by first | omega | (dsimp only; omega)), (by first | rfl | simp only [getT, List.map_append, List.map_cons, List.map_nil, digC, digA]), (by first | rfl | simp only [getT, List.map_append, List.map_cons, List.map_nil, digC, digA]), (by first | rfl | simp only [getT, List.map_append, List.map_cons, List.map_nil, digC, digA]), (by first | rfl | simp only [getT, List.map_append, List.map_cons, List.map_nil, digC, digA])⟩
    · have d4 : (x != y) = true := by simpa using hxy
      by_cases h1 : x < y
      · have d5 : decide (x < y) = true := by simpa using h1
        have := cmp_at hl hx hy h1 he'
        simp (maxSteps := 1000000) +contextual (disch := first | with_reducible assumption | exact ⟨rfl⟩ | exact ⟨rfl, rfl⟩ | (refine _root_.id ?_; kernel_rfl) | omega) only [evs, ext_mv, nth, put, putT, getT, binInt, binStr, binBool, aUn, outA, resA, mapO, resA1, oneOf, w1, w2, w3, bots, cond_true, cond_false, if_true, if_false, ite_true, ite_false, reduceIte, reduceCtorEq, implies_true, Nat.reduceAdd, Nat.reduceSub, AV.int, AV.bool, AV.str, Nat.reduceBEq, Nat.reduceEqDiff, Nat.reduceMul, Nat.reduceLT, Nat.reduceLeDiff, Int.reduceNeg, BEq.rfl, beq_self_eq_true, tabl, cellsOf, fldA, ldA, stA, entAt, partA, takeN, over, leafOk, Value.oneCell', idxA, nilA, cellsEq, fillA, elemsA, pure1, pure2, reps, chkA, tys, Tryd.results48, KX_draw, KX_drawQ, KX_tail, lastO_one, lastO_more, dropL_one, dropL_more, callP_eq, callM_true, e0, e1, e5, d2, d4, d5, digA, hx', hy', hp]
        simp [cmpN, this]
      · have d5 : decide (x < y) = false := by simpa using h1
        have := cmp_at hl.symm hy hx (by omega) fun j hj => (he' j hj).symm
        simp (maxSteps := 1000000) +contextual (disch := first | with_reducible assumption | exact ⟨rfl⟩ | exact ⟨rfl, rfl⟩ | (refine _root_.id ?_; kernel_rfl) | omega) only [evs, ext_mv, nth, put, putT, getT, binInt, binStr, binBool, aUn, outA, resA, mapO, resA1, oneOf, w1, w2, w3, bots, cond_true, cond_false, if_true, if_false, ite_true, ite_false, reduceIte, reduceCtorEq, implies_true, Nat.reduceAdd, Nat.reduceSub, AV.int, AV.bool, AV.str, Nat.reduceBEq, Nat.reduceEqDiff, Nat.reduceMul, Nat.reduceLT, Nat.reduceLeDiff, Int.reduceNeg, BEq.rfl, beq_self_eq_true, tabl, cellsOf, fldA, ldA, stA, entAt, partA, takeN, over, leafOk, Value.oneCell', idxA, nilA, cellsEq, fillA, elemsA, pure1, pure2, reps, chkA, tys, Tryd.results48, KX_draw, KX_drawQ, KX_tail, lastO_one, lastO_more, dropL_one, dropL_more, callP_eq, callM_true, e0, e1, e5, d2, d4, d5, digA, hx', hy', hp]
        rw [cmpN, if_neg (by omega), if_pos this]
theorem rat_trim_own (l : List Int) (id ep : Nat) (hlen : l.length ≤ 1000000) (h : entAt S id ep = some (l.map numC)) : cL Tryd.prog 82 [.sref id ep 0 l.length 1] S tk k = some (.sref id ep 0 (trimL l).length 1, S, tk, k) := by
  refine call_shared Tryd.func82 rfl rfl (by decide +kernel) Tryd.ntmps82 rfl ?_; rw [RK_KX]
  have hid : id < S.length := by
    obtain ⟨e, h1, -⟩ := entAt_some h
    exact nth_lt h1
  simp (maxSteps := 1000000) +contextual (disch := first | with_reducible assumption | exact ⟨rfl⟩ | exact ⟨rfl, rfl⟩ | (refine _root_.id ?_; kernel_rfl) | omega) only [evs, ext_mv, nth, put, putT, getT, binInt, binStr, binBool, aUn, outA, resA, mapO, resA1, oneOf, w1, w2, w3, bots, cond_true, cond_false, if_true, if_false, ite_true, ite_false, reduceIte, reduceCtorEq, implies_true, Nat.reduceAdd, Nat.reduceSub, AV.int, AV.bool, AV.str, Nat.reduceBEq, Nat.reduceEqDiff, Nat.reduceMul, Nat.reduceLT, Nat.reduceLeDiff, Int.reduceNeg, BEq.rfl, beq_self_eq_true, tabl, cellsOf, fldA, ldA, stA, entAt_new, entAt_old, entAt_old2, List.take_left, List.take_length, partA, takeN, over, leafOk, Value.oneCell', idxA, nilA, cellsEq, fillA, elemsA, pure1, pure2, reps, chkA, tys, Tryd.results82, KX_draw, KX_drawQ, KX_tail, lastO_one, lastO_more, dropL_one, dropL_more, callP_eq, callM_true, w2, w1]
  refine loopS (fun x st => st.T.length = 21 ∧ (x ≤ l.length) ∧ (∀ j, x ≤ j → ∀ x, nth l j = some x → x = 0) ∧ getT st.T 0 = .sref id ep 0 x 1 ∧ st.S = S ∧ st.tk = tk ∧ st.n = k) (fun x => x) (fun x => (.sref id ep 0 (trimL l).length 1, S, tk, k)) (l.length) ?_ ?_
  case refine_2 => exact ⟨rfl, Nat.le_refl _, hz_start l, rfl, rfl, rfl, rfl⟩
  rintro n ⟨T, S', tk', n'⟩ ⟨hl, hn, hz, e0, eS, eT, eN⟩ IH
  subst eS eT eN
  obtain ⟨g, hg, hT⟩ := tab_of hl
  rw [hg] at e0
  subst hT
  clear hg hl
  by_cases h0 : n = 0
  · have d1 : decide ((n : Int) > 0) = false := by simp; omega
    have ht := trim_stop hn hz (.inl h0)
    simp (maxSteps := 1000000) +contextual (disch := first | with_reducible assumption | exact ⟨rfl⟩ | exact ⟨rfl, rfl⟩ | (refine _root_.id ?_; kernel_rfl) | omega) only [evs, ext_mv, nth, put, putT, getT, binInt, binStr, binBool, aUn, outA, resA, mapO, resA1, oneOf, w1, w2, w3, bots, cond_true, cond_false, if_true, if_false, ite_true, ite_false, reduceIte, reduceCtorEq, implies_true, Nat.reduceAdd, Nat.reduceSub, AV.int, AV.bool, AV.str, Nat.reduceBEq, Nat.reduceEqDiff, Nat.reduceMul, Nat.reduceLT, Nat.reduceLeDiff, Int.reduceNeg, BEq.rfl, beq_self_eq_true, tabl, cellsOf, fldA, ldA, stA, entAt_new, entAt_old, entAt_old2, List.take_left, List.take_length, partA, takeN, over, leafOk, Value.oneCell', idxA, nilA, cellsEq, fillA, elemsA, pure1, pure2, reps, chkA, tys, Tryd.results82, KX_draw, KX_drawQ, KX_tail, lastO_one, lastO_more, dropL_one, dropL_more, callP_eq, callM_true, e0, d1]
    rw [ht]; simp [h0]
  · have d1 : decide ((n : Int) > 0) = true := by simp; omega
    have hp := pred_idx h0 (by omega)
    have hn1 : n - 1 < l.length := by omega
    have hn2 : n - 1 < n := by omega
    have hn3 : n - 1 ≤ n := by omega
    obtain ⟨x, hx⟩ := nth_some hn1
    have hx' := nth_num hx
    by_cases hx0 : x = 0
    · have d2 : (x == 0) = true := by simpa using hx0
      simp (maxSteps := 1000000) +contextual (disch := first | with_reducible assumption | exact ⟨rfl⟩ | exact ⟨rfl, rfl⟩ | (refine _root_.id ?_; kernel_rfl) | omega) only [evs, ext_mv, nth, put, putT, getT, binInt, binStr, binBool, aUn, outA, resA, mapO, resA1, oneOf, w1, w2, w3, bots, cond_true, cond_false, if_true, if_false, ite_true, ite_false, reduceIte, reduceCtorEq, implies_true, Nat.reduceAdd, Nat.reduceSub, AV.int, AV.bool, AV.str, Nat.reduceBEq, Nat.reduceEqDiff, Nat.reduceMul, Nat.reduceLT, Nat.reduceLeDiff, Int.reduceNeg, BEq.rfl, beq_self_eq_true, tabl, cellsOf, fldA, ldA, stA, entAt_new, entAt_old, entAt_old2, List.take_left, List.take_length, partA, takeN, over, leafOk, Value.oneCell', idxA, nilA, cellsEq, fillA, elemsA, pure1, pure2, reps, chkA, tys, Tryd.results82, KX_draw, KX_drawQ, KX_tail, lastO_one, lastO_more, dropL_one, dropL_more, callP_eq, callM_true, e0, d1, d2, hp, hx', h, hn1, hn2, hn3, Nat.mul_one, sliceA, bound, intN_cast, Nat.le_refl, Nat.zero_le, Nat.zero_mul, Nat.sub_zero, Nat.add_zero]
      exact IH (n - 1) _ (by first | omega | (simp only; omega)) ⟨rfl, by first | omega | (dsimp only; omega), hz_pred hz hx hx0, (by first | rfl | simp only [getT, List.map_append, List.map_cons, List.map_nil, digC, digA]), (by first | rfl | simp only [getT, List.map_append, List.map_cons, List.map_nil, digC, digA]), rfl, rfl⟩
    · have d2 : (x == 0) = false := by simpa using hx0
      have ht := trim_stop hn hz (.inr ⟨x, hx, hx0⟩)
      simp (maxSteps := 1000000) +contextual (disch := first | with_reducible assumption | exact ⟨rfl⟩ | exact ⟨rfl, rfl⟩ | (refine _root_.id ?_; kernel_rfl) | omega) only [evs, ext_mv, nth, put, putT, getT, binInt, binStr, binBool, aUn, outA, resA, mapO, resA1, oneOf, w1, w2, w3, bots, cond_true, cond_false, if_true, if_false, ite_true, ite_false, reduceIte, reduceCtorEq, implies_true, Nat.reduceAdd, Nat.reduceSub, AV.int, AV.bool, AV.str, Nat.reduceBEq, Nat.reduceEqDiff, Nat.reduceMul, Nat.reduceLT, Nat.reduceLeDiff, Int.reduceNeg, BEq.rfl, beq_self_eq_true, tabl, cellsOf, fldA, ldA, stA, entAt_new, entAt_old, entAt_old2, List.take_left, List.take_length, partA, takeN, over, leafOk, Value.oneCell', idxA, nilA, cellsEq, fillA, elemsA, pure1, pure2, reps, chkA, tys, Tryd.results82, KX_draw, KX_drawQ, KX_tail, lastO_one, lastO_more, dropL_one, dropL_more, callP_eq, callM_true, e0, d1, d2, hp, hx', h, hn1, hn2, Nat.mul_one, sliceA, bound, intN_cast, hn, Nat.le_refl, Nat.zero_le, Nat.zero_mul, Nat.sub_zero, Nat.add_zero]
      rw [ht]; simp; omega
set_option maxRecDepth 100000 in
theorem rat_product (X Y : Nat) (ha : (dig X).length ≤ 100000) (hb : (dig Y).length ≤ 100000) : cL Tryd.prog 75 [digA (dig X), digA (dig Y)] S tk k = some (digA (dig (X * Y)), S, tk, k) := by
  refine call_pure Tryd.func75 rfl rfl (by decide +kernel) (by decide +kernel) Tryd.ntmps75 rfl rfl _ _ _ rfl ?_; rw [RK_KX]
  have hw : IntKind.i64.wrap (((dig X).length : Int) + ((dig Y).length : Int)) = (((dig X).length + (dig Y).length : Nat) : Int) := by rw [wrap_of (by unfold i64; omega)]; omega
  have hbo : (elemOf Tryd.prog 22).bind (bytesOf Tryd.prog) = some 8 := by kernel_rfl
  have hmk := mk_num (P := Tryd.prog) (t := 22) (n := (dig X).length + (dig Y).length) (by simp only [tys, Option.bind_some]) (by simp only [tys, Option.bind_some]) hbo (by omega)
  simp (maxSteps := 1000000) +contextual (disch := first | with_reducible assumption | exact ⟨rfl⟩ | exact ⟨rfl, rfl⟩ | (refine _root_.id ?_; kernel_rfl) | omega) only [evs, ext_mv, nth, put, putT, getT, binInt, binStr, binBool, aUn, outA, resA, mapO, resA1, oneOf, w1, w2, w3, bots, cond_true, cond_false, if_true, if_false, ite_true, ite_false, reduceIte, reduceCtorEq, implies_true, Nat.reduceAdd, Nat.reduceSub, AV.int, AV.bool, AV.str, Nat.reduceBEq, Nat.reduceEqDiff, Nat.reduceMul, Nat.reduceLT, Nat.reduceLeDiff, Int.reduceNeg, BEq.rfl, beq_self_eq_true, tabl, cellsOf, fldA, ldA, stA, entAt, partA, takeN, over, leafOk, Value.oneCell', idxA, nilA, cellsEq, fillA, elemsA, pure1, pure2, reps, chkA, tys, Tryd.results75, KX_draw, KX_drawQ, KX_tail, lastO_one, lastO_more, dropL_one, dropL_more, callP_eq, callM_true, digA, hw, hmk]
  refine loop1 (fun x st => st.T.length = 67 ∧ (x.1 ≤ (dig X).length) ∧ (Mul1 X Y x.1 x.2) ∧ getT st.T 0 = digA (dig X) ∧ getT st.T 1 = digA (dig Y) ∧ getT st.T 5 = .sref 0 0 0 ((dig X).length + (dig Y).length) 1 ∧ getT st.T 18 = digA (dig X) ∧ getT st.T 19 = .int (dig X).length ∧ getT st.T 20 = .int (x.1 : Nat) ∧ st.S = [⟨0, x.2.map numC⟩]) (fun x => (dig X).length - x.1) (fun x => digA (dig (X * Y))) (0, List.replicate ((dig X).length + (dig Y).length) 0) ?_ ?_
  case refine_2 => exact ⟨rfl, Nat.zero_le _, Mul1.start X Y, rfl, rfl, rfl, rfl, rfl, rfl, rfl⟩
  rintro ⟨i, out⟩ ⟨T, S', tk', n'⟩ ⟨hl, hi, hp, e0, e1, e5, e18, e19, e20, eS⟩ IH
  simp only at hi hp e0 e1 e5 e18 e19 e20 eS
  subst eS
  obtain ⟨g, hg, hT⟩ := tab_of hl
  rw [hg] at e0 e1 e5 e18 e19 e20
  subst hT
  clear hg hl
  have OUT := IH
  clear IH
  have hlen := hp.len
  by_cases hlt : i < (dig X).length
  · have d2 : decide ((i : Int) < ((dig X).length : Int)) = true := by simpa using hlt
    obtain ⟨d, hd⟩ := nth_some hlt
    have hd' := nth_dig hd
    have hdk := of_okD (okD_dig X) hd
    have hiw := wrap_add (i := i) (by omega)
    have hst := Mul2.start (d := d) hp
    simp (maxSteps := 1000000) +contextual (disch := first | with_reducible assumption | exact ⟨rfl⟩ | exact ⟨rfl, rfl⟩ | (refine _root_.id ?_; kernel_rfl) | omega) only [evs, ext_mv, nth, put, putT, getT, binInt, binStr, binBool, aUn, outA, resA, mapO, resA1, oneOf, w1, w2, w3, bots, cond_true, cond_false, if_true, if_false, ite_true, ite_false, reduceIte, reduceCtorEq, implies_true, Nat.reduceAdd, Nat.reduceSub, AV.int, AV.bool, AV.str, Nat.reduceBEq, Nat.reduceEqDiff, Nat.reduceMul, Nat.reduceLT, Nat.reduceLeDiff, Int.reduceNeg, BEq.rfl, beq_self_eq_true, tabl, cellsOf, fldA, ldA, stA, entAt, partA, takeN, over, leafOk, Value.oneCell', idxA, nilA, cellsEq, fillA, elemsA, pure1, pure2, reps, chkA, tys, Tryd.results75, KX_draw, KX_drawQ, KX_tail, lastO_one, lastO_more, dropL_one, dropL_more, callP_eq, callM_true, digA, e0, e1, e5, e18, e19, e20, d2, hd']
    refine loop1 (fun x st => st.T.length = 67 ∧ (x.1 ≤ (dig Y).length) ∧ (Mul2 X Y i x.1 (val out + 10000 ^ i * (d * Y)) d x.2.1 x.2.2) ∧ getT st.T 0 = digA (dig X) ∧ getT st.T 1 = digA (dig Y) ∧ getT st.T 5 = .sref 0 0 0 ((dig X).length + (dig Y).length) 1 ∧ getT st.T 6 = .int (i : Nat) ∧ getT st.T 7 = .int d ∧ getT st.T 8 = .int x.2.1 ∧ getT st.T 18 = digA (dig X) ∧ getT st.T 19 = .int (dig X).length ∧ getT st.T 20 = .int (i : Nat) ∧ getT st.T 25 = digA (dig Y) ∧ getT st.T 26 = .int (dig Y).length ∧ getT st.T 27 = .int (x.1 : Nat) ∧ st.S = [⟨0, x.2.2.map numC⟩]) (fun x => (dig Y).length - x.1) (fun x => digA (dig (X * Y))) (0, 0, out) ?_ ?_
    case refine_2 => exact ⟨rfl, Nat.zero_le _, hst, rfl, rfl, rfl, rfl, rfl, rfl, rfl, rfl, rfl, rfl, rfl, rfl, rfl⟩
    rintro ⟨m, c, o2⟩ ⟨T, S', tk', n'⟩ ⟨hl, hm, hq, e0, e1, e5, e6, e7, e8, e18, e19, e20, e25, e26, e27, eS⟩ IH
    simp only at hm hq e0 e1 e5 e6 e7 e8 e18 e19 e20 e25 e26 e27 eS
    subst eS
    obtain ⟨g, hg, hT⟩ := tab_of hl
    rw [hg] at e0 e1 e5 e6 e7 e8 e18 e19 e20 e25 e26 e27
    subst hT
    clear hg hl
    have hlen2 := hq.len
    have hc0 := hq.c0
    have hmw := wrap_add (i := m) (by omega)
    obtain ⟨x, hx⟩ := nth_some (show i + m < o2.length by omega)
    have hx' := nth_num hx
    have hin : i + m < (dig X).length + (dig Y).length := by omega
    have him : IntKind.i64.wrap ((i : Int) + (m : Int)) = ((i + m : Nat) : Int) := by rw [wrap_of (by unfold i64; omega)]; omega
    have hxk := of_okD hq.ok hx
    by_cases cm : m < (dig Y).length
    · have d3 : decide ((m : Int) < ((dig Y).length : Int)) = true := by simpa using cm
      obtain ⟨y, hy⟩ := nth_some cm
      have hy' := nth_dig hy
      have hyk := of_okD (okD_dig Y) hy
      obtain ⟨n, hn⟩ : ∃ n, n = c + x + d * y := ⟨_, rfl⟩
      obtain ⟨hq2, hn0, hn1, hn2⟩ := hq.step (n := n) (by omega) hdk hx (by rw [hn, hy]; rfl)
      have hp0 : 0 ≤ d * y := Int.mul_nonneg hdk.1 hyk.1
      have hw1 : IntKind.i64.wrap (d * y) = d * y := wrap_of (by unfold i64; omega)
      have hw2 : IntKind.i64.wrap (x + d * y) = x + d * y := wrap_of (by unfold i64; omega)
      have hw3 : IntKind.i64.wrap (x + d * y + c) = n := by rw [hn, wrap_of (by unfold i64; omega)]; omega
      have hwq : IntKind.i64.wrap (n.tdiv 10000) = n.tdiv 10000 := by rw [hn2, wrap_of (by unfold i64; omega)]
      have hz' : ¬ ((10000 : Int) = 0) := by omega
      have hov := over_num (v := n.tmod 10000) hx
      simp (maxSteps := 1000000) +contextual (disch := first | with_reducible assumption | exact ⟨rfl⟩ | exact ⟨rfl, rfl⟩ | (refine _root_.id ?_; kernel_rfl) | omega) only [evs, ext_mv, nth, put, putT, getT, binInt, binStr, binBool, aUn, outA, resA, mapO, resA1, oneOf, w1, w2, w3, bots, cond_true, cond_false, if_true, if_false, ite_true, ite_false, reduceIte, reduceCtorEq, implies_true, Nat.reduceAdd, Nat.reduceSub, AV.int, AV.bool, AV.str, Nat.reduceBEq, Nat.reduceEqDiff, Nat.reduceMul, Nat.reduceLT, Nat.reduceLeDiff, Int.reduceNeg, BEq.rfl, beq_self_eq_true, tabl, cellsOf, fldA, ldA, stA, entAt, partA, takeN, over, leafOk, Value.oneCell', idxA, nilA, cellsEq, fillA, elemsA, pure1, pure2, reps, chkA, tys, Tryd.results75, KX_draw, KX_drawQ, KX_tail, lastO_one, lastO_more, dropL_one, dropL_more, callP_eq, callM_true, digA, e0, e1, e5, e6, e7, e8, e18, e19, e20, e25, e26, e27, d3, hy', hmw, him, hin, hx', hw1, hw2, hw3, hwq, hz', hov, Nat.mul_one]
      exact IH (m + 1, n.tdiv 10000, o2.set (i + m) (n.tmod 10000)) _ (by first | omega | (simp only; omega)) ⟨rfl, by first | omega | (dsimp only; omega), hq2, (by first | rfl | simp only [getT, List.map_append, List.map_cons, List.map_nil, digC, digA]), (by first | rfl | simp only [getT, List.map_append, List.map_cons, List.map_nil, digC, digA]), (by first | rfl | simp only [getT, List.map_append, List.map_cons, List.map_nil, digC, digA]), (by first | rfl | simp only [getT, List.map_append, List.map_cons, List.map_nil, digC, digA]), (by first | rfl | simp only [getT, List.map_append, List.map_cons, List.map_nil, digC, digA]), (by first | rfl | simp only [getT, List.map_append, List.map_cons, List.map_nil, digC, digA]), (by first | rfl | simp only [getT, List.map_append, List.map_cons, List.map_nil, digC, digA]), (by first | rfl | simp only [getT, List.map_append, List.map_cons, List.map_nil, digC, digA]), (by first | rfl | simp only [getT, List.map_append, List.map_cons, List.map_nil, digC, digA]), (by first | rfl | simp only [getT, List.map_append, List.map_cons, List.map_nil, digC, digA]), (by first | rfl | simp only [getT, List.map_append, List.map_cons, List.map_nil, digC, digA]), (by first | rfl | simp only [getT, List.map_append, List.map_cons, List.map_nil, digC, digA]), (by first | rfl | simp only [getT, List.map_append, List.map_cons, List.map_nil, digC, digA])⟩
    · have d3 : decide ((m : Int) < ((dig Y).length : Int)) = false := by simpa using cm
      have hme : m = (dig Y).length := by omega
      subst hme
      obtain ⟨-, hnx⟩ := hq.next hp hd hx
      have hw4 : IntKind.i64.wrap (x + c) = x + c := wrap_of (by unfold i64; omega)
      have hov := over_num (v := x + c) hx
      simp (maxSteps := 1000000) +contextual (disch := first | with_reducible assumption | exact ⟨rfl⟩ | exact ⟨rfl, rfl⟩ | (refine _root_.id ?_; kernel_rfl) | omega) only [evs, ext_mv, nth, put, putT, getT, binInt, binStr, binBool, aUn, outA, resA, mapO, resA1, oneOf, w1, w2, w3, bots, cond_true, cond_false, if_true, if_false, ite_true, ite_false, reduceIte, reduceCtorEq, implies_true, Nat.reduceAdd, Nat.reduceSub, AV.int, AV.bool, AV.str, Nat.reduceBEq, Nat.reduceEqDiff, Nat.reduceMul, Nat.reduceLT, Nat.reduceLeDiff, Int.reduceNeg, BEq.rfl, beq_self_eq_true, tabl, cellsOf, fldA, ldA, stA, entAt, partA, takeN, over, leafOk, Value.oneCell', idxA, nilA, cellsEq, fillA, elemsA, pure1, pure2, reps, chkA, tys, Tryd.results75, KX_draw, KX_drawQ, KX_tail, lastO_one, lastO_more, dropL_one, dropL_more, callP_eq, callM_true, digA, e0, e1, e5, e6, e7, e8, e18, e19, e20, e25, e26, e27, d3, hiw, him, hin, hx', hw4, hov, Nat.mul_one]
      exact OUT (i + 1, o2.set (i + (dig Y).length) (x + c)) _ (by first | omega | (simp only; omega)) ⟨rfl, by first | omega | (dsimp only; omega), hnx, (by first | rfl | simp only [getT, List.map_append, List.map_cons, List.map_nil, digC, digA]), (by first | rfl | simp only [getT, List.map_append, List.map_cons, List.map_nil, digC, digA]), (by first | rfl | simp only [getT, List.map_append, List.map_cons, List.map_nil, digC, digA]), (by first | rfl | simp only [getT, List.map_append, List.map_cons, List.map_nil, digC, digA]), (by first | rfl | simp only [getT, List.map_append, List.map_cons, List.map_nil, digC, digA]), (by first | rfl | simp only [getT, List.map_append, List.map_cons, List.map_nil, digC, digA]), (by first | rfl | simp only [getT, List.map_append, List.map_cons, List.map_nil, digC, digA])⟩
  · have d2 : decide ((i : Int) < ((dig X).length : Int)) = false := by simpa using hlt
    have he : i = (dig X).length := by omega
    subst he
    have hdone := hp.done
    have hT := rat_trim_own [⟨0, out.map numC⟩] tk' n' out 0 0 (by omega) rfl
    rw [hlen] at hT
    rw [hdone] at hT
    simp (maxSteps := 1000000) +contextual (disch := first | with_reducible assumption | exact ⟨rfl⟩ | exact ⟨rfl, rfl⟩ | (refine _root_.id ?_; kernel_rfl) | omega) only [evs, ext_mv, nth, put, putT, getT, binInt, binStr, binBool, aUn, outA, resA, mapO, resA1, oneOf, w1, w2, w3, bots, cond_true, cond_false, if_true, if_false, ite_true, ite_false, reduceIte, reduceCtorEq, implies_true, Nat.reduceAdd, Nat.reduceSub, AV.int, AV.bool, AV.str, Nat.reduceBEq, Nat.reduceEqDiff, Nat.reduceMul, Nat.reduceLT, Nat.reduceLeDiff, Int.reduceNeg, BEq.rfl, beq_self_eq_true, tabl, cellsOf, fldA, ldA, stA, entAt, partA, takeN, over, leafOk, Value.oneCell', idxA, nilA, cellsEq, fillA, elemsA, pure1, pure2, reps, chkA, tys, Tryd.results75, KX_draw, KX_drawQ, KX_tail, lastO_one, lastO_more, dropL_one, dropL_more, callP_eq, callM_true, digA, e0, e1, e5, e18, e19, e20, d2, hT]
    have hrw : rowsFz (rowsAt 1 (dig (X * Y)).length (out.map numC)) = .frz ((dig (X * Y)).map digC) .unk := by
      rw [← hdone, rowsAt_num (trim_len out), rowsFz_num, ← trim_is_take]
    rw [hrw]
end
end Go.Proofs.YtgadegdhfjnoaaaDoor
