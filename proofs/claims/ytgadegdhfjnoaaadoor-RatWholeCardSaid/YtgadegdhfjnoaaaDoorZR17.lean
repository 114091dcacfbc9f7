/-
  Texts laid together: R10, R11, R12, R13, S1, S2, S3, S4, S5, S6.
-/
import Derived.Test.YtgadegdhfjnoaaaDoorZR16
/-
  What the functions of the fractions compute: products, quotients.
-/

namespace Go.Proofs.YtgadegdhfjnoaaaDoor
open Go
theorem len_mulZ {x y : Int} {a b : Nat} (hx : (dig x.natAbs).length ≤ a) (hy : (dig y.natAbs).length ≤ b) : (dig (x * y).natAbs).length ≤ a + b := by
  rw [dig_len] at hx hy ⊢
  rw [Int.natAbs_mul, Nat.pow_add]
  exact Nat.mul_lt_mul_of_lt_of_le hx (by omega) (Nat.pow_pos (by decide))
theorem len_addZ {x y : Int} {a : Nat} (hx : (dig x.natAbs).length ≤ a) (hy : (dig y.natAbs).length ≤ a) : (dig (x + y).natAbs).length ≤ a + 1 := by
  rw [dig_len] at hx hy ⊢
  rw [Nat.pow_succ]
  omega
theorem len_negZ {y : Int} {a : Nat} (hy : (dig y.natAbs).length ≤ a) : (dig (-y).natAbs).length ≤ a := by
  rw [show (-y).natAbs = y.natAbs by omega]; exact hy
theorem fits_small {n d : Int} (hn : n.natAbs ≤ 100000000000000000) (hd : d.natAbs ≤ 100000000000000000) (hd0 : d ≠ 0) : fitsQ n d = true := by
  have h1 : (dig (lowN n d).natAbs).length ≤ 5 := dig_len.2 (by
    have := Nat.div_le_self n.natAbs (n.natAbs.gcd d.natAbs)
    rw [← low_abs] at this
    omega)
  have h2 : (dig (lowD n d).natAbs).length ≤ 5 := dig_len.2 (by
    have := Nat.div_le_self d.natAbs (n.natAbs.gcd d.natAbs)
    have e : (lowD n d).natAbs = d.natAbs / n.natAbs.gcd d.natAbs := rfl
    rw [e]
    omega)
  simp only [fitsQ, okZ]
  simp [hd0]
  omega
theorem res_small {n d : Int} (hn : n.natAbs ≤ 100000000000000000) (hd : d.natAbs ≤ 100000000000000000) (hd0 : d ≠ 0) : resQ n d = .tup [qA (lowN n d) (lowD n d), .bool true] := by
  have h := fits_small hn hd hd0
  unfold resQ resN resD
  rw [h]; rfl
theorem res_zero (n : Int) : resQ n 0 = .tup [qA 0 0, .bool false] := rfl
theorem mul_small {a b : Int} (ha : smB a = true) (hb : smB b = true) : (a * b).natAbs < 10000000000000000 := by
  have h1 := smB_lt ha
  have h2 := smB_lt hb
  rw [Int.natAbs_mul]
  have := Nat.mul_lt_mul_of_lt_of_le h1 (Nat.le_of_lt h2) (by omega : 0 < 100000000)
  omega
theorem sm_of {z : Int} (h : smB z = true) : smN z = z := by simp [smN, h]
/-- what is computed of a number and another one -/
def ofQ (p : Bool) (l : List Int) (q : Bool) (r : List Int) : AV := resQ (V p l) (if validF p l = true then V q r else 0)
section
variable (S : List Ent) (tk : List Nat) (k : Nat)
theorem rat_Of (p : Bool) (l : List Int) (q : Bool) (r : List Int) (hl : l.length ≤ 1000000) (hr : r.length ≤ 1000000) : cL Tryd.prog 12 [bigA p l, bigA q r] S tk k = some (ofQ p l q r, S, tk, k) := by
  have hV1 := fun S tk k => told (E := E1) (big_Valid S tk k p l .unk hl)
  have hV2 := fun S tk k => told (E := E1) (big_Valid S tk k q r .unk hr)
  refine call_pure Tryd.func12 rfl rfl (by decide +kernel) (by decide +kernel) Tryd.ntmps12 rfl rfl _ _ _ (rfl) ?_; rw [RK_KX]
  have hz : dig (Int.natAbs 0) = [] := rfl
  have hnz : decide ((0 : Int) < 0) = false := by decide
  unfold ofQ
  cases h1 : validF p l with
  | false =>
    rw [h1] at hV1
    rw [if_neg (by simp), res_zero]
    simp (maxSteps := 1000000) +contextual (disch := first | with_reducible assumption | exact ⟨rfl⟩ | exact ⟨rfl, rfl⟩ | (refine _root_.id ?_; kernel_rfl) | omega) only [evs, ext_mv, nth, put, putT, getT, binInt, binStr, binBool, aUn, outA, resA, mapO, resA1, oneOf, w1, w2, w3, bots, cond_true, cond_false, if_true, if_false, ite_true, ite_false, reduceIte, reduceCtorEq, implies_true, Nat.reduceAdd, Nat.reduceSub, AV.int, AV.bool, AV.str, Nat.reduceBEq, Nat.reduceEqDiff, Nat.reduceMul, Nat.reduceLT, Nat.reduceLeDiff, Int.reduceNeg, BEq.rfl, beq_self_eq_true, tabl, cellsOf, fldA, ldA, stA, entAt, partA, takeN, over, leafOk, Value.oneCell', idxA, nilA, cellsEq, fillA, elemsA, pure1, pure2, reps, chkA, tys, Tryd.results12, KX_draw, KX_drawQ, KX_tail, lastO_one, lastO_more, dropL_one, dropL_more, callP_eq, callM_true, ext_mv1, qA, ratA, bigA, digA, hz, hnz, hV1]
  | true =>
  rw [h1] at hV1
  rw [if_pos rfl]
  cases h2 : validF q r with
  | false =>
    rw [h2] at hV2
    rw [V_bad h2, res_zero]
    simp (maxSteps := 1000000) +contextual (disch := first | with_reducible assumption | exact ⟨rfl⟩ | exact ⟨rfl, rfl⟩ | (refine _root_.id ?_; kernel_rfl) | omega) only [evs, ext_mv, nth, put, putT, getT, binInt, binStr, binBool, aUn, outA, resA, mapO, resA1, oneOf, w1, w2, w3, bots, cond_true, cond_false, if_true, if_false, ite_true, ite_false, reduceIte, reduceCtorEq, implies_true, Nat.reduceAdd, Nat.reduceSub, AV.int, AV.bool, AV.str, Nat.reduceBEq, Nat.reduceEqDiff, Nat.reduceMul, Nat.reduceLT, Nat.reduceLeDiff, Int.reduceNeg, BEq.rfl, beq_self_eq_true, tabl, cellsOf, fldA, ldA, stA, entAt, partA, takeN, over, leafOk, Value.oneCell', idxA, nilA, cellsEq, fillA, elemsA, pure1, pure2, reps, chkA, tys, Tryd.results12, KX_draw, KX_drawQ, KX_tail, lastO_one, lastO_more, dropL_one, dropL_more, callP_eq, callM_true, ext_mv1, qA, ratA, bigA, digA, hz, hnz, hV1, hV2]
  | true =>
  rw [h2] at hV2
  obtain ⟨hp, hpl⟩ := valid_sign h1
  obtain ⟨hq, hqr⟩ := valid_sign h2
  by_cases hr0 : r = []
  · subst hr0
    have e0 : V q [] = 0 := by have := dig_nil.1 hqr.symm; omega
    rw [e0, res_zero]
    simp only [List.map_nil] at hV2
    have iz : (((0 : Nat) : Int) == 0) = true := rfl
    simp (maxSteps := 1000000) +contextual (disch := first | with_reducible assumption | exact ⟨rfl⟩ | exact ⟨rfl, rfl⟩ | (refine _root_.id ?_; kernel_rfl) | omega) only [evs, ext_mv, nth, put, putT, getT, binInt, binStr, binBool, aUn, outA, resA, mapO, resA1, oneOf, w1, w2, w3, bots, cond_true, cond_false, if_true, if_false, ite_true, ite_false, reduceIte, reduceCtorEq, implies_true, Nat.reduceAdd, Nat.reduceSub, AV.int, AV.bool, AV.str, Nat.reduceBEq, Nat.reduceEqDiff, Nat.reduceMul, Nat.reduceLT, Nat.reduceLeDiff, Int.reduceNeg, BEq.rfl, beq_self_eq_true, tabl, cellsOf, fldA, ldA, stA, entAt, partA, takeN, over, leafOk, Value.oneCell', idxA, nilA, cellsEq, fillA, elemsA, pure1, pure2, reps, chkA, tys, Tryd.results12, KX_draw, KX_drawQ, KX_tail, lastO_one, lastO_more, dropL_one, dropL_more, callP_eq, callM_true, ext_mv1, qA, ratA, bigA, digA, hz, hnz, iz, hV1, hV2]
  · have iz : (((r.length : Nat) : Int) == 0) = false := by
      have := List.length_pos_iff.2 hr0
      simp; omega
    have hd0 : V q r ≠ 0 := fun e => hr0 (by rw [hqr, e]; rfl)
    have hR := fun S tk k => rat_result S tk k (V p l) (V q r) (by have := V_len p l; omega) (by have := V_len q r; omega) hd0
    have hO1 := fun S tk k => rat_of S tk k (V p l)
    have hO2 := fun S tk k => rat_of S tk k (V q r)
    simp only [zA, bigA, digA, ← hp, ← hpl, ← hq, ← hqr] at hR hO1 hO2
    simp only [resQ, qA, ratA, digA] at hR ⊢
    simp (maxSteps := 1000000) +contextual (disch := first | with_reducible assumption | exact ⟨rfl⟩ | exact ⟨rfl, rfl⟩ | (refine _root_.id ?_; kernel_rfl) | omega) only [evs, ext_mv, nth, put, putT, getT, binInt, binStr, binBool, aUn, outA, resA, mapO, resA1, oneOf, w1, w2, w3, bots, cond_true, cond_false, if_true, if_false, ite_true, ite_false, reduceIte, reduceCtorEq, implies_true, Nat.reduceAdd, Nat.reduceSub, AV.int, AV.bool, AV.str, Nat.reduceBEq, Nat.reduceEqDiff, Nat.reduceMul, Nat.reduceLT, Nat.reduceLeDiff, Int.reduceNeg, BEq.rfl, beq_self_eq_true, tabl, cellsOf, fldA, ldA, stA, entAt, partA, takeN, over, leafOk, Value.oneCell', idxA, nilA, cellsEq, fillA, elemsA, pure1, pure2, reps, chkA, tys, Tryd.results12, KX_draw, KX_drawQ, KX_tail, lastO_one, lastO_more, dropL_one, dropL_more, callP_eq, callM_true, ext_mv1, qA, ratA, bigA, digA, iz, hV1, hV2, hO1, hO2, hR]
theorem rat_Mul (p1 : Bool) (l1 : List Int) (q1 : Bool) (r1 : List Int) (p2 : Bool) (l2 : List Int) (q2 : Bool) (r2 : List Int) (h1 : l1.length ≤ 1000000) (h2 : r1.length ≤ 1000000) (h3 : l2.length ≤ 1000000) (h4 : r2.length ≤ 1000000) :
    cL Tryd.prog 33 [ratA p1 l1 q1 r1, ratA p2 l2 q2 r2] S tk k = some (resQ (nQ p1 l1 q1 r1 * nQ p2 l2 q2 r2) (dQ p1 l1 q1 r1 * dQ p2 l2 q2 r2), S, tk, k) := by
  have hA := fun S tk k => rat_right S tk k p1 l1 q1 r1 h1 h2
  have hB := fun S tk k => rat_right S tk k p2 l2 q2 r2 h3 h4
  have gA := good_of p1 l1 q1 r1
  have gB := good_of p2 l2 q2 r2
  generalize nQ p1 l1 q1 r1 = a at *
  generalize dQ p1 l1 q1 r1 = b at *
  generalize nQ p2 l2 q2 r2 = c at *
  generalize dQ p2 l2 q2 r2 = d at *
  have hbd : b * d ≠ 0 := Int.mul_ne_zero (by have := gA.pos; omega) (by have := gB.pos; omega)
  refine call_pure Tryd.func33 rfl rfl (by decide +kernel) (by decide +kernel) Tryd.ntmps33 rfl rfl _ _ _ (rfl) ?_; rw [RK_KX]
  have hK := fun S tk k => rat_quick S tk k a b c d
  cases hs : smB a && smB b && smB c && smB d with
  | true =>
    rw [hs] at hK
    simp only [Bool.and_eq_true] at hs
    obtain ⟨⟨⟨s1, s2⟩, s3⟩, s4⟩ := hs
    rw [sm_of s1, sm_of s2, sm_of s3, sm_of s4] at hK
    have b1 := mul_small s1 s3
    have b2 := mul_small s2 s4
    have hw1 : IntKind.i64.wrap (a * c) = a * c := wrap_of (by unfold i64; omega)
    have hw2 : IntKind.i64.wrap (b * d) = b * d := wrap_of (by unfold i64; omega)
    have hF := fun S tk k => rat_fraction S tk k (a * c) (b * d) (by omega) (by omega) hbd
    rw [res_small (by omega) (by omega) hbd]
    simp only [qA, ratA, digA] at hA hB hK hF ⊢
    simp (maxSteps := 1000000) +contextual (disch := first | with_reducible assumption | exact ⟨rfl⟩ | exact ⟨rfl, rfl⟩ | (refine _root_.id ?_; kernel_rfl) | omega) only [evs, ext_mv, nth, put, putT, getT, binInt, binStr, binBool, aUn, outA, resA, mapO, resA1, oneOf, w1, w2, w3, bots, cond_true, cond_false, if_true, if_false, ite_true, ite_false, reduceIte, reduceCtorEq, implies_true, Nat.reduceAdd, Nat.reduceSub, AV.int, AV.bool, AV.str, Nat.reduceBEq, Nat.reduceEqDiff, Nat.reduceMul, Nat.reduceLT, Nat.reduceLeDiff, Int.reduceNeg, BEq.rfl, beq_self_eq_true, tabl, cellsOf, fldA, ldA, stA, entAt, partA, takeN, over, leafOk, Value.oneCell', idxA, nilA, cellsEq, fillA, elemsA, pure1, pure2, reps, chkA, tys, Tryd.results33, KX_draw, KX_drawQ, KX_tail, lastO_one, lastO_more, dropL_one, dropL_more, callP_eq, callM_true, ext_mv1, ratA, digA, hA, hB, hK, hF, hw1, hw2]
  | false =>
    rw [hs] at hK
    have hO1 := fun S tk k => rat_of S tk k a
    have hO2 := fun S tk k => rat_of S tk k b
    have hO3 := fun S tk k => rat_of S tk k c
    have hO4 := fun S tk k => rat_of S tk k d
    have l1 := gA.ln
    have l2 := gA.ld
    have l3 := gB.ln
    have l4 := gB.ld
    have hT1 := fun S tk k => whole_times S tk k a c (by omega) (by omega)
    have hT2 := fun S tk k => whole_times S tk k b d (by omega) (by omega)
    have m1 := len_mulZ l1 l3
    have m2 := len_mulZ l2 l4
    have hR := fun S tk k => rat_result S tk k (a * c) (b * d) (by omega) (by omega) hbd
    simp only [zA, bigA, digA] at hO1 hO2 hO3 hO4 hT1 hT2 hR
    simp only [resQ, qA, ratA, digA] at hA hB hK hR ⊢
    simp (maxSteps := 1000000) +contextual (disch := first | with_reducible assumption | exact ⟨rfl⟩ | exact ⟨rfl, rfl⟩ | (refine _root_.id ?_; kernel_rfl) | omega) only [evs, ext_mv, nth, put, putT, getT, binInt, binStr, binBool, aUn, outA, resA, mapO, resA1, oneOf, w1, w2, w3, bots, cond_true, cond_false, if_true, if_false, ite_true, ite_false, reduceIte, reduceCtorEq, implies_true, Nat.reduceAdd, Nat.reduceSub, AV.int, AV.bool, AV.str, Nat.reduceBEq, Nat.reduceEqDiff, Nat.reduceMul, Nat.reduceLT, Nat.reduceLeDiff, Int.reduceNeg, BEq.rfl, beq_self_eq_true, tabl, cellsOf, fldA, ldA, stA, entAt, partA, takeN, over, leafOk, Value.oneCell', idxA, nilA, cellsEq, fillA, elemsA, pure1, pure2, reps, chkA, tys, Tryd.results33, KX_draw, KX_drawQ, KX_tail, lastO_one, lastO_more, dropL_one, dropL_more, callP_eq, callM_true, ext_mv1, ratA, digA, hA, hB, hK, hO1, hO2, hO3, hO4, hT1, hT2, hR]
end
end Go.Proofs.YtgadegdhfjnoaaaDoor
/-
  What the functions of the fractions compute: quotients, the order.
-/

namespace Go.Proofs.YtgadegdhfjnoaaaDoor
open Go
theorem cmp_zero_iff {x y : Int} (hs : decide (x < 0) = decide (y < 0)) : (cmpN x.natAbs y.natAbs == 0) = decide (x = y) := by
  have h1 : (x < 0) ↔ (y < 0) := by simpa using hs
  rw [Bool.eq_iff_iff]
  simp only [beq_iff_eq, decide_eq_true_eq]
  unfold cmpN
  split
  · omega
  · split <;> omega
theorem cmpZ_lt {x y : Int} (h : x < y) : cmpZ x y = -1 := by simp [cmpZ, h]
theorem cmpZ_gt {x y : Int} (h : y < x) : cmpZ x y = 1 := by unfold cmpZ; rw [if_neg (by omega), if_pos h]
theorem cmpZ_eq {x y : Int} (h : x = y) : cmpZ x y = 0 := by unfold cmpZ; rw [if_neg (by omega), if_neg (by omega)]
section
variable (S : List Ent) (tk : List Nat) (k : Nat)
theorem rat_Div (p1 : Bool) (l1 : List Int) (q1 : Bool) (r1 : List Int) (p2 : Bool) (l2 : List Int) (q2 : Bool) (r2 : List Int) (h1 : l1.length ≤ 1000000) (h2 : r1.length ≤ 1000000) (h3 : l2.length ≤ 1000000) (h4 : r2.length ≤ 1000000) :
    cL Tryd.prog 35 [ratA p1 l1 q1 r1, ratA p2 l2 q2 r2] S tk k = some (resQ (nQ p1 l1 q1 r1 * dQ p2 l2 q2 r2) (dQ p1 l1 q1 r1 * nQ p2 l2 q2 r2), S, tk, k) := by
  have hA := fun S tk k => rat_right S tk k p1 l1 q1 r1 h1 h2
  have hB := fun S tk k => rat_right S tk k p2 l2 q2 r2 h3 h4
  have gA := good_of p1 l1 q1 r1
  have gB := good_of p2 l2 q2 r2
  generalize nQ p1 l1 q1 r1 = a at *
  generalize dQ p1 l1 q1 r1 = b at *
  generalize nQ p2 l2 q2 r2 = c at *
  generalize dQ p2 l2 q2 r2 = d at *
  refine call_pure Tryd.func35 rfl rfl (by decide +kernel) (by decide +kernel) Tryd.ntmps35 rfl rfl _ _ _ (rfl) ?_; rw [RK_KX]
  have hz : dig (Int.natAbs 0) = [] := rfl
  have hnz : decide ((0 : Int) < 0) = false := by decide
  by_cases hc : c = 0
  · subst hc
    have iz : ((((dig (Int.natAbs 0)).length : Nat) : Int) == 0) = true := rfl
    have iz2 : (((0 : Nat) : Int) == 0) = true := rfl
    rw [Int.mul_zero, res_zero]
    simp only [qA, ratA, digA, hz, List.map_nil] at hA hB ⊢
    simp (maxSteps := 1000000) +contextual (disch := first | with_reducible assumption | exact ⟨rfl⟩ | exact ⟨rfl, rfl⟩ | (refine _root_.id ?_; kernel_rfl) | omega) only [evs, ext_mv, nth, put, putT, getT, binInt, binStr, binBool, aUn, outA, resA, mapO, resA1, oneOf, w1, w2, w3, bots, cond_true, cond_false, if_true, if_false, ite_true, ite_false, reduceIte, reduceCtorEq, implies_true, Nat.reduceAdd, Nat.reduceSub, AV.int, AV.bool, AV.str, Nat.reduceBEq, Nat.reduceEqDiff, Nat.reduceMul, Nat.reduceLT, Nat.reduceLeDiff, Int.reduceNeg, BEq.rfl, beq_self_eq_true, tabl, cellsOf, fldA, ldA, stA, entAt, partA, takeN, over, leafOk, Value.oneCell', idxA, nilA, cellsEq, fillA, elemsA, pure1, pure2, reps, chkA, tys, Tryd.results35, KX_draw, KX_drawQ, KX_tail, lastO_one, lastO_more, dropL_one, dropL_more, callP_eq, callM_true, ext_mv1, ratA, digA, hz, hnz, hA, hB, iz, iz2]
  have iz : ((((dig c.natAbs).length : Nat) : Int) == 0) = false := by
    have : (dig c.natAbs) ≠ [] := fun e => hc (by have := dig_nil.1 e; omega)
    have := List.length_pos_iff.2 this
    simp; omega
  have hbd : b * c ≠ 0 := Int.mul_ne_zero (by have := gA.pos; omega) hc
  have hK := fun S tk k => rat_quick S tk k a b c d
  cases hs : smB a && smB b && smB c && smB d with
  | true =>
    rw [hs] at hK
    simp only [Bool.and_eq_true] at hs
    obtain ⟨⟨⟨s1, s2⟩, s3⟩, s4⟩ := hs
    rw [sm_of s1, sm_of s2, sm_of s3, sm_of s4] at hK
    have b1 := mul_small s1 s4
    have b2 := mul_small s2 s3
    have hw1 : IntKind.i64.wrap (a * d) = a * d := wrap_of (by unfold i64; omega)
    have hw2 : IntKind.i64.wrap (b * c) = b * c := wrap_of (by unfold i64; omega)
    have hF := fun S tk k => rat_fraction S tk k (a * d) (b * c) (by omega) (by omega) hbd
    rw [res_small (by omega) (by omega) hbd]
    simp only [qA, ratA, digA] at hA hB hK hF ⊢
    simp (maxSteps := 1000000) +contextual (disch := first | with_reducible assumption | exact ⟨rfl⟩ | exact ⟨rfl, rfl⟩ | (refine _root_.id ?_; kernel_rfl) | omega) only [evs, ext_mv, nth, put, putT, getT, binInt, binStr, binBool, aUn, outA, resA, mapO, resA1, oneOf, w1, w2, w3, bots, cond_true, cond_false, if_true, if_false, ite_true, ite_false, reduceIte, reduceCtorEq, implies_true, Nat.reduceAdd, Nat.reduceSub, AV.int, AV.bool, AV.str, Nat.reduceBEq, Nat.reduceEqDiff, Nat.reduceMul, Nat.reduceLT, Nat.reduceLeDiff, Int.reduceNeg, BEq.rfl, beq_self_eq_true, tabl, cellsOf, fldA, ldA, stA, entAt, partA, takeN, over, leafOk, Value.oneCell', idxA, nilA, cellsEq, fillA, elemsA, pure1, pure2, reps, chkA, tys, Tryd.results35, KX_draw, KX_drawQ, KX_tail, lastO_one, lastO_more, dropL_one, dropL_more, callP_eq, callM_true, ext_mv1, ratA, digA, hA, hB, hK, hF, hw1, hw2, iz]
  | false =>
    rw [hs] at hK
    have hO1 := fun S tk k => rat_of S tk k a
    have hO2 := fun S tk k => rat_of S tk k b
    have hO3 := fun S tk k => rat_of S tk k c
    have hO4 := fun S tk k => rat_of S tk k d
    have l1 := gA.ln
    have l2 := gA.ld
    have l3 := gB.ln
    have l4 := gB.ld
    have hT1 := fun S tk k => whole_times S tk k a d (by omega) (by omega)
    have hT2 := fun S tk k => whole_times S tk k b c (by omega) (by omega)
    have m1 := len_mulZ l1 l4
    have m2 := len_mulZ l2 l3
    have hR := fun S tk k => rat_result S tk k (a * d) (b * c) (by omega) (by omega) hbd
    simp only [zA, bigA, digA] at hO1 hO2 hO3 hO4 hT1 hT2 hR
    simp only [resQ, qA, ratA, digA] at hA hB hK hR ⊢
    simp (maxSteps := 1000000) +contextual (disch := first | with_reducible assumption | exact ⟨rfl⟩ | exact ⟨rfl, rfl⟩ | (refine _root_.id ?_; kernel_rfl) | omega) only [evs, ext_mv, nth, put, putT, getT, binInt, binStr, binBool, aUn, outA, resA, mapO, resA1, oneOf, w1, w2, w3, bots, cond_true, cond_false, if_true, if_false, ite_true, ite_false, reduceIte, reduceCtorEq, implies_true, Nat.reduceAdd, Nat.reduceSub, AV.int, AV.bool, AV.str, Nat.reduceBEq, Nat.reduceEqDiff, Nat.reduceMul, Nat.reduceLT, Nat.reduceLeDiff, Int.reduceNeg, BEq.rfl, beq_self_eq_true, tabl, cellsOf, fldA, ldA, stA, entAt, partA, takeN, over, leafOk, Value.oneCell', idxA, nilA, cellsEq, fillA, elemsA, pure1, pure2, reps, chkA, tys, Tryd.results35, KX_draw, KX_drawQ, KX_tail, lastO_one, lastO_more, dropL_one, dropL_more, callP_eq, callM_true, ext_mv1, ratA, digA, hA, hB, hK, hO1, hO2, hO3, hO4, hT1, hT2, hR, iz]
theorem rat_same (x y : Int) (hx : (dig x.natAbs).length ≤ 90000) (hy : (dig y.natAbs).length ≤ 90000) : cL Tryd.prog 55 [zA x, zA y] S tk k = some (.bool (decide (x = y)), S, tk, k) := by
  refine call_pure Tryd.func55 rfl rfl (by decide +kernel) (by decide +kernel) Tryd.ntmps55 rfl rfl _ _ _ (rfl) ?_; rw [RK_KX]
  have hO := fun S tk k => told (E := E1) (rat_order S tk k x.natAbs y.natAbs (by omega) (by omega))
  simp only [digA] at hO
  by_cases hs : decide (x < 0) = decide (y < 0)
  · have d1 : (decide (x < 0) == decide (y < 0)) = true := by simpa using hs
    by_cases hl : (dig x.natAbs).length = (dig y.natAbs).length
    · have d2 : (((dig x.natAbs).length : Int) == ((dig y.natAbs).length : Int)) = true := by rw [beq_iff_eq]; omega
      have hz := cmp_zero_iff hs
      simp (maxSteps := 1000000) +contextual (disch := first | with_reducible assumption | exact ⟨rfl⟩ | exact ⟨rfl, rfl⟩ | (refine _root_.id ?_; kernel_rfl) | omega) only [evs, ext_mv, nth, put, putT, getT, binInt, binStr, binBool, aUn, outA, resA, mapO, resA1, oneOf, w1, w2, w3, bots, cond_true, cond_false, if_true, if_false, ite_true, ite_false, reduceIte, reduceCtorEq, implies_true, Nat.reduceAdd, Nat.reduceSub, AV.int, AV.bool, AV.str, Nat.reduceBEq, Nat.reduceEqDiff, Nat.reduceMul, Nat.reduceLT, Nat.reduceLeDiff, Int.reduceNeg, BEq.rfl, beq_self_eq_true, tabl, cellsOf, fldA, ldA, stA, entAt, partA, takeN, over, leafOk, Value.oneCell', idxA, nilA, cellsEq, fillA, elemsA, pure1, pure2, reps, chkA, tys, Tryd.results55, KX_draw, KX_drawQ, KX_tail, lastO_one, lastO_more, dropL_one, dropL_more, callP_eq, callM_true, ext_mv1, zA, bigA, digA, d1, d2, hO, hz]
    · have d2 : (((dig x.natAbs).length : Int) == ((dig y.natAbs).length : Int)) = false := by
        rw [Bool.eq_false_iff]; intro h; exact hl (by have := beq_iff_eq.1 h; omega)
      have hne : decide (x = y) = false := by
        have : x ≠ y := fun e => hl (by rw [e])
        simp [this]
      rw [hne]
      simp (maxSteps := 1000000) +contextual (disch := first | with_reducible assumption | exact ⟨rfl⟩ | exact ⟨rfl, rfl⟩ | (refine _root_.id ?_; kernel_rfl) | omega) only [evs, ext_mv, nth, put, putT, getT, binInt, binStr, binBool, aUn, outA, resA, mapO, resA1, oneOf, w1, w2, w3, bots, cond_true, cond_false, if_true, if_false, ite_true, ite_false, reduceIte, reduceCtorEq, implies_true, Nat.reduceAdd, Nat.reduceSub, AV.int, AV.bool, AV.str, Nat.reduceBEq, Nat.reduceEqDiff, Nat.reduceMul, Nat.reduceLT, Nat.reduceLeDiff, Int.reduceNeg, BEq.rfl, beq_self_eq_true, tabl, cellsOf, fldA, ldA, stA, entAt, partA, takeN, over, leafOk, Value.oneCell', idxA, nilA, cellsEq, fillA, elemsA, pure1, pure2, reps, chkA, tys, Tryd.results55, KX_draw, KX_drawQ, KX_tail, lastO_one, lastO_more, dropL_one, dropL_more, callP_eq, callM_true, ext_mv1, zA, bigA, digA, d1, d2]
  · have d1 : (decide (x < 0) == decide (y < 0)) = false := by simpa using hs
    have hne : decide (x = y) = false := by
      have : x ≠ y := fun e => hs (by rw [e])
      simp [this]
    rw [hne]
    simp (maxSteps := 1000000) +contextual (disch := first | with_reducible assumption | exact ⟨rfl⟩ | exact ⟨rfl, rfl⟩ | (refine _root_.id ?_; kernel_rfl) | omega) only [evs, ext_mv, nth, put, putT, getT, binInt, binStr, binBool, aUn, outA, resA, mapO, resA1, oneOf, w1, w2, w3, bots, cond_true, cond_false, if_true, if_false, ite_true, ite_false, reduceIte, reduceCtorEq, implies_true, Nat.reduceAdd, Nat.reduceSub, AV.int, AV.bool, AV.str, Nat.reduceBEq, Nat.reduceEqDiff, Nat.reduceMul, Nat.reduceLT, Nat.reduceLeDiff, Int.reduceNeg, BEq.rfl, beq_self_eq_true, tabl, cellsOf, fldA, ldA, stA, entAt, partA, takeN, over, leafOk, Value.oneCell', idxA, nilA, cellsEq, fillA, elemsA, pure1, pure2, reps, chkA, tys, Tryd.results55, KX_draw, KX_drawQ, KX_tail, lastO_one, lastO_more, dropL_one, dropL_more, callP_eq, callM_true, ext_mv1, zA, bigA, digA, d1]
theorem rat_Cmp (p1 : Bool) (l1 : List Int) (q1 : Bool) (r1 : List Int) (p2 : Bool) (l2 : List Int) (q2 : Bool) (r2 : List Int) (h1 : l1.length ≤ 1000000) (h2 : r1.length ≤ 1000000) (h3 : l2.length ≤ 1000000) (h4 : r2.length ≤ 1000000) :
    cL Tryd.prog 20 [ratA p1 l1 q1 r1, ratA p2 l2 q2 r2] S tk k = some (.int (cmpZ (nQ p1 l1 q1 r1 * dQ p2 l2 q2 r2) (nQ p2 l2 q2 r2 * dQ p1 l1 q1 r1)), S, tk, k) := by
  have hA := fun S tk k => rat_right S tk k p1 l1 q1 r1 h1 h2
  have hB := fun S tk k => rat_right S tk k p2 l2 q2 r2 h3 h4
  have gA := good_of p1 l1 q1 r1
  have gB := good_of p2 l2 q2 r2
  generalize nQ p1 l1 q1 r1 = a at *
  generalize dQ p1 l1 q1 r1 = b at *
  generalize nQ p2 l2 q2 r2 = c at *
  generalize dQ p2 l2 q2 r2 = d at *
  refine call_pure Tryd.func20 rfl rfl (by decide +kernel) (by decide +kernel) Tryd.ntmps20 rfl rfl _ _ _ (rfl) ?_; rw [RK_KX]
  have hK := fun S tk k => rat_quick S tk k a b c d
  cases hs : smB a && smB b && smB c && smB d with
  | true =>
    rw [hs] at hK
    simp only [Bool.and_eq_true] at hs
    obtain ⟨⟨⟨s1, s2⟩, s3⟩, s4⟩ := hs
    rw [sm_of s1, sm_of s2, sm_of s3, sm_of s4] at hK
    have b1 := mul_small s1 s4
    have b2 := mul_small s3 s2
    have hw1 : IntKind.i64.wrap (a * d) = a * d := wrap_of (by unfold i64; omega)
    have hw2 : IntKind.i64.wrap (c * b) = c * b := wrap_of (by unfold i64; omega)
    simp only [qA, ratA, digA] at hA hB hK
    by_cases g1 : a * d < c * b
    · have d1 : decide (a * d < c * b) = true := by simpa using g1
      rw [cmpZ_lt g1]
      simp (maxSteps := 1000000) +contextual (disch := first | with_reducible assumption | exact ⟨rfl⟩ | exact ⟨rfl, rfl⟩ | (refine _root_.id ?_; kernel_rfl) | omega) only [evs, ext_mv, nth, put, putT, getT, binInt, binStr, binBool, aUn, outA, resA, mapO, resA1, oneOf, w1, w2, w3, bots, cond_true, cond_false, if_true, if_false, ite_true, ite_false, reduceIte, reduceCtorEq, implies_true, Nat.reduceAdd, Nat.reduceSub, AV.int, AV.bool, AV.str, Nat.reduceBEq, Nat.reduceEqDiff, Nat.reduceMul, Nat.reduceLT, Nat.reduceLeDiff, Int.reduceNeg, BEq.rfl, beq_self_eq_true, tabl, cellsOf, fldA, ldA, stA, entAt, partA, takeN, over, leafOk, Value.oneCell', idxA, nilA, cellsEq, fillA, elemsA, pure1, pure2, reps, chkA, tys, Tryd.results20, KX_draw, KX_drawQ, KX_tail, lastO_one, lastO_more, dropL_one, dropL_more, callP_eq, callM_true, ext_mv1, ratA, digA, hA, hB, hK, hw1, hw2, d1]
    · have d1 : decide (a * d < c * b) = false := by simpa using g1
      by_cases g2 : a * d > c * b
      · have d2 : decide (a * d > c * b) = true := by simpa using g2
        rw [cmpZ_gt g2]
        simp (maxSteps := 1000000) +contextual (disch := first | with_reducible assumption | exact ⟨rfl⟩ | exact ⟨rfl, rfl⟩ | (refine _root_.id ?_; kernel_rfl) | omega) only [evs, ext_mv, nth, put, putT, getT, binInt, binStr, binBool, aUn, outA, resA, mapO, resA1, oneOf, w1, w2, w3, bots, cond_true, cond_false, if_true, if_false, ite_true, ite_false, reduceIte, reduceCtorEq, implies_true, Nat.reduceAdd, Nat.reduceSub, AV.int, AV.bool, AV.str, Nat.reduceBEq, Nat.reduceEqDiff, Nat.reduceMul, Nat.reduceLT, Nat.reduceLeDiff, Int.reduceNeg, BEq.rfl, beq_self_eq_true, tabl, cellsOf, fldA, ldA, stA, entAt, partA, takeN, over, leafOk, Value.oneCell', idxA, nilA, cellsEq, fillA, elemsA, pure1, pure2, reps, chkA, tys, Tryd.results20, KX_draw, KX_drawQ, KX_tail, lastO_one, lastO_more, dropL_one, dropL_more, callP_eq, callM_true, ext_mv1, ratA, digA, hA, hB, hK, hw1, hw2, d1, d2]
      · have d2 : decide (a * d > c * b) = false := by simpa using g2
        rw [cmpZ_eq (by omega)]
        simp (maxSteps := 1000000) +contextual (disch := first | with_reducible assumption | exact ⟨rfl⟩ | exact ⟨rfl, rfl⟩ | (refine _root_.id ?_; kernel_rfl) | omega) only [evs, ext_mv, nth, put, putT, getT, binInt, binStr, binBool, aUn, outA, resA, mapO, resA1, oneOf, w1, w2, w3, bots, cond_true, cond_false, if_true, if_false, ite_true, ite_false, reduceIte, reduceCtorEq, implies_true, Nat.reduceAdd, Nat.reduceSub, AV.int, AV.bool, AV.str, Nat.reduceBEq, Nat.reduceEqDiff, Nat.reduceMul, Nat.reduceLT, Nat.reduceLeDiff, Int.reduceNeg, BEq.rfl, beq_self_eq_true, tabl, cellsOf, fldA, ldA, stA, entAt, partA, takeN, over, leafOk, Value.oneCell', idxA, nilA, cellsEq, fillA, elemsA, pure1, pure2, reps, chkA, tys, Tryd.results20, KX_draw, KX_drawQ, KX_tail, lastO_one, lastO_more, dropL_one, dropL_more, callP_eq, callM_true, ext_mv1, ratA, digA, hA, hB, hK, hw1, hw2, d1, d2]
  | false =>
    rw [hs] at hK
    have hO1 := fun S tk k => rat_of S tk k a
    have hO2 := fun S tk k => rat_of S tk k b
    have hO3 := fun S tk k => rat_of S tk k c
    have hO4 := fun S tk k => rat_of S tk k d
    have l1 := gA.ln
    have l2 := gA.ld
    have l3 := gB.ln
    have l4 := gB.ld
    have hT1 := fun S tk k => whole_times S tk k a d (by omega) (by omega)
    have hT2 := fun S tk k => whole_times S tk k c b (by omega) (by omega)
    have m1 := len_mulZ l1 l4
    have m2 := len_mulZ l3 l2
    have hS := fun S tk k => rat_same S tk k (a * d) (c * b) (by omega) (by omega)
    have hM := fun S tk k => whole_minus S tk k (a * d) (c * b) (by omega) (by omega)
    simp only [zA, bigA, digA] at hO1 hO2 hO3 hO4 hT1 hT2 hS hM
    simp only [qA, ratA, digA] at hA hB hK
    by_cases g1 : a * d = c * b
    · have d1 : decide (a * d = c * b) = true := by simpa using g1
      rw [d1] at hS
      rw [cmpZ_eq g1]
      simp (maxSteps := 1000000) +contextual (disch := first | with_reducible assumption | exact ⟨rfl⟩ | exact ⟨rfl, rfl⟩ | (refine _root_.id ?_; kernel_rfl) | omega) only [evs, ext_mv, nth, put, putT, getT, binInt, binStr, binBool, aUn, outA, resA, mapO, resA1, oneOf, w1, w2, w3, bots, cond_true, cond_false, if_true, if_false, ite_true, ite_false, reduceIte, reduceCtorEq, implies_true, Nat.reduceAdd, Nat.reduceSub, AV.int, AV.bool, AV.str, Nat.reduceBEq, Nat.reduceEqDiff, Nat.reduceMul, Nat.reduceLT, Nat.reduceLeDiff, Int.reduceNeg, BEq.rfl, beq_self_eq_true, tabl, cellsOf, fldA, ldA, stA, entAt, partA, takeN, over, leafOk, Value.oneCell', idxA, nilA, cellsEq, fillA, elemsA, pure1, pure2, reps, chkA, tys, Tryd.results20, KX_draw, KX_drawQ, KX_tail, lastO_one, lastO_more, dropL_one, dropL_more, callP_eq, callM_true, ext_mv1, ratA, digA, hA, hB, hK, hO1, hO2, hO3, hO4, hT1, hT2, hS]
    · have d1 : decide (a * d = c * b) = false := by simpa using g1
      rw [d1] at hS
      by_cases g2 : a * d < c * b
      · have d2 : decide (a * d - c * b < 0) = true := by simp; omega
        rw [d2] at hM
        rw [cmpZ_lt g2]
        simp (maxSteps := 1000000) +contextual (disch := first | with_reducible assumption | exact ⟨rfl⟩ | exact ⟨rfl, rfl⟩ | (refine _root_.id ?_; kernel_rfl) | omega) only [evs, ext_mv, nth, put, putT, getT, binInt, binStr, binBool, aUn, outA, resA, mapO, resA1, oneOf, w1, w2, w3, bots, cond_true, cond_false, if_true, if_false, ite_true, ite_false, reduceIte, reduceCtorEq, implies_true, Nat.reduceAdd, Nat.reduceSub, AV.int, AV.bool, AV.str, Nat.reduceBEq, Nat.reduceEqDiff, Nat.reduceMul, Nat.reduceLT, Nat.reduceLeDiff, Int.reduceNeg, BEq.rfl, beq_self_eq_true, tabl, cellsOf, fldA, ldA, stA, entAt, partA, takeN, over, leafOk, Value.oneCell', idxA, nilA, cellsEq, fillA, elemsA, pure1, pure2, reps, chkA, tys, Tryd.results20, KX_draw, KX_drawQ, KX_tail, lastO_one, lastO_more, dropL_one, dropL_more, callP_eq, callM_true, ext_mv1, ratA, digA, hA, hB, hK, hO1, hO2, hO3, hO4, hT1, hT2, hS, hM]
      · have d2 : decide (a * d - c * b < 0) = false := by simp; omega
        rw [d2] at hM
        rw [cmpZ_gt (by omega)]
        simp (maxSteps := 1000000) +contextual (disch := first | with_reducible assumption | exact ⟨rfl⟩ | exact ⟨rfl, rfl⟩ | (refine _root_.id ?_; kernel_rfl) | omega) only [evs, ext_mv, nth, put, putT, getT, binInt, binStr, binBool, aUn, outA, resA, mapO, resA1, oneOf, w1, w2, w3, bots, cond_true, cond_false, if_true, if_false, ite_true, ite_false, reduceIte, reduceCtorEq, implies_true, Nat.reduceAdd, Nat.reduceSub, AV.int, AV.bool, AV.str, Nat.reduceBEq, Nat.reduceEqDiff, Nat.reduceMul, Nat.reduceLT, Nat.reduceLeDiff, Int.reduceNeg, BEq.rfl, beq_self_eq_true, tabl, cellsOf, fldA, ldA, stA, entAt, partA, takeN, over, leafOk, Value.oneCell', idxA, nilA, cellsEq, fillA, elemsA, pure1, pure2, reps, chkA, tys, Tryd.results20, KX_draw, KX_drawQ, KX_tail, lastO_one, lastO_more, dropL_one, dropL_more, callP_eq, callM_true, ext_mv1, ratA, digA, hA, hB, hK, hO1, hO2, hO3, hO4, hT1, hT2, hS, hM]
end
end Go.Proofs.YtgadegdhfjnoaaaDoor
/-
  What the functions of the fractions compute: rounding.
-/

namespace Go.Proofs.YtgadegdhfjnoaaaDoor
open Go
theorem GoodQ.valid {n d : Int} (h : GoodQ n d) : validQ (decide (n < 0)) (dig n.natAbs) (decide (d < 0)) (dig d.natAbs) = true := by
  unfold validQ goodQ
  rw [valid_of _ h.ln, valid_of _ h.ld, V_of _ h.ln, V_of _ h.ld]
  simp [h.pos, h.cop]
theorem GoodQ.nQ {n d : Int} (h : GoodQ n d) : nQ (decide (n < 0)) (dig n.natAbs) (decide (d < 0)) (dig d.natAbs) = n := by
  unfold Proofs.YtgadegdhfjnoaaaDoor.nQ
  rw [if_pos h.valid, V_of _ h.ln]
theorem GoodQ.dQ {n d : Int} (h : GoodQ n d) : dQ (decide (n < 0)) (dig n.natAbs) (decide (d < 0)) (dig d.natAbs) = d := by
  unfold Proofs.YtgadegdhfjnoaaaDoor.dQ
  rw [if_pos h.valid, V_of _ h.ld]
theorem GoodQ.neg {n d : Int} (h : GoodQ n d) : GoodQ (-n) d := by
  have e : (-n).natAbs = n.natAbs := by omega
  exact ⟨h.pos, by rw [e]; exact h.cop, by rw [e]; exact h.ln, h.ld⟩
/-- rounding down, by quotient and rest of the amounts -/
theorem floor_of {n d : Int} (hd : 0 < d) : (n < 0 → 0 < n.natAbs % d.natAbs → -((n.natAbs / d.natAbs : Nat) : Int) - 1 = n / d) ∧ (n < 0 → n.natAbs % d.natAbs = 0 → -((n.natAbs / d.natAbs : Nat) : Int) = n / d) ∧ (0 ≤ n → ((n.natAbs / d.natAbs : Nat) : Int) = n / d) := by
  have h1 := Nat.div_add_mod n.natAbs d.natAbs
  have h2 := Nat.mod_lt n.natAbs (by omega : 0 < d.natAbs)
  have hda : ((d.natAbs : Nat) : Int) = d := by omega
  have h3 : (d * ((n.natAbs / d.natAbs : Nat) : Int)) + ((n.natAbs % d.natAbs : Nat) : Int) = (n.natAbs : Int) := by
    rw [← h1]
    conv => rhs; rw [Int.natCast_add, Int.natCast_mul, hda]
    rw [h1]
  have h4 : ((n.natAbs % d.natAbs : Nat) : Int) < d := by omega
  generalize n.natAbs / d.natAbs = q at *
  generalize n.natAbs % d.natAbs = r at *
  refine ⟨fun hn hr => ?_, fun hn hr => ?_, fun hn => ?_⟩
  · have e : n = (d - (r : Int)) + d * (-(q : Int) - 1) := by rw [Int.mul_sub, Int.mul_neg, Int.mul_one]; omega
    rw [e, Int.add_mul_ediv_left _ _ (by omega), Int.ediv_eq_zero_of_lt (by omega) (by omega)]
    omega
  · have e : n = 0 + d * (-(q : Int)) := by rw [Int.mul_neg]; omega
    rw [e, Int.add_mul_ediv_left _ _ (by omega), Int.zero_ediv]
    omega
  · have e : n = (r : Int) + d * (q : Int) := by omega
    rw [e, Int.add_mul_ediv_left _ _ (by omega), Int.ediv_eq_zero_of_lt (by omega) (by omega)]
    omega
theorem floor_abs {n d : Int} (hd : 0 < d) : (n / d).natAbs ≤ n.natAbs := by
  have h1 := Int.ediv_mul_le n (by omega : d ≠ 0)
  have h2 := Int.lt_ediv_add_one_mul_self n hd
  generalize n / d = q at *
  rw [Int.add_mul, Int.one_mul] at h2
  by_cases hq : 0 ≤ q
  · have : q * 1 ≤ q * d := Int.mul_le_mul_of_nonneg_left (by omega) hq
    omega
  · have : (-(q + 1)) * 1 ≤ (-(q + 1)) * d := Int.mul_le_mul_of_nonneg_left (by omega) (by omega)
    rw [Int.neg_mul, Int.neg_mul, Int.add_mul, Int.add_mul] at this
    omega
section
variable (S : List Ent) (tk : List Nat) (k : Nat)
theorem whole_minus_one (x : Int) (hx : (dig x.natAbs).length ≤ 90000) : cL Tryd.prog 56 [zA x, .agg [.bool false, .frz [[.prim (.int .i64 1)]] .tight]] S tk k = some (zA (x - 1), S, tk, k) := by
  have h1' : dig 1 = [(1 : Int)] := dig_one (d := (1 : Int)) (by omega) (by omega)
  have h2 := whole_minus S tk k x 1 hx (by rw [show Int.natAbs 1 = 1 from rfl, h1']; simp)
  have e : zA 1 = .agg [.bool false, digA [(1 : Int)]] := by
    unfold zA bigA
    rw [show Int.natAbs 1 = 1 from rfl, h1']
    rfl
  rw [e] at h2
  exact (cL_w2 (args := [zA x, .agg [.bool false, .frz [[.prim (.int .i64 1)]] .tight]]) (args' := [zA x, .agg [.bool false, digA [(1 : Int)]]]) rfl rfl rfl).trans h2
theorem rat_Floor (p : Bool) (l : List Int) (q : Bool) (r : List Int) (h1 : l.length ≤ 1000000) (h2 : r.length ≤ 1000000) : cL Tryd.prog 23 [ratA p l q r] S tk k = some (zA (nQ p l q r / dQ p l q r), S, tk, k) := by
  have hA := fun S tk k => rat_right S tk k p l q r h1 h2
  have g := good_of p l q r
  generalize nQ p l q r = a at *
  generalize dQ p l q r = b at *
  have hln := g.ln
  have hld := g.ld
  have hQ := fun S tk k => rat_quotient S tk k a.natAbs b.natAbs .unk .unk (by have := g.pos; omega) (by omega) (by omega)
  have hb2 := g.pos
  have hql : (dig (a.natAbs / b.natAbs)).length ≤ 200 := Nat.le_trans (dig_len.2 (Nat.lt_of_le_of_lt (Nat.div_le_self _ _) (dig_len.1 (Nat.le_refl _)))) hln
  obtain ⟨f1, f2, f3⟩ := floor_of (n := a) hb2
  have hp := dlen_pos (a.natAbs / b.natAbs)
  have hp2 := dlen_pos (a.natAbs % b.natAbs)
  have hfl : (dig (a / b).natAbs).length ≤ 1000000 := Nat.le_trans (Nat.le_trans (dig_len.2 (Nat.lt_of_le_of_lt (floor_abs hb2) (dig_len.1 (Nat.le_refl _)))) hln) (by omega)
  have hC := fun S tk k => slices_CloneN S tk k (dig (a / b).natAbs) .unk (by omega)
  refine call_pure Tryd.func23 rfl rfl (by decide +kernel) (by decide +kernel) Tryd.ntmps23 rfl rfl _ _ _ (rfl) ?_; rw [RK_KX]
  simp only [qA, ratA, digA] at hA
  simp only [digA] at hQ hC
  by_cases hn : a < 0
  · have d1 : decide (a < 0) = true := by simpa using hn
    have hw : zA (-((a.natAbs / b.natAbs : Nat) : Int)) = bigA (!decide (dig (a.natAbs / b.natAbs) = [])) (dig (a.natAbs / b.natAbs)) := by
      rw [zA_sg (fun e => by rw [e, dig_zero]; simp)]
      congr 1
      by_cases h0 : a.natAbs / b.natAbs = 0
      · rw [h0]; simp [sg]
      · have : ¬ dig (a.natAbs / b.natAbs) = [] := fun e => h0 (dig_nil.1 e)
        simp [this, sg]
    by_cases hr : dig (a.natAbs % b.natAbs) = []
    · have hr0 := dig_nil.1 hr
      have d2 : decide (dig (a.natAbs % b.natAbs) = []) = true := by simpa using hr
      have hf := f2 hn hr0
      rw [hf] at hw
      simp only [zA, bigA, digA, AV.agg.injEq, List.cons.injEq, AV.prim.injEq, Value.bool.injEq, AV.frz.injEq, and_true] at hw
      rw [hw.2] at hC
      simp only [zA, bigA, digA]
      rw [hw.1, hw.2]
      rw [d2] at hp2
      simp (maxSteps := 1000000) +contextual (disch := first | with_reducible assumption | exact ⟨rfl⟩ | exact ⟨rfl, rfl⟩ | (refine _root_.id ?_; kernel_rfl) | omega) only [evs, ext_mv, nth, put, putT, getT, binInt, binStr, binBool, aUn, outA, resA, mapO, resA1, oneOf, w1, w2, w3, bots, cond_true, cond_false, if_true, if_false, ite_true, ite_false, reduceIte, reduceCtorEq, implies_true, Nat.reduceAdd, Nat.reduceSub, AV.int, AV.bool, AV.str, Nat.reduceBEq, Nat.reduceEqDiff, Nat.reduceMul, Nat.reduceLT, Nat.reduceLeDiff, Int.reduceNeg, BEq.rfl, beq_self_eq_true, tabl, cellsOf, fldA, ldA, stA, entAt, partA, takeN, over, leafOk, Value.oneCell', idxA, nilA, cellsEq, fillA, elemsA, pure1, pure2, reps, chkA, tys, Tryd.results23, KX_draw, KX_drawQ, KX_tail, lastO_one, lastO_more, dropL_one, dropL_more, callP_eq, callM_true, ext_mv1, ratA, digA, hA, hQ, d1, hp, hp2, Bool.not_true, hC]
    · have d2 : decide (dig (a.natAbs % b.natAbs) = []) = false := by simpa using hr
      have hr0 : 0 < a.natAbs % b.natAbs := Nat.pos_of_ne_zero fun e => hr (dig_nil.2 e)
      have hM := fun S tk k => whole_minus_one S tk k (-((a.natAbs / b.natAbs : Nat) : Int)) (by
        rw [Int.natAbs_neg, Int.natAbs_natCast]; omega)
      rw [f1 hn hr0, hw] at hM
      rw [d2] at hp2
      simp only [zA, bigA, digA] at hM ⊢
      simp (maxSteps := 1000000) +contextual (disch := first | with_reducible assumption | exact ⟨rfl⟩ | exact ⟨rfl, rfl⟩ | (refine _root_.id ?_; kernel_rfl) | omega) only [evs, ext_mv, nth, put, putT, getT, binInt, binStr, binBool, aUn, outA, resA, mapO, resA1, oneOf, w1, w2, w3, bots, cond_true, cond_false, if_true, if_false, ite_true, ite_false, reduceIte, reduceCtorEq, implies_true, Nat.reduceAdd, Nat.reduceSub, AV.int, AV.bool, AV.str, Nat.reduceBEq, Nat.reduceEqDiff, Nat.reduceMul, Nat.reduceLT, Nat.reduceLeDiff, Int.reduceNeg, BEq.rfl, beq_self_eq_true, tabl, cellsOf, fldA, ldA, stA, entAt, partA, takeN, over, leafOk, Value.oneCell', idxA, nilA, cellsEq, fillA, elemsA, pure1, pure2, reps, chkA, tys, Tryd.results23, KX_draw, KX_drawQ, KX_tail, lastO_one, lastO_more, dropL_one, dropL_more, callP_eq, callM_true, ext_mv1, ratA, digA, hA, hQ, d1, hp, hp2, Bool.not_false, hM, hC]
  · have d1 : decide (a < 0) = false := by simpa using hn
    have hf := f3 (by omega)
    have hw : zA (((a.natAbs / b.natAbs : Nat) : Int)) = bigA false (dig (a.natAbs / b.natAbs)) := by
      rw [zA_sg (fun _ => rfl)]; rfl
    rw [hf] at hw
    simp only [zA, bigA, digA, AV.agg.injEq, List.cons.injEq, AV.prim.injEq, Value.bool.injEq, AV.frz.injEq, and_true] at hw
    simp only [zA, bigA, digA]
    rw [hw.2] at hC
    rw [hw.1, hw.2]
    simp (maxSteps := 1000000) +contextual (disch := first | with_reducible assumption | exact ⟨rfl⟩ | exact ⟨rfl, rfl⟩ | (refine _root_.id ?_; kernel_rfl) | omega) only [evs, ext_mv, nth, put, putT, getT, binInt, binStr, binBool, aUn, outA, resA, mapO, resA1, oneOf, w1, w2, w3, bots, cond_true, cond_false, if_true, if_false, ite_true, ite_false, reduceIte, reduceCtorEq, implies_true, Nat.reduceAdd, Nat.reduceSub, AV.int, AV.bool, AV.str, Nat.reduceBEq, Nat.reduceEqDiff, Nat.reduceMul, Nat.reduceLT, Nat.reduceLeDiff, Int.reduceNeg, BEq.rfl, beq_self_eq_true, tabl, cellsOf, fldA, ldA, stA, entAt, partA, takeN, over, leafOk, Value.oneCell', idxA, nilA, cellsEq, fillA, elemsA, pure1, pure2, reps, chkA, tys, Tryd.results23, KX_draw, KX_drawQ, KX_tail, lastO_one, lastO_more, dropL_one, dropL_more, callP_eq, callM_true, ext_mv1, ratA, digA, hA, hQ, d1, hC]
end
end Go.Proofs.YtgadegdhfjnoaaaDoor
/-
  What the functions of the fractions compute: rounding up, texts.
-/

namespace Go.Proofs.YtgadegdhfjnoaaaDoor
open Go
theorem decF_le : ∀ f n, (decF f n).length ≤ f
  | 0, _ => by simp [decF]
  | f + 1, n => by
    have := decF_le f (n / 10)
    unfold decF
    split <;> simp <;> omega
theorem four_le : ∀ r : List Int, ((r.map fun x => fourF x.toNat).flatten).length ≤ 4 * r.length
  | [] => by simp
  | x :: r => by
    have h1 := four_le r
    have h2 : (fourF x.toNat).length = 4 := rfl
    rw [List.map_cons, List.flatten_cons, List.length_append, List.length_cons]
    omega
theorem top_le : ∀ l : List Int, (topF l).length ≤ 20 + 4 * l.length
  | [] => by simp [topF]
  | d :: r => by
    have h1 := decF_le 20 d.toNat
    have h2 := four_le r
    unfold topF
    rw [List.length_append, List.length_cons]
    omega
theorem textF_le (neg : Bool) (l : List Int) : (textF neg l).size ≤ 21 + 4 * l.length := by
  have h := top_le l.reverse
  rw [List.length_reverse] at h
  unfold textF
  split
  · split
    · show (45 :: topF l.reverse).toArray.size ≤ _
      simp; omega
    · show (topF l.reverse).toArray.size ≤ _
      simp; omega
  · show 1 ≤ _
    omega
/-- the text of a fraction -/
def textQ (n d : Int) : ByteArray := if d = 1 then textF (decide (n < 0)) (dig n.natAbs) else (textF (decide (n < 0)) (dig n.natAbs) ++ ⟨#[47]⟩) ++ textF (decide (d < 0)) (dig d.natAbs)
section
variable (S : List Ent) (tk : List Nat) (k : Nat)
theorem rat_Ceil (p : Bool) (l : List Int) (q : Bool) (r : List Int) (h1 : l.length ≤ 1000000) (h2 : r.length ≤ 1000000) : cL Tryd.prog 25 [ratA p l q r] S tk k = some (zA (-(-nQ p l q r / dQ p l q r)), S, tk, k) := by
  have hA := fun S tk k => rat_right S tk k p l q r h1 h2
  have g := good_of p l q r
  generalize nQ p l q r = a at *
  generalize dQ p l q r = b at *
  have hln := g.ln
  have hld := g.ld
  have gn := g.neg
  have hN := fun S tk k => told (E := E1) (big_Neg S tk k (decide (a < 0)) (dig a.natAbs) (by omega))
  rw [V_of _ hln] at hN
  have hF := fun S tk k => rat_Floor S tk k (decide (-a < 0)) (dig (-a).natAbs) (decide (b < 0)) (dig b.natAbs) (by have := gn.ln; omega) (by omega)
  rw [gn.nQ, gn.dQ] at hF
  have hfl : (dig (-a / b).natAbs).length ≤ 200 := Nat.le_trans (dig_len.2 (Nat.lt_of_le_of_lt (floor_abs g.pos) (dig_len.1 (Nat.le_refl _)))) gn.ln
  have hM := fun S tk k => told (E := E1) (big_Neg S tk k (decide (-a / b < 0)) (dig (-a / b).natAbs) (by omega))
  rw [V_of _ hfl] at hM
  refine call_pure Tryd.func25 rfl rfl (by decide +kernel) (by decide +kernel) Tryd.ntmps25 rfl rfl _ _ _ (rfl) ?_; rw [RK_KX]
  simp only [zA, qA, ratA, bigA, digA] at hA hN hF hM ⊢
  simp (maxSteps := 1000000) +contextual (disch := first | with_reducible assumption | exact ⟨rfl⟩ | exact ⟨rfl, rfl⟩ | (refine _root_.id ?_; kernel_rfl) | omega) only [evs, ext_mv, nth, put, putT, getT, binInt, binStr, binBool, aUn, outA, resA, mapO, resA1, oneOf, w1, w2, w3, bots, cond_true, cond_false, if_true, if_false, ite_true, ite_false, reduceIte, reduceCtorEq, implies_true, Nat.reduceAdd, Nat.reduceSub, AV.int, AV.bool, AV.str, Nat.reduceBEq, Nat.reduceEqDiff, Nat.reduceMul, Nat.reduceLT, Nat.reduceLeDiff, Int.reduceNeg, BEq.rfl, beq_self_eq_true, tabl, cellsOf, fldA, ldA, stA, entAt, partA, takeN, over, leafOk, Value.oneCell', idxA, nilA, cellsEq, fillA, elemsA, pure1, pure2, reps, chkA, tys, Tryd.results25, KX_draw, KX_drawQ, KX_tail, lastO_one, lastO_more, dropL_one, dropL_more, callP_eq, callM_true, ext_mv1, hA, hN, hF, hM]
theorem rat_Text (p : Bool) (l : List Int) (q : Bool) (r : List Int) (h1 : l.length ≤ 1000000) (h2 : r.length ≤ 1000000) : cL Tryd.prog 27 [ratA p l q r] S tk k = some (.str (textQ (nQ p l q r) (dQ p l q r)), S, tk, k) := by
  have hA := fun S tk k => rat_right S tk k p l q r h1 h2
  have g := good_of p l q r
  generalize nQ p l q r = a at *
  generalize dQ p l q r = b at *
  have hln := g.ln
  have hld := g.ld
  have hpos := g.pos
  have hT1 := fun S tk k => big_Text S tk k (decide (a < 0)) (dig a.natAbs) .unk (by omega)
  have hT2 := fun S tk k => big_Text S tk k (decide (b < 0)) (dig b.natAbs) .unk (by omega)
  have hO := fun S tk k => rat_order_one S tk k b.natAbs (by omega)
  have hc : (cmpN b.natAbs 1 == 0) = decide (b = 1) := by
    have e : (cmpN b.natAbs 1 == 0) = decide (cmpN b.natAbs 1 = 0) := rfl
    rw [e, cmp_one, decide_eq_decide]; omega
  refine call_pure Tryd.func27 rfl rfl (by decide +kernel) (by decide +kernel) Tryd.ntmps27 rfl rfl _ _ _ (rfl) ?_; rw [RK_KX]
  unfold textQ
  simp only [qA, ratA, digA] at hA hT1 hT2 hO ⊢
  by_cases hb : b = 1
  · have d1 : decide (b = 1) = true := by simpa using hb
    rw [if_pos hb]
    rw [d1] at hc
    simp (maxSteps := 1000000) +contextual (disch := first | with_reducible assumption | exact ⟨rfl⟩ | exact ⟨rfl, rfl⟩ | (refine _root_.id ?_; kernel_rfl) | omega) only [evs, ext_mv, nth, put, putT, getT, binInt, binStr, binBool, aUn, outA, resA, mapO, resA1, oneOf, w1, w2, w3, bots, cond_true, cond_false, if_true, if_false, ite_true, ite_false, reduceIte, reduceCtorEq, implies_true, Nat.reduceAdd, Nat.reduceSub, AV.int, AV.bool, AV.str, Nat.reduceBEq, Nat.reduceEqDiff, Nat.reduceMul, Nat.reduceLT, Nat.reduceLeDiff, Int.reduceNeg, BEq.rfl, beq_self_eq_true, tabl, cellsOf, fldA, ldA, stA, entAt, partA, takeN, over, leafOk, Value.oneCell', idxA, nilA, cellsEq, fillA, elemsA, pure1, pure2, reps, chkA, tys, Tryd.results27, KX_draw, KX_drawQ, KX_tail, lastO_one, lastO_more, dropL_one, dropL_more, callP_eq, callM_true, ext_mv1, hA, hT1, hT2, hO, hc]
  · have d1 : decide (b = 1) = false := by simpa using hb
    rw [if_neg hb]
    rw [d1] at hc
    simp (maxSteps := 1000000) +contextual (disch := first | with_reducible assumption | exact ⟨rfl⟩ | exact ⟨rfl, rfl⟩ | (refine _root_.id ?_; kernel_rfl) | omega) only [evs, ext_mv, nth, put, putT, getT, binInt, binStr, binBool, aUn, outA, resA, mapO, resA1, oneOf, w1, w2, w3, bots, cond_true, cond_false, if_true, if_false, ite_true, ite_false, reduceIte, reduceCtorEq, implies_true, Nat.reduceAdd, Nat.reduceSub, AV.int, AV.bool, AV.str, Nat.reduceBEq, Nat.reduceEqDiff, Nat.reduceMul, Nat.reduceLT, Nat.reduceLeDiff, Int.reduceNeg, BEq.rfl, beq_self_eq_true, tabl, cellsOf, fldA, ldA, stA, entAt, partA, takeN, over, leafOk, Value.oneCell', idxA, nilA, cellsEq, fillA, elemsA, pure1, pure2, reps, chkA, tys, Tryd.results27, KX_draw, KX_drawQ, KX_tail, lastO_one, lastO_more, dropL_one, dropL_more, callP_eq, callM_true, ext_mv1, hA, hT1, hT2, hO, hc]
    have q1 := textF_le (decide (a < 0)) (dig a.natAbs)
    have q2 := textF_le (decide (b < 0)) (dig b.natAbs)
    have q3 : (ByteArray.mk #[47]).size = 1 := rfl
    rw [ByteArray.size_append, q3]
    exact ⟨by omega, by omega⟩
end
end Go.Proofs.YtgadegdhfjnoaaaDoor
/-
  What the functions of the reference of the fractions compute: cutting zeros off, comparing, sums.
-/

namespace Go.Proofs.YtgadegdhfjnoaaaDoor
open Go
section
variable (S : List Ent) (tk : List Nat) (k : Nat)
theorem R03_trim (l : List Int) (c : Cap) (hlen : l.length ≤ 1000000) : cL Tryd.prog 85 [.frz (l.map digC) c] S tk k = some (digA (trimL l), S, tk, k) := by
  refine call_pure Tryd.func85 rfl rfl (by decide +kernel) (by decide +kernel) Tryd.ntmps85 rfl rfl _ _ _ rfl ?_; rw [RK_KX]
  simp (maxSteps := 1000000) +contextual (disch := first | with_reducible assumption | exact ⟨rfl⟩ | exact ⟨rfl, rfl⟩ | (refine _root_.id ?_; kernel_rfl) | omega) only [evs, ext_mv, nth, put, putT, getT, binInt, binStr, binBool, aUn, outA, resA, mapO, resA1, oneOf, w1, w2, w3, bots, cond_true, cond_false, if_true, if_false, ite_true, ite_false, reduceIte, reduceCtorEq, implies_true, Nat.reduceAdd, Nat.reduceSub, AV.int, AV.bool, AV.str, Nat.reduceBEq, Nat.reduceEqDiff, Nat.reduceMul, Nat.reduceLT, Nat.reduceLeDiff, Int.reduceNeg, BEq.rfl, beq_self_eq_true, tabl, cellsOf, fldA, ldA, stA, entAt, partA, takeN, over, leafOk, Value.oneCell', idxA, nilA, cellsEq, fillA, elemsA, pure1, pure2, reps, chkA, tys, Tryd.results85, KX_draw, KX_drawQ, KX_tail, lastO_one, lastO_more, dropL_one, dropL_more, callP_eq, callM_true, ext_mv1, w2, w1]
  refine loop1 (fun x st => st.T.length = 22 ∧ (x ≤ l.length) ∧ (∀ j, x ≤ j → ∀ x, nth l j = some x → x = 0) ∧ getT st.T 0 = digA l ∧ getT st.T 3 = .int (x : Nat) ∧ st.S = []) (fun x => x) (fun x => digA (trimL l)) (l.length) ?_ ?_
  case refine_2 => exact ⟨rfl, Nat.le_refl _, hz_start l, rfl, rfl, rfl⟩
  rintro n ⟨T, S', tk', n'⟩ ⟨hl, hn, hz, e0, e3, eS⟩ IH
  subst eS
  obtain ⟨g, hg, hT⟩ := tab_of hl
  rw [hg] at e0 e3
  subst hT
  clear hg hl
  have hr := rowsOk_dig l
  by_cases h0 : n = 0
  · have d1 : decide ((n : Int) > 0) = false := by simp; omega
    have ht := trim_stop hn hz (.inl h0)
    simp (maxSteps := 1000000) +contextual (disch := first | with_reducible assumption | exact ⟨rfl⟩ | exact ⟨rfl, rfl⟩ | (refine _root_.id ?_; kernel_rfl) | omega) only [evs, ext_mv, nth, put, putT, getT, binInt, binStr, binBool, aUn, outA, resA, mapO, resA1, oneOf, w1, w2, w3, bots, cond_true, cond_false, if_true, if_false, ite_true, ite_false, reduceIte, reduceCtorEq, implies_true, Nat.reduceAdd, Nat.reduceSub, AV.int, AV.bool, AV.str, Nat.reduceBEq, Nat.reduceEqDiff, Nat.reduceMul, Nat.reduceLT, Nat.reduceLeDiff, Int.reduceNeg, BEq.rfl, beq_self_eq_true, tabl, cellsOf, fldA, ldA, stA, entAt, partA, takeN, over, leafOk, Value.oneCell', idxA, nilA, cellsEq, fillA, elemsA, pure1, pure2, reps, chkA, tys, Tryd.results85, KX_draw, KX_drawQ, KX_tail, lastO_one, lastO_more, dropL_one, dropL_more, callP_eq, callM_true, ext_mv1, e0, e3, d1, digA, sliceA, hr, bound, intN_cast, hn, Nat.le_refl, Nat.zero_le]
    rw [ht]; simp [h0]
  · have d1 : decide ((n : Int) > 0) = true := by simp; omega
    have hp := pred_idx h0 (by omega)
    obtain ⟨x, hx⟩ := nth_some (show n - 1 < l.length by omega)
    have hx' := nth_dig hx
    by_cases hx0 : x = 0
    · have d2 : (x == 0) = true := by simpa using hx0
      simp (maxSteps := 1000000) +contextual (disch := first | with_reducible assumption | exact ⟨rfl⟩ | exact ⟨rfl, rfl⟩ | (refine _root_.id ?_; kernel_rfl) | omega) only [evs, ext_mv, nth, put, putT, getT, binInt, binStr, binBool, aUn, outA, resA, mapO, resA1, oneOf, w1, w2, w3, bots, cond_true, cond_false, if_true, if_false, ite_true, ite_false, reduceIte, reduceCtorEq, implies_true, Nat.reduceAdd, Nat.reduceSub, AV.int, AV.bool, AV.str, Nat.reduceBEq, Nat.reduceEqDiff, Nat.reduceMul, Nat.reduceLT, Nat.reduceLeDiff, Int.reduceNeg, BEq.rfl, beq_self_eq_true, tabl, cellsOf, fldA, ldA, stA, entAt, partA, takeN, over, leafOk, Value.oneCell', idxA, nilA, cellsEq, fillA, elemsA, pure1, pure2, reps, chkA, tys, Tryd.results85, KX_draw, KX_drawQ, KX_tail, lastO_one, lastO_more, dropL_one, dropL_more, callP_eq, callM_true, ext_mv1, e0, e3, d1, d2, hp, hx', digA]
      exact IH (n - 1) _ (by first | omega | (simp only; omega)) ⟨rfl, by first | omega | (dsimp only; omega), hz_pred hz hx hx0, (by first | rfl | simp only [getT, List.map_append, List.map_cons, List.map_nil, digC, digA]), (by first | rfl | simp only [getT, List.map_append, List.map_cons, List.map_nil, digC, digA]), (by first | rfl | simp only [getT, List.map_append, List.map_cons, List.map_nil, digC, digA])⟩
    · have d2 : (x == 0) = false := by simpa using hx0
      have ht := trim_stop hn hz (.inr ⟨x, hx, hx0⟩)
      simp (maxSteps := 1000000) +contextual (disch := first | with_reducible assumption | exact ⟨rfl⟩ | exact ⟨rfl, rfl⟩ | (refine _root_.id ?_; kernel_rfl) | omega) only [evs, ext_mv, nth, put, putT, getT, binInt, binStr, binBool, aUn, outA, resA, mapO, resA1, oneOf, w1, w2, w3, bots, cond_true, cond_false, if_true, if_false, ite_true, ite_false, reduceIte, reduceCtorEq, implies_true, Nat.reduceAdd, Nat.reduceSub, AV.int, AV.bool, AV.str, Nat.reduceBEq, Nat.reduceEqDiff, Nat.reduceMul, Nat.reduceLT, Nat.reduceLeDiff, Int.reduceNeg, BEq.rfl, beq_self_eq_true, tabl, cellsOf, fldA, ldA, stA, entAt, partA, takeN, over, leafOk, Value.oneCell', idxA, nilA, cellsEq, fillA, elemsA, pure1, pure2, reps, chkA, tys, Tryd.results85, KX_draw, KX_drawQ, KX_tail, lastO_one, lastO_more, dropL_one, dropL_more, callP_eq, callM_true, ext_mv1, e0, e3, d1, d2, hp, hx', digA, sliceA, hr, bound, intN_cast, hn, Nat.le_refl, Nat.zero_le]
      rw [ht]; simp
theorem R03_less (a b : Nat) (ha : (dig a).length ≤ 1000000) (hb : (dig b).length ≤ 1000000) : cL Tryd.prog 79 [digA (dig a), digA (dig b)] S tk k = some (.bool (decide (a < b)), S, tk, k) := by
  refine call_pure Tryd.func79 rfl rfl (by decide +kernel) (by decide +kernel) Tryd.ntmps79 rfl rfl _ _ _ rfl ?_; rw [RK_KX]
  by_cases hl : (dig a).length = (dig b).length
  case neg =>
    have d1 : (((dig a).length : Int) != ((dig b).length : Int)) = true := by simp; omega
    have d2 : decide (((dig a).length : Int) < ((dig b).length : Int)) = decide (a < b) := by
      rw [decide_eq_decide]
      constructor
      · intro h; exact cmp_shorter (by omega)
      · intro h
        rcases Nat.lt_or_ge (dig a).length (dig b).length with h' | h'
        · omega
        · have := cmp_shorter (a := b) (b := a) (by omega); omega
    simp (maxSteps := 1000000) +contextual (disch := first | with_reducible assumption | exact ⟨rfl⟩ | exact ⟨rfl, rfl⟩ | (refine _root_.id ?_; kernel_rfl) | omega) only [evs, ext_mv, nth, put, putT, getT, binInt, binStr, binBool, aUn, outA, resA, mapO, resA1, oneOf, w1, w2, w3, bots, cond_true, cond_false, if_true, if_false, ite_true, ite_false, reduceIte, reduceCtorEq, implies_true, Nat.reduceAdd, Nat.reduceSub, AV.int, AV.bool, AV.str, Nat.reduceBEq, Nat.reduceEqDiff, Nat.reduceMul, Nat.reduceLT, Nat.reduceLeDiff, Int.reduceNeg, BEq.rfl, beq_self_eq_true, tabl, cellsOf, fldA, ldA, stA, entAt, partA, takeN, over, leafOk, Value.oneCell', idxA, nilA, cellsEq, fillA, elemsA, pure1, pure2, reps, chkA, tys, Tryd.results79, KX_draw, KX_drawQ, KX_tail, lastO_one, lastO_more, dropL_one, dropL_more, callP_eq, callM_true, ext_mv1, digA, d1, d2]
  have d1 : (((dig a).length : Int) != ((dig b).length : Int)) = false := by simp; omega
  have d3 := top_idx ha
  simp (maxSteps := 1000000) +contextual (disch := first | with_reducible assumption | exact ⟨rfl⟩ | exact ⟨rfl, rfl⟩ | (refine _root_.id ?_; kernel_rfl) | omega) only [evs, ext_mv, nth, put, putT, getT, binInt, binStr, binBool, aUn, outA, resA, mapO, resA1, oneOf, w1, w2, w3, bots, cond_true, cond_false, if_true, if_false, ite_true, ite_false, reduceIte, reduceCtorEq, implies_true, Nat.reduceAdd, Nat.reduceSub, AV.int, AV.bool, AV.str, Nat.reduceBEq, Nat.reduceEqDiff, Nat.reduceMul, Nat.reduceLT, Nat.reduceLeDiff, Int.reduceNeg, BEq.rfl, beq_self_eq_true, tabl, cellsOf, fldA, ldA, stA, entAt, partA, takeN, over, leafOk, Value.oneCell', idxA, nilA, cellsEq, fillA, elemsA, pure1, pure2, reps, chkA, tys, Tryd.results79, KX_draw, KX_drawQ, KX_tail, lastO_one, lastO_more, dropL_one, dropL_more, callP_eq, callM_true, ext_mv1, digA, d1, d3]
  refine loop1 (fun x st => st.T.length = 41 ∧ (x ≤ (dig a).length) ∧ (∀ j, x ≤ j → nth (dig a) j = nth (dig b) j) ∧ getT st.T 0 = digA (dig a) ∧ getT st.T 1 = digA (dig b) ∧ getT st.T 5 = .int ((x : Int) - 1) ∧ st.S = []) (fun x => x) (fun x => .bool (decide (a < b))) ((dig a).length) ?_ ?_
  case refine_2 => exact ⟨rfl, Nat.le_refl _, fun j hj => by rw [nth_get, nth_get, List.getElem?_eq_none hj, List.getElem?_eq_none (by omega)], rfl, rfl, rfl, rfl⟩
  rintro n ⟨T, S', tk', n'⟩ ⟨hl, hn, he, e0, e1, e5, eS⟩ IH
  subst eS
  obtain ⟨g, hg, hT⟩ := tab_of hl
  rw [hg] at e0 e1 e5
  subst hT
  clear hg hl
  by_cases h0 : n = 0
  · have d2 : decide ((n : Int) - 1 ≥ 0) = false := by simp; omega
    have := cmp_same fun j => he j (by omega)
    subst this
    simp (maxSteps := 1000000) +contextual (disch := first | with_reducible assumption | exact ⟨rfl⟩ | exact ⟨rfl, rfl⟩ | (refine _root_.id ?_; kernel_rfl) | omega) only [evs, ext_mv, nth, put, putT, getT, binInt, binStr, binBool, aUn, outA, resA, mapO, resA1, oneOf, w1, w2, w3, bots, cond_true, cond_false, if_true, if_false, ite_true, ite_false, reduceIte, reduceCtorEq, implies_true, Nat.reduceAdd, Nat.reduceSub, AV.int, AV.bool, AV.str, Nat.reduceBEq, Nat.reduceEqDiff, Nat.reduceMul, Nat.reduceLT, Nat.reduceLeDiff, Int.reduceNeg, BEq.rfl, beq_self_eq_true, tabl, cellsOf, fldA, ldA, stA, entAt, partA, takeN, over, leafOk, Value.oneCell', idxA, nilA, cellsEq, fillA, elemsA, pure1, pure2, reps, chkA, tys, Tryd.results79, KX_draw, KX_drawQ, KX_tail, lastO_one, lastO_more, dropL_one, dropL_more, callP_eq, callM_true, ext_mv1, e0, e1, e5, d2, digA]
    simp
  · have d2 : decide ((n : Int) - 1 ≥ 0) = true := by simp; omega
    have hi : (n : Int) - 1 = ((n - 1 : Nat) : Int) := by omega
    obtain ⟨x, hx⟩ := nth_some (show n - 1 < (dig a).length by omega)
    obtain ⟨y, hy⟩ := nth_some (show n - 1 < (dig b).length by omega)
    have hx' := nth_dig hx
    have hy' := nth_dig hy
    have he' : ∀ j, n - 1 < j → nth (dig a) j = nth (dig b) j := fun j hj => he j (by omega)
    have hp := top_idx (n := n - 1) (by omega)
    rw [hi] at e5 d2
    by_cases hxy : x = y
    · have d4 : (x != y) = false := by simpa using hxy
      simp (maxSteps := 1000000) +contextual (disch := first | with_reducible assumption | exact ⟨rfl⟩ | exact ⟨rfl, rfl⟩ | (refine _root_.id ?_; kernel_rfl) | omega) only [evs, ext_mv, nth, put, putT, getT, binInt, binStr, binBool, aUn, outA, resA, mapO, resA1, oneOf, w1, w2, w3, bots, cond_true, cond_false, if_true, if_false, ite_true, ite_false, reduceIte, reduceCtorEq, implies_true, Nat.reduceAdd, Nat.reduceSub, AV.int, AV.bool, AV.str, Nat.reduceBEq, Nat.reduceEqDiff, Nat.reduceMul, Nat.reduceLT, Nat.reduceLeDiff, Int.reduceNeg, BEq.rfl, beq_self_eq_true, tabl, cellsOf, fldA, ldA, stA, entAt, partA, takeN, over, leafOk, Value.oneCell', idxA, nilA, cellsEq, fillA, elemsA, pure1, pure2, reps, chkA, tys, Tryd.results79, KX_draw, KX_drawQ, KX_tail, lastO_one, lastO_more, dropL_one, dropL_more, callP_eq, callM_true, ext_mv1, e0, e1, e5, d2, d4, digA, hx', hy', hp]
      exact IH (n - 1) _ (by first | omega | (simp only; omega)) ⟨rfl, by first | omega | (dsimp only; omega), fun j hj => by by_cases e : j = n - 1; (· rw [e, hx, hy, hxy]); exact he' j (by first | omega | (dsimp only; omega)), (by first | rfl | simp only [getT, List.map_append, List.map_cons, List.map_nil, digC, digA]), (by first | rfl | simp only [getT, List.map_append, List.map_cons, List.map_nil, digC, digA]), (by first | rfl | simp only [getT, List.map_append, List.map_cons, List.map_nil, digC, digA]), (by first | rfl | simp only [getT, List.map_append, List.map_cons, List.map_nil, digC, digA])⟩
    · have d4 : (x != y) = true := by simpa using hxy
      have d5 : decide (x < y) = decide (a < b) := by
        rw [decide_eq_decide]
        constructor
        · intro h1; exact cmp_at hl hx hy h1 he'
        · intro h1
          by_cases h2 : x < y
          · exact h2
          · have := cmp_at hl.symm hy hx (by omega) fun j hj => (he' j hj).symm
            omega
      simp (maxSteps := 1000000) +contextual (disch := first | with_reducible assumption | exact ⟨rfl⟩ | exact ⟨rfl, rfl⟩ | (refine _root_.id ?_; kernel_rfl) | omega) only [evs, ext_mv, nth, put, putT, getT, binInt, binStr, binBool, aUn, outA, resA, mapO, resA1, oneOf, w1, w2, w3, bots, cond_true, cond_false, if_true, if_false, ite_true, ite_false, reduceIte, reduceCtorEq, implies_true, Nat.reduceAdd, Nat.reduceSub, AV.int, AV.bool, AV.str, Nat.reduceBEq, Nat.reduceEqDiff, Nat.reduceMul, Nat.reduceLT, Nat.reduceLeDiff, Int.reduceNeg, BEq.rfl, beq_self_eq_true, tabl, cellsOf, fldA, ldA, stA, entAt, partA, takeN, over, leafOk, Value.oneCell', idxA, nilA, cellsEq, fillA, elemsA, pure1, pure2, reps, chkA, tys, Tryd.results79, KX_draw, KX_drawQ, KX_tail, lastO_one, lastO_more, dropL_one, dropL_more, callP_eq, callM_true, ext_mv1, e0, e1, e5, d2, d4, d5, digA, hx', hy', hp]
set_option maxRecDepth 100000 in
theorem R03_plus (a b : Nat) (ha : (dig a).length ≤ 100000) (hb : (dig b).length ≤ 100000) : cL Tryd.prog 64 [digA (dig a), digA (dig b)] S tk k = some (digA (dig (a + b)), S, tk, k) := by
  refine call_pure Tryd.func64 rfl rfl (by decide +kernel) (by decide +kernel) Tryd.ntmps64 rfl rfl _ _ _ rfl ?_; rw [RK_KX]
  simp (maxSteps := 1000000) +contextual (disch := first | with_reducible assumption | exact ⟨rfl⟩ | exact ⟨rfl, rfl⟩ | (refine _root_.id ?_; kernel_rfl) | omega) only [evs, ext_mv, nth, put, putT, getT, binInt, binStr, binBool, aUn, outA, resA, mapO, resA1, oneOf, w1, w2, w3, bots, cond_true, cond_false, if_true, if_false, ite_true, ite_false, reduceIte, reduceCtorEq, implies_true, Nat.reduceAdd, Nat.reduceSub, AV.int, AV.bool, AV.str, Nat.reduceBEq, Nat.reduceEqDiff, Nat.reduceMul, Nat.reduceLT, Nat.reduceLeDiff, Int.reduceNeg, BEq.rfl, beq_self_eq_true, tabl, cellsOf, fldA, ldA, stA, entAt, partA, takeN, over, leafOk, Value.oneCell', idxA, nilA, cellsEq, fillA, elemsA, pure1, pure2, reps, chkA, tys, Tryd.results64, KX_draw, KX_drawQ, KX_tail, lastO_one, lastO_more, dropL_one, dropL_more, callP_eq, callM_true, ext_mv1, digA]
  refine loop1 (fun x st => st.T.length = 53 ∧ (Sum1 a b x.1 x.2.1 x.2.2.1) ∧ (x.1 ≤ 100001) ∧ (okCap st.tk x.2.2.2 1 = true) ∧ (x.1 = 100001 → x.2.1 = 0) ∧ getT st.T 0 = digA (dig a) ∧ getT st.T 1 = digA (dig b) ∧ getT st.T 5 = .frz (x.2.2.1.map digC) x.2.2.2 ∧ getT st.T 6 = .int x.2.1 ∧ getT st.T 7 = .int (x.1 : Nat) ∧ st.S = []) (fun x => 2 * (max (dig a).length (dig b).length - x.1) + x.2.1.toNat) (fun x => digA (dig (a + b))) (0, 0, [], .nilc) ?_ ?_
  case refine_2 => exact ⟨rfl, ⟨rfl, by intro d hd; simp at hd, by simp, by rw [List.drop_zero, List.drop_zero, val_dig, val_dig]; simp [val]⟩, by omega, rfl, fun _ => rfl, rfl, rfl, rfl, rfl, rfl, rfl⟩
  rintro ⟨i, w, out, c⟩ ⟨T, S', tk', n'⟩ ⟨hl, hp, hi, hok, hib, e0, e1, e5, e6, e7, eS⟩ IH
  simp only at hp hi hok hib e0 e1 e5 e6 e7 eS
  subst eS
  obtain ⟨g, hg, hT⟩ := tab_of hl
  rw [hg] at e0 e1 e5 e6 e7
  subst hT
  clear hg hl
  have hlen := hp.len
  have hr := rowsOk_dig out
  have hn : (out.map digC).length + 1 ≤ 1048576 := by simp; omega
  have hok' := okCap_new hok
  have hiw := wrap_add (i := i) (by omega)
  have hw0 := hp.c0
  obtain ⟨n, hn0⟩ : ∃ n, n = (nth (dig a) i).getD 0 + (nth (dig b) i).getD 0 + w := ⟨_, rfl⟩
  obtain ⟨hst, hn1, hn2, hm1, hm2⟩ := hp.step hn0
  have g1 := dig_getD a i
  have g2 := dig_getD b i
  have hwq : IntKind.i64.wrap (n.tdiv 10000) = n.tdiv 10000 := by
    have e1 : n.tdiv 10000 = n / 10000 := Int.tdiv_eq_ediv_of_nonneg (by omega)
    rw [e1, wrap_of (by unfold i64; omega)]
  have hz' : ¬ ((10000 : Int) = 0) := by omega
  have hdivn : n.tdiv 10000 = n / 10000 := Int.tdiv_eq_ediv_of_nonneg (by omega)
  by_cases ca : i < (dig a).length
  · have d1 : decide ((i : Int) < ((dig a).length : Int)) = true := by simpa using ca
    obtain ⟨x, hx⟩ := nth_some ca
    have hx' := nth_dig hx
    rw [hx, Option.getD_some] at hn0 g1
    have hw1 : IntKind.i64.wrap (w + x) = w + x := wrap_of (by unfold i64; omega)
    by_cases cb : i < (dig b).length
    · have d2 : decide ((i : Int) < ((dig b).length : Int)) = true := by simpa using cb
      obtain ⟨y, hy⟩ := nth_some cb
      have hy' := nth_dig hy
      rw [hy, Option.getD_some] at hn0 g2
      have hw2 : IntKind.i64.wrap (w + x + y) = n := by rw [wrap_of (by unfold i64; omega)]; omega
      simp (maxSteps := 1000000) +contextual (disch := first | with_reducible assumption | exact ⟨rfl⟩ | exact ⟨rfl, rfl⟩ | (refine _root_.id ?_; kernel_rfl) | omega) only [evs, ext_mv, nth, put, putT, getT, binInt, binStr, binBool, aUn, outA, resA, mapO, resA1, oneOf, w1, w2, w3, bots, cond_true, cond_false, if_true, if_false, ite_true, ite_false, reduceIte, reduceCtorEq, implies_true, Nat.reduceAdd, Nat.reduceSub, AV.int, AV.bool, AV.str, Nat.reduceBEq, Nat.reduceEqDiff, Nat.reduceMul, Nat.reduceLT, Nat.reduceLeDiff, Int.reduceNeg, BEq.rfl, beq_self_eq_true, tabl, cellsOf, fldA, ldA, stA, entAt, partA, takeN, over, leafOk, Value.oneCell', idxA, nilA, cellsEq, fillA, elemsA, pure1, pure2, reps, chkA, tys, Tryd.results64, KX_draw, KX_drawQ, KX_tail, lastO_one, lastO_more, dropL_one, dropL_more, callP_eq, callM_true, ext_mv1, digA, e0, e1, e5, e6, e7, d1, d2, hx', hy', hw1, hw2, hwq, hr, hiw, hz']
      exact IH (i + 1, n.tdiv 10000, out ++ [n.tmod 10000], capNew tk' c 1) _ (by first | omega | (simp only; omega)) ⟨rfl, hst, by first | omega | (dsimp only; omega), hok', by first | omega | (dsimp only; omega), (by first | rfl | simp only [getT, List.map_append, List.map_cons, List.map_nil, digC, digA]), (by first | rfl | simp only [getT, List.map_append, List.map_cons, List.map_nil, digC, digA]), (by first | rfl | simp only [getT, List.map_append, List.map_cons, List.map_nil, digC, digA]), (by first | rfl | simp only [getT, List.map_append, List.map_cons, List.map_nil, digC, digA]), (by first | rfl | simp only [getT, List.map_append, List.map_cons, List.map_nil, digC, digA]), (by first | rfl | simp only [getT, List.map_append, List.map_cons, List.map_nil, digC, digA])⟩
    · have d2 : decide ((i : Int) < ((dig b).length : Int)) = false := by simpa using cb
      have hb0 : (nth (dig b) i).getD 0 = 0 := by rw [nth_get, List.getElem?_eq_none (by omega)]; rfl
      have hw1' : IntKind.i64.wrap (w + x) = n := by rw [hw1]; omega
      simp (maxSteps := 1000000) +contextual (disch := first | with_reducible assumption | exact ⟨rfl⟩ | exact ⟨rfl, rfl⟩ | (refine _root_.id ?_; kernel_rfl) | omega) only [evs, ext_mv, nth, put, putT, getT, binInt, binStr, binBool, aUn, outA, resA, mapO, resA1, oneOf, w1, w2, w3, bots, cond_true, cond_false, if_true, if_false, ite_true, ite_false, reduceIte, reduceCtorEq, implies_true, Nat.reduceAdd, Nat.reduceSub, AV.int, AV.bool, AV.str, Nat.reduceBEq, Nat.reduceEqDiff, Nat.reduceMul, Nat.reduceLT, Nat.reduceLeDiff, Int.reduceNeg, BEq.rfl, beq_self_eq_true, tabl, cellsOf, fldA, ldA, stA, entAt, partA, takeN, over, leafOk, Value.oneCell', idxA, nilA, cellsEq, fillA, elemsA, pure1, pure2, reps, chkA, tys, Tryd.results64, KX_draw, KX_drawQ, KX_tail, lastO_one, lastO_more, dropL_one, dropL_more, callP_eq, callM_true, ext_mv1, digA, e0, e1, e5, e6, e7, d1, d2, hx', hw1', hwq, hr, hiw, hz']
      exact IH (i + 1, n.tdiv 10000, out ++ [n.tmod 10000], capNew tk' c 1) _ (by first | omega | (simp only; omega)) ⟨rfl, hst, by first | omega | (dsimp only; omega), hok', by first | omega | (dsimp only; omega), (by first | rfl | simp only [getT, List.map_append, List.map_cons, List.map_nil, digC, digA]), (by first | rfl | simp only [getT, List.map_append, List.map_cons, List.map_nil, digC, digA]), (by first | rfl | simp only [getT, List.map_append, List.map_cons, List.map_nil, digC, digA]), (by first | rfl | simp only [getT, List.map_append, List.map_cons, List.map_nil, digC, digA]), (by first | rfl | simp only [getT, List.map_append, List.map_cons, List.map_nil, digC, digA]), (by first | rfl | simp only [getT, List.map_append, List.map_cons, List.map_nil, digC, digA])⟩
  · have d1 : decide ((i : Int) < ((dig a).length : Int)) = false := by simpa using ca
    have ha0 : (nth (dig a) i).getD 0 = 0 := by rw [nth_get, List.getElem?_eq_none (by omega)]; rfl
    by_cases cb : i < (dig b).length
    · have d2 : decide ((i : Int) < ((dig b).length : Int)) = true := by simpa using cb
      obtain ⟨y, hy⟩ := nth_some cb
      have hy' := nth_dig hy
      rw [hy, Option.getD_some] at hn0 g2
      have hw2 : IntKind.i64.wrap (w + y) = n := by rw [wrap_of (by unfold i64; omega)]; omega
      simp (maxSteps := 1000000) +contextual (disch := first | with_reducible assumption | exact ⟨rfl⟩ | exact ⟨rfl, rfl⟩ | (refine _root_.id ?_; kernel_rfl) | omega) only [evs, ext_mv, nth, put, putT, getT, binInt, binStr, binBool, aUn, outA, resA, mapO, resA1, oneOf, w1, w2, w3, bots, cond_true, cond_false, if_true, if_false, ite_true, ite_false, reduceIte, reduceCtorEq, implies_true, Nat.reduceAdd, Nat.reduceSub, AV.int, AV.bool, AV.str, Nat.reduceBEq, Nat.reduceEqDiff, Nat.reduceMul, Nat.reduceLT, Nat.reduceLeDiff, Int.reduceNeg, BEq.rfl, beq_self_eq_true, tabl, cellsOf, fldA, ldA, stA, entAt, partA, takeN, over, leafOk, Value.oneCell', idxA, nilA, cellsEq, fillA, elemsA, pure1, pure2, reps, chkA, tys, Tryd.results64, KX_draw, KX_drawQ, KX_tail, lastO_one, lastO_more, dropL_one, dropL_more, callP_eq, callM_true, ext_mv1, digA, e0, e1, e5, e6, e7, d1, d2, hy', hw2, hwq, hr, hiw, hz']
      exact IH (i + 1, n.tdiv 10000, out ++ [n.tmod 10000], capNew tk' c 1) _ (by first | omega | (simp only; omega)) ⟨rfl, hst, by first | omega | (dsimp only; omega), hok', by first | omega | (dsimp only; omega), (by first | rfl | simp only [getT, List.map_append, List.map_cons, List.map_nil, digC, digA]), (by first | rfl | simp only [getT, List.map_append, List.map_cons, List.map_nil, digC, digA]), (by first | rfl | simp only [getT, List.map_append, List.map_cons, List.map_nil, digC, digA]), (by first | rfl | simp only [getT, List.map_append, List.map_cons, List.map_nil, digC, digA]), (by first | rfl | simp only [getT, List.map_append, List.map_cons, List.map_nil, digC, digA]), (by first | rfl | simp only [getT, List.map_append, List.map_cons, List.map_nil, digC, digA])⟩
    · have d2 : decide ((i : Int) < ((dig b).length : Int)) = false := by simpa using cb
      have hb0 : (nth (dig b) i).getD 0 = 0 := by rw [nth_get, List.getElem?_eq_none (by omega)]; rfl
      by_cases cw : w > 0
      · have d3 : decide (w > 0) = true := by simpa using cw
        have hsmall : n = w := by omega
        subst hsmall
        simp (maxSteps := 1000000) +contextual (disch := first | with_reducible assumption | exact ⟨rfl⟩ | exact ⟨rfl, rfl⟩ | (refine _root_.id ?_; kernel_rfl) | omega) only [evs, ext_mv, nth, put, putT, getT, binInt, binStr, binBool, aUn, outA, resA, mapO, resA1, oneOf, w1, w2, w3, bots, cond_true, cond_false, if_true, if_false, ite_true, ite_false, reduceIte, reduceCtorEq, implies_true, Nat.reduceAdd, Nat.reduceSub, AV.int, AV.bool, AV.str, Nat.reduceBEq, Nat.reduceEqDiff, Nat.reduceMul, Nat.reduceLT, Nat.reduceLeDiff, Int.reduceNeg, BEq.rfl, beq_self_eq_true, tabl, cellsOf, fldA, ldA, stA, entAt, partA, takeN, over, leafOk, Value.oneCell', idxA, nilA, cellsEq, fillA, elemsA, pure1, pure2, reps, chkA, tys, Tryd.results64, KX_draw, KX_drawQ, KX_tail, lastO_one, lastO_more, dropL_one, dropL_more, callP_eq, callM_true, ext_mv1, digA, e0, e1, e5, e6, e7, d1, d2, d3, hwq, hr, hiw, hz']
        exact IH (i + 1, n.tdiv 10000, out ++ [n.tmod 10000], capNew tk' c 1) _ (by first | omega | (simp only; omega)) ⟨rfl, hst, by first | omega | (dsimp only; omega), hok', by first | omega | (dsimp only; omega), (by first | rfl | simp only [getT, List.map_append, List.map_cons, List.map_nil, digC, digA]), (by first | rfl | simp only [getT, List.map_append, List.map_cons, List.map_nil, digC, digA]), (by first | rfl | simp only [getT, List.map_append, List.map_cons, List.map_nil, digC, digA]), (by first | rfl | simp only [getT, List.map_append, List.map_cons, List.map_nil, digC, digA]), (by first | rfl | simp only [getT, List.map_append, List.map_cons, List.map_nil, digC, digA]), (by first | rfl | simp only [getT, List.map_append, List.map_cons, List.map_nil, digC, digA])⟩
      · have d3 : decide (w > 0) = false := by simpa using cw
        have hdone := hp.done (by omega) (by omega) (by omega)
        have hT := fun S tk k => R03_trim S tk k out c (by omega)
        simp only [digA, hdone] at hT
        simp (maxSteps := 1000000) +contextual (disch := first | with_reducible assumption | exact ⟨rfl⟩ | exact ⟨rfl, rfl⟩ | (refine _root_.id ?_; kernel_rfl) | omega) only [evs, ext_mv, nth, put, putT, getT, binInt, binStr, binBool, aUn, outA, resA, mapO, resA1, oneOf, w1, w2, w3, bots, cond_true, cond_false, if_true, if_false, ite_true, ite_false, reduceIte, reduceCtorEq, implies_true, Nat.reduceAdd, Nat.reduceSub, AV.int, AV.bool, AV.str, Nat.reduceBEq, Nat.reduceEqDiff, Nat.reduceMul, Nat.reduceLT, Nat.reduceLeDiff, Int.reduceNeg, BEq.rfl, beq_self_eq_true, tabl, cellsOf, fldA, ldA, stA, entAt, partA, takeN, over, leafOk, Value.oneCell', idxA, nilA, cellsEq, fillA, elemsA, pure1, pure2, reps, chkA, tys, Tryd.results64, KX_draw, KX_drawQ, KX_tail, lastO_one, lastO_more, dropL_one, dropL_more, callP_eq, callM_true, ext_mv1, digA, e0, e1, e5, e6, e7, d1, d2, d3, hT]
end
end Go.Proofs.YtgadegdhfjnoaaaDoor
/-
  What the functions of the reference of the fractions compute: differences.
-/

namespace Go.Proofs.YtgadegdhfjnoaaaDoor
open Go
section
variable (S : List Ent) (tk : List Nat) (k : Nat)
set_option maxRecDepth 100000 in
theorem R03_minus (a b : Nat) (hab : b ≤ a) (ha : (dig a).length ≤ 100000) : cL Tryd.prog 80 [digA (dig a), digA (dig b)] S tk k = some (digA (dig (a - b)), S, tk, k) := by
  have hlb : (dig b).length ≤ (dig a).length := dig_len.2 (Nat.lt_of_le_of_lt hab (dig_len.1 (Nat.le_refl _)))
  refine call_pure Tryd.func80 rfl rfl (by decide +kernel) (by decide +kernel) Tryd.ntmps80 rfl rfl _ _ _ rfl ?_; rw [RK_KX]
  simp (maxSteps := 1000000) +contextual (disch := first | with_reducible assumption | exact ⟨rfl⟩ | exact ⟨rfl, rfl⟩ | (refine _root_.id ?_; kernel_rfl) | omega) only [evs, ext_mv, nth, put, putT, getT, binInt, binStr, binBool, aUn, outA, resA, mapO, resA1, oneOf, w1, w2, w3, bots, cond_true, cond_false, if_true, if_false, ite_true, ite_false, reduceIte, reduceCtorEq, implies_true, Nat.reduceAdd, Nat.reduceSub, AV.int, AV.bool, AV.str, Nat.reduceBEq, Nat.reduceEqDiff, Nat.reduceMul, Nat.reduceLT, Nat.reduceLeDiff, Int.reduceNeg, BEq.rfl, beq_self_eq_true, tabl, cellsOf, fldA, ldA, stA, entAt, partA, takeN, over, leafOk, Value.oneCell', idxA, nilA, cellsEq, fillA, elemsA, pure1, pure2, reps, chkA, tys, Tryd.results80, KX_draw, KX_drawQ, KX_tail, lastO_one, lastO_more, dropL_one, dropL_more, callP_eq, callM_true, ext_mv1, digA]
  refine loop1 (fun x st => st.T.length = 41 ∧ (x.1 ≤ (dig a).length) ∧ (LessI (dig a) (dig b) x.1 x.2.1 x.2.2.1) ∧ (okCap st.tk x.2.2.2 1 = true) ∧ getT st.T 0 = digA (dig a) ∧ getT st.T 1 = digA (dig b) ∧ getT st.T 5 = .frz (x.2.1.map digC) x.2.2.2 ∧ getT st.T 6 = .int x.2.2.1 ∧ getT st.T 7 = .int (x.1 : Nat) ∧ st.S = []) (fun x => (dig a).length - x.1) (fun x => digA (dig (a - b))) (0, [], 0, .nilc) ?_ ?_
  case refine_2 => exact ⟨rfl, Nat.zero_le _, LessI.start _ _, rfl, rfl, rfl, rfl, rfl, rfl, rfl⟩
  rintro ⟨i, zs, c, cp⟩ ⟨T, S', tk', n'⟩ ⟨hl, hi, hI, hok, e0, e1, e5, e6, e7, eS⟩ IH
  simp only at hi hI hok e0 e1 e5 e6 e7 eS
  subst eS
  obtain ⟨g, hg, hT⟩ := tab_of hl
  rw [hg] at e0 e1 e5 e6 e7
  subst hT
  clear hg hl
  have hiw := wrap_add (i := i) (by omega)
  have hzl := hI.len
  have hr := rowsOk_dig zs
  have hc := hI.c01
  have hok' := okCap_new hok
  have hn1 : (zs.map digC).length + 1 ≤ 1048576 := by simp; omega
  by_cases hlt : i < (dig a).length
  · have d2 : decide ((i : Int) < ((dig a).length : Int)) = true := by simpa using hlt
    obtain ⟨x, hx⟩ := nth_some hlt
    have hx' := nth_dig hx
    have hxk := of_okD (okD_dig a) hx
    have hw1 : IntKind.i64.wrap (x - c) = x - c := wrap_of (by unfold i64; omega)
    by_cases hm : i < (dig b).length
    · have d3 : decide ((i : Int) < ((dig b).length : Int)) = true := by simpa using hm
      obtain ⟨y, hy⟩ := nth_some hm
      have hy' := nth_dig hy
      have hyk := of_okD (okD_dig b) hy
      have hyg : y = (nth (dig b) i).getD 0 := by rw [hy]; rfl
      have hw2 : IntKind.i64.wrap (x - c - y) = x - c - y := wrap_of (by unfold i64; omega)
      by_cases hneg : x - c - y < 0
      · have d4 : decide (x - c - y < 0) = true := by simpa using hneg
        have hw3 : IntKind.i64.wrap (x - c - y + 10000) = x - c - y + 10000 := wrap_of (by unfold i64; omega)
        simp (maxSteps := 1000000) +contextual (disch := first | with_reducible assumption | exact ⟨rfl⟩ | exact ⟨rfl, rfl⟩ | (refine _root_.id ?_; kernel_rfl) | omega) only [evs, ext_mv, nth, put, putT, getT, binInt, binStr, binBool, aUn, outA, resA, mapO, resA1, oneOf, w1, w2, w3, bots, cond_true, cond_false, if_true, if_false, ite_true, ite_false, reduceIte, reduceCtorEq, implies_true, Nat.reduceAdd, Nat.reduceSub, AV.int, AV.bool, AV.str, Nat.reduceBEq, Nat.reduceEqDiff, Nat.reduceMul, Nat.reduceLT, Nat.reduceLeDiff, Int.reduceNeg, BEq.rfl, beq_self_eq_true, tabl, cellsOf, fldA, ldA, stA, entAt, partA, takeN, over, leafOk, Value.oneCell', idxA, nilA, cellsEq, fillA, elemsA, pure1, pure2, reps, chkA, tys, Tryd.results80, KX_draw, KX_drawQ, KX_tail, lastO_one, lastO_more, dropL_one, dropL_more, callP_eq, callM_true, ext_mv1, e0, e1, e5, e6, e7, digA, d2, d3, d4, hx', hy', hiw, hw1, hw2, hw3, hr]
        exact IH (i + 1, zs ++ [x - c - y + 10000], 1, capNew tk' cp 1) _ (by first | omega | (simp only; omega)) ⟨rfl, by first | omega | (dsimp only; omega), hI.step hx hyg (by first | omega | (dsimp only; omega)) (.inr rfl) (by first | omega | (dsimp only; omega)), hok', (by first | rfl | simp only [getT, List.map_append, List.map_cons, List.map_nil, digC, digA]), (by first | rfl | simp only [getT, List.map_append, List.map_cons, List.map_nil, digC, digA]), (by first | rfl | simp only [getT, List.map_append, List.map_cons, List.map_nil, digC, digA]), (by first | rfl | simp only [getT, List.map_append, List.map_cons, List.map_nil, digC, digA]), (by first | rfl | simp only [getT, List.map_append, List.map_cons, List.map_nil, digC, digA]), (by first | rfl | simp only [getT, List.map_append, List.map_cons, List.map_nil, digC, digA])⟩
      · have d4 : decide (x - c - y < 0) = false := by simpa using hneg
        simp (maxSteps := 1000000) +contextual (disch := first | with_reducible assumption | exact ⟨rfl⟩ | exact ⟨rfl, rfl⟩ | (refine _root_.id ?_; kernel_rfl) | omega) only [evs, ext_mv, nth, put, putT, getT, binInt, binStr, binBool, aUn, outA, resA, mapO, resA1, oneOf, w1, w2, w3, bots, cond_true, cond_false, if_true, if_false, ite_true, ite_false, reduceIte, reduceCtorEq, implies_true, Nat.reduceAdd, Nat.reduceSub, AV.int, AV.bool, AV.str, Nat.reduceBEq, Nat.reduceEqDiff, Nat.reduceMul, Nat.reduceLT, Nat.reduceLeDiff, Int.reduceNeg, BEq.rfl, beq_self_eq_true, tabl, cellsOf, fldA, ldA, stA, entAt, partA, takeN, over, leafOk, Value.oneCell', idxA, nilA, cellsEq, fillA, elemsA, pure1, pure2, reps, chkA, tys, Tryd.results80, KX_draw, KX_drawQ, KX_tail, lastO_one, lastO_more, dropL_one, dropL_more, callP_eq, callM_true, ext_mv1, e0, e1, e5, e6, e7, digA, d2, d3, d4, hx', hy', hiw, hw1, hw2, hr]
        exact IH (i + 1, zs ++ [x - c - y], 0, capNew tk' cp 1) _ (by first | omega | (simp only; omega)) ⟨rfl, by first | omega | (dsimp only; omega), hI.step hx hyg (by first | omega | (dsimp only; omega)) (.inl rfl) (by first | omega | (dsimp only; omega)), hok', (by first | rfl | simp only [getT, List.map_append, List.map_cons, List.map_nil, digC, digA]), (by first | rfl | simp only [getT, List.map_append, List.map_cons, List.map_nil, digC, digA]), (by first | rfl | simp only [getT, List.map_append, List.map_cons, List.map_nil, digC, digA]), (by first | rfl | simp only [getT, List.map_append, List.map_cons, List.map_nil, digC, digA]), (by first | rfl | simp only [getT, List.map_append, List.map_cons, List.map_nil, digC, digA]), (by first | rfl | simp only [getT, List.map_append, List.map_cons, List.map_nil, digC, digA])⟩
    · have d3 : decide ((i : Int) < ((dig b).length : Int)) = false := by simpa using hm
      have hyg : (0 : Int) = (nth (dig b) i).getD 0 := by rw [nth_get, List.getElem?_eq_none (by omega)]; rfl
      by_cases hneg : x - c < 0
      · have d4 : decide (x - c < 0) = true := by simpa using hneg
        have hw3 : IntKind.i64.wrap (x - c + 10000) = x - c + 10000 := wrap_of (by unfold i64; omega)
        simp (maxSteps := 1000000) +contextual (disch := first | with_reducible assumption | exact ⟨rfl⟩ | exact ⟨rfl, rfl⟩ | (refine _root_.id ?_; kernel_rfl) | omega) only [evs, ext_mv, nth, put, putT, getT, binInt, binStr, binBool, aUn, outA, resA, mapO, resA1, oneOf, w1, w2, w3, bots, cond_true, cond_false, if_true, if_false, ite_true, ite_false, reduceIte, reduceCtorEq, implies_true, Nat.reduceAdd, Nat.reduceSub, AV.int, AV.bool, AV.str, Nat.reduceBEq, Nat.reduceEqDiff, Nat.reduceMul, Nat.reduceLT, Nat.reduceLeDiff, Int.reduceNeg, BEq.rfl, beq_self_eq_true, tabl, cellsOf, fldA, ldA, stA, entAt, partA, takeN, over, leafOk, Value.oneCell', idxA, nilA, cellsEq, fillA, elemsA, pure1, pure2, reps, chkA, tys, Tryd.results80, KX_draw, KX_drawQ, KX_tail, lastO_one, lastO_more, dropL_one, dropL_more, callP_eq, callM_true, ext_mv1, e0, e1, e5, e6, e7, digA, d2, d3, d4, hx', hiw, hw1, hw3, hr]
        exact IH (i + 1, zs ++ [x - c + 10000], 1, capNew tk' cp 1) _ (by first | omega | (simp only; omega)) ⟨rfl, by first | omega | (dsimp only; omega), hI.step hx hyg (by first | omega | (dsimp only; omega)) (.inr rfl) (by first | omega | (dsimp only; omega)), hok', (by first | rfl | simp only [getT, List.map_append, List.map_cons, List.map_nil, digC, digA]), (by first | rfl | simp only [getT, List.map_append, List.map_cons, List.map_nil, digC, digA]), (by first | rfl | simp only [getT, List.map_append, List.map_cons, List.map_nil, digC, digA]), (by first | rfl | simp only [getT, List.map_append, List.map_cons, List.map_nil, digC, digA]), (by first | rfl | simp only [getT, List.map_append, List.map_cons, List.map_nil, digC, digA]), (by first | rfl | simp only [getT, List.map_append, List.map_cons, List.map_nil, digC, digA])⟩
      · have d4 : decide (x - c < 0) = false := by simpa using hneg
        simp (maxSteps := 1000000) +contextual (disch := first | with_reducible assumption | exact ⟨rfl⟩ | exact ⟨rfl, rfl⟩ | (refine _root_.id ?_; kernel_rfl) | omega) only [evs, ext_mv, nth, put, putT, getT, binInt, binStr, binBool, aUn, outA, resA, mapO, resA1, oneOf, w1, w2, w3, bots, cond_true, cond_false, if_true, if_false, ite_true, ite_false, reduceIte, reduceCtorEq, implies_true, Nat.reduceAdd, Nat.reduceSub, AV.int, AV.bool, AV.str, Nat.reduceBEq, Nat.reduceEqDiff, Nat.reduceMul, Nat.reduceLT, Nat.reduceLeDiff, Int.reduceNeg, BEq.rfl, beq_self_eq_true, tabl, cellsOf, fldA, ldA, stA, entAt, partA, takeN, over, leafOk, Value.oneCell', idxA, nilA, cellsEq, fillA, elemsA, pure1, pure2, reps, chkA, tys, Tryd.results80, KX_draw, KX_drawQ, KX_tail, lastO_one, lastO_more, dropL_one, dropL_more, callP_eq, callM_true, ext_mv1, e0, e1, e5, e6, e7, digA, d2, d3, d4, hx', hiw, hw1, hr]
        exact IH (i + 1, zs ++ [x - c], 0, capNew tk' cp 1) _ (by first | omega | (simp only; omega)) ⟨rfl, by first | omega | (dsimp only; omega), hI.step hx hyg (by first | omega | (dsimp only; omega)) (.inl rfl) (by first | omega | (dsimp only; omega)), hok', (by first | rfl | simp only [getT, List.map_append, List.map_cons, List.map_nil, digC, digA]), (by first | rfl | simp only [getT, List.map_append, List.map_cons, List.map_nil, digC, digA]), (by first | rfl | simp only [getT, List.map_append, List.map_cons, List.map_nil, digC, digA]), (by first | rfl | simp only [getT, List.map_append, List.map_cons, List.map_nil, digC, digA]), (by first | rfl | simp only [getT, List.map_append, List.map_cons, List.map_nil, digC, digA]), (by first | rfl | simp only [getT, List.map_append, List.map_cons, List.map_nil, digC, digA])⟩
  · have d2 : decide ((i : Int) < ((dig a).length : Int)) = false := by simpa using hlt
    have hie : i = (dig a).length := by omega
    subst hie
    have hT := fun c' S tk k => R03_trim S tk k zs c' (by omega)
    rw [hI.done hab] at hT
    simp only [digC, digA] at hT
    simp (maxSteps := 1000000) +contextual (disch := first | with_reducible assumption | exact ⟨rfl⟩ | exact ⟨rfl, rfl⟩ | (refine _root_.id ?_; kernel_rfl) | omega) only [evs, ext_mv, nth, put, putT, getT, binInt, binStr, binBool, aUn, outA, resA, mapO, resA1, oneOf, w1, w2, w3, bots, cond_true, cond_false, if_true, if_false, ite_true, ite_false, reduceIte, reduceCtorEq, implies_true, Nat.reduceAdd, Nat.reduceSub, AV.int, AV.bool, AV.str, Nat.reduceBEq, Nat.reduceEqDiff, Nat.reduceMul, Nat.reduceLT, Nat.reduceLeDiff, Int.reduceNeg, BEq.rfl, beq_self_eq_true, tabl, cellsOf, fldA, ldA, stA, entAt, partA, takeN, over, leafOk, Value.oneCell', idxA, nilA, cellsEq, fillA, elemsA, pure1, pure2, reps, chkA, tys, Tryd.results80, KX_draw, KX_drawQ, KX_tail, lastO_one, lastO_more, dropL_one, dropL_more, callP_eq, callM_true, ext_mv1, e0, e1, e5, e6, e7, digA, d2, hT]
end
end Go.Proofs.YtgadegdhfjnoaaaDoor
/-
  What the functions of the reference of the fractions compute: sums of whole numbers.
-/

namespace Go.Proofs.YtgadegdhfjnoaaaDoor
open Go
theorem zA_sub' {p q : Bool} (h : p ≠ q) {X Y : Nat} (hl : Y ≤ X) : bigA (p && !decide (dig (X - Y) = [])) (dig (X - Y)) = zA (sg p X + sg q Y) := by
  rw [← add_ge h hl, zA_sg (fun e => by rw [e, dig_zero]; simp)]
  congr 1
  by_cases h0 : X - Y = 0
  · rw [h0]; cases p <;> simp [sg]
  · have : ¬ dig (X - Y) = [] := fun e => h0 (dig_nil.1 e)
    simp [this]
section
variable (S : List Ent) (tk : List Nat) (k : Nat)
theorem R03_whole (x y : Int) (hx : (dig x.natAbs).length ≤ 90000) (hy : (dig y.natAbs).length ≤ 90000) : cL Tryd.prog 59 [zA x, zA y] S tk k = some (zA (x + y), S, tk, k) := by
  refine call_pure Tryd.func59 rfl rfl (by decide +kernel) (by decide +kernel) Tryd.ntmps59 rfl rfl _ _ _ (rfl) ?_; rw [RK_KX]
  have hL := fun S tk k => R03_less S tk k x.natAbs y.natAbs (by omega) (by omega)
  have hs := sg_zA x
  have ht := sg_zA y
  by_cases hpq : decide (x < 0) = decide (y < 0)
  · obtain ⟨h1, h2⟩ := neg_add_same hpq
    have hP := fun S tk k => R03_plus S tk k x.natAbs y.natAbs (by omega) (by omega)
    have d1 : (decide (x < 0) == decide (y < 0)) = true := by simpa using hpq
    simp only [zA, h1, h2]
    simp only [digA] at hP
    simp (maxSteps := 1000000) +contextual (disch := first | with_reducible assumption | exact ⟨rfl⟩ | exact ⟨rfl, rfl⟩ | (refine _root_.id ?_; kernel_rfl) | omega) only [evs, ext_mv, nth, put, putT, getT, binInt, binStr, binBool, aUn, outA, resA, mapO, resA1, oneOf, w1, w2, w3, bots, cond_true, cond_false, if_true, if_false, ite_true, ite_false, reduceIte, reduceCtorEq, implies_true, Nat.reduceAdd, Nat.reduceSub, AV.int, AV.bool, AV.str, Nat.reduceBEq, Nat.reduceEqDiff, Nat.reduceMul, Nat.reduceLT, Nat.reduceLeDiff, Int.reduceNeg, BEq.rfl, beq_self_eq_true, tabl, cellsOf, fldA, ldA, stA, entAt, partA, takeN, over, leafOk, Value.oneCell', idxA, nilA, cellsEq, fillA, elemsA, pure1, pure2, reps, chkA, tys, Tryd.results59, KX_draw, KX_drawQ, KX_tail, lastO_one, lastO_more, dropL_one, dropL_more, callP_eq, callM_true, ext_mv1, bigA, digA, d1, hP]
  · have d1 : (decide (x < 0) == decide (y < 0)) = false := by simpa using hpq
    by_cases hlt : x.natAbs < y.natAbs
    · have d2 : decide (x.natAbs < y.natAbs) = true := by simpa using hlt
      have hM := fun S tk k => R03_minus S tk k y.natAbs x.natAbs (by omega) (by omega)
      have hz := zA_sub' (p := decide (y < 0)) (q := decide (x < 0)) (fun e => hpq e.symm) (X := y.natAbs) (Y := x.natAbs) (by omega)
      have hp := dlen_pos (y.natAbs - x.natAbs)
      rw [hs, ht, Int.add_comm] at hz
      rw [← hz]
      rw [d2] at hL
      simp only [digA] at hL hM
      cases d3 : decide (y < 0) with
      | true =>
        rw [d3] at d1
        simp (maxSteps := 1000000) +contextual (disch := first | with_reducible assumption | exact ⟨rfl⟩ | exact ⟨rfl, rfl⟩ | (refine _root_.id ?_; kernel_rfl) | omega) only [evs, ext_mv, nth, put, putT, getT, binInt, binStr, binBool, aUn, outA, resA, mapO, resA1, oneOf, w1, w2, w3, bots, cond_true, cond_false, if_true, if_false, ite_true, ite_false, reduceIte, reduceCtorEq, implies_true, Nat.reduceAdd, Nat.reduceSub, AV.int, AV.bool, AV.str, Nat.reduceBEq, Nat.reduceEqDiff, Nat.reduceMul, Nat.reduceLT, Nat.reduceLeDiff, Int.reduceNeg, BEq.rfl, beq_self_eq_true, tabl, cellsOf, fldA, ldA, stA, entAt, partA, takeN, over, leafOk, Value.oneCell', idxA, nilA, cellsEq, fillA, elemsA, pure1, pure2, reps, chkA, tys, Tryd.results59, KX_draw, KX_drawQ, KX_tail, lastO_one, lastO_more, dropL_one, dropL_more, callP_eq, callM_true, ext_mv1, zA, bigA, digA, d1, d3, hL, hM, hp, Bool.true_and, Bool.false_and]
      | false =>
        rw [d3] at d1
        simp (maxSteps := 1000000) +contextual (disch := first | with_reducible assumption | exact ⟨rfl⟩ | exact ⟨rfl, rfl⟩ | (refine _root_.id ?_; kernel_rfl) | omega) only [evs, ext_mv, nth, put, putT, getT, binInt, binStr, binBool, aUn, outA, resA, mapO, resA1, oneOf, w1, w2, w3, bots, cond_true, cond_false, if_true, if_false, ite_true, ite_false, reduceIte, reduceCtorEq, implies_true, Nat.reduceAdd, Nat.reduceSub, AV.int, AV.bool, AV.str, Nat.reduceBEq, Nat.reduceEqDiff, Nat.reduceMul, Nat.reduceLT, Nat.reduceLeDiff, Int.reduceNeg, BEq.rfl, beq_self_eq_true, tabl, cellsOf, fldA, ldA, stA, entAt, partA, takeN, over, leafOk, Value.oneCell', idxA, nilA, cellsEq, fillA, elemsA, pure1, pure2, reps, chkA, tys, Tryd.results59, KX_draw, KX_drawQ, KX_tail, lastO_one, lastO_more, dropL_one, dropL_more, callP_eq, callM_true, ext_mv1, zA, bigA, digA, d1, d3, hL, hM, hp, Bool.true_and, Bool.false_and]
    · have d2 : decide (x.natAbs < y.natAbs) = false := by simpa using hlt
      have hM := fun S tk k => R03_minus S tk k x.natAbs y.natAbs (by omega) (by omega)
      have hz := zA_sub' (p := decide (x < 0)) (q := decide (y < 0)) hpq (X := x.natAbs) (Y := y.natAbs) (by omega)
      have hp := dlen_pos (x.natAbs - y.natAbs)
      rw [hs, ht] at hz
      rw [← hz]
      rw [d2] at hL
      simp only [digA] at hL hM
      cases d3 : decide (x < 0) with
      | true =>
        rw [d3] at d1
        simp (maxSteps := 1000000) +contextual (disch := first | with_reducible assumption | exact ⟨rfl⟩ | exact ⟨rfl, rfl⟩ | (refine _root_.id ?_; kernel_rfl) | omega) only [evs, ext_mv, nth, put, putT, getT, binInt, binStr, binBool, aUn, outA, resA, mapO, resA1, oneOf, w1, w2, w3, bots, cond_true, cond_false, if_true, if_false, ite_true, ite_false, reduceIte, reduceCtorEq, implies_true, Nat.reduceAdd, Nat.reduceSub, AV.int, AV.bool, AV.str, Nat.reduceBEq, Nat.reduceEqDiff, Nat.reduceMul, Nat.reduceLT, Nat.reduceLeDiff, Int.reduceNeg, BEq.rfl, beq_self_eq_true, tabl, cellsOf, fldA, ldA, stA, entAt, partA, takeN, over, leafOk, Value.oneCell', idxA, nilA, cellsEq, fillA, elemsA, pure1, pure2, reps, chkA, tys, Tryd.results59, KX_draw, KX_drawQ, KX_tail, lastO_one, lastO_more, dropL_one, dropL_more, callP_eq, callM_true, ext_mv1, zA, bigA, digA, d1, d3, hL, hM, hp, Bool.true_and, Bool.false_and]
      | false =>
        rw [d3] at d1
        simp (maxSteps := 1000000) +contextual (disch := first | with_reducible assumption | exact ⟨rfl⟩ | exact ⟨rfl, rfl⟩ | (refine _root_.id ?_; kernel_rfl) | omega) only [evs, ext_mv, nth, put, putT, getT, binInt, binStr, binBool, aUn, outA, resA, mapO, resA1, oneOf, w1, w2, w3, bots, cond_true, cond_false, if_true, if_false, ite_true, ite_false, reduceIte, reduceCtorEq, implies_true, Nat.reduceAdd, Nat.reduceSub, AV.int, AV.bool, AV.str, Nat.reduceBEq, Nat.reduceEqDiff, Nat.reduceMul, Nat.reduceLT, Nat.reduceLeDiff, Int.reduceNeg, BEq.rfl, beq_self_eq_true, tabl, cellsOf, fldA, ldA, stA, entAt, partA, takeN, over, leafOk, Value.oneCell', idxA, nilA, cellsEq, fillA, elemsA, pure1, pure2, reps, chkA, tys, Tryd.results59, KX_draw, KX_drawQ, KX_tail, lastO_one, lastO_more, dropL_one, dropL_more, callP_eq, callM_true, ext_mv1, zA, bigA, digA, d1, d3, hL, hM, hp, Bool.true_and, Bool.false_and]
theorem R03_zero : cL Tryd.prog 78 [] S tk k = some (qA 0 1, S, tk, k) := by
  have h1' : dig 1 = [(1 : Int)] := dig_one (d := (1 : Int)) (by omega) (by omega)
  refine call_pure Tryd.func78 rfl rfl (by decide +kernel) (by decide +kernel) Tryd.ntmps78 rfl rfl _ _ _ (rfl) ?_; rw [RK_KX]
  simp (maxSteps := 1000000) +contextual (disch := first | with_reducible assumption | exact ⟨rfl⟩ | exact ⟨rfl, rfl⟩ | (refine _root_.id ?_; kernel_rfl) | omega) only [evs, ext_mv, nth, put, putT, getT, binInt, binStr, binBool, aUn, outA, resA, mapO, resA1, oneOf, w1, w2, w3, bots, cond_true, cond_false, if_true, if_false, ite_true, ite_false, reduceIte, reduceCtorEq, implies_true, Nat.reduceAdd, Nat.reduceSub, AV.int, AV.bool, AV.str, Nat.reduceBEq, Nat.reduceEqDiff, Nat.reduceMul, Nat.reduceLT, Nat.reduceLeDiff, Int.reduceNeg, BEq.rfl, beq_self_eq_true, tabl, cellsOf, fldA, ldA, stA, entAt, partA, takeN, over, leafOk, Value.oneCell', idxA, nilA, cellsEq, fillA, elemsA, pure1, pure2, reps, chkA, tys, Tryd.results78, KX_draw, KX_drawQ, KX_tail, lastO_one, lastO_more, dropL_one, dropL_more, callP_eq, callM_true, ext_mv1, qA, ratA, digA]
  simp [h1', dig_zero, digC]
theorem R03_Int (n : Int) (hn : i64 n) : cL Tryd.prog 17 [.int n] S tk k = some (qA n 1, S, tk, k) := by
  have h1' : dig 1 = [(1 : Int)] := dig_one (d := (1 : Int)) (by omega) (by omega)
  refine call_pure Tryd.func17 rfl rfl (by decide +kernel) (by decide +kernel) Tryd.ntmps17 rfl rfl _ _ _ (rfl) ?_; rw [RK_KX]
  have h1 := fun S tk k => R02_Of S tk k n hn
  simp only [zA, bigA, digA] at h1
  simp (maxSteps := 1000000) +contextual (disch := first | with_reducible assumption | exact ⟨rfl⟩ | exact ⟨rfl, rfl⟩ | (refine _root_.id ?_; kernel_rfl) | omega) only [evs, ext_mv, nth, put, putT, getT, binInt, binStr, binBool, aUn, outA, resA, mapO, resA1, oneOf, w1, w2, w3, bots, cond_true, cond_false, if_true, if_false, ite_true, ite_false, reduceIte, reduceCtorEq, implies_true, Nat.reduceAdd, Nat.reduceSub, AV.int, AV.bool, AV.str, Nat.reduceBEq, Nat.reduceEqDiff, Nat.reduceMul, Nat.reduceLT, Nat.reduceLeDiff, Int.reduceNeg, BEq.rfl, beq_self_eq_true, tabl, cellsOf, fldA, ldA, stA, entAt, partA, takeN, over, leafOk, Value.oneCell', idxA, nilA, cellsEq, fillA, elemsA, pure1, pure2, reps, chkA, tys, Tryd.results17, KX_draw, KX_drawQ, KX_tail, lastO_one, lastO_more, dropL_one, dropL_more, callP_eq, callM_true, ext_mv1, qA, ratA, digA, h1]
  simp [h1', digC]
end
end Go.Proofs.YtgadegdhfjnoaaaDoor
/-
  What the functions of the reference of the fractions compute: equal numbers and fractions.
-/

namespace Go.Proofs.YtgadegdhfjnoaaaDoor
open Go
section
variable (S : List Ent) (tk : List Nat) (k : Nat)
theorem R03_SameBig (p q : Bool) (l r : List Int) (hl0 : l.length ≤ 1000000) : cL Tryd.prog 22 [bigA p l, bigA q r] S tk k = some (.bool (decide (p = q ∧ l = r)), S, tk, k) := by
  refine call_pure Tryd.func22 rfl rfl (by decide +kernel) (by decide +kernel) Tryd.ntmps22 rfl rfl _ _ _ rfl ?_; rw [RK_KX]
  by_cases hpq : p = q
  case neg =>
    have d1 : (p != q) = true := by simpa using hpq
    simp (maxSteps := 1000000) +contextual (disch := first | with_reducible assumption | exact ⟨rfl⟩ | exact ⟨rfl, rfl⟩ | (refine _root_.id ?_; kernel_rfl) | omega) only [evs, ext_mv, nth, put, putT, getT, binInt, binStr, binBool, aUn, outA, resA, mapO, resA1, oneOf, w1, w2, w3, bots, cond_true, cond_false, if_true, if_false, ite_true, ite_false, reduceIte, reduceCtorEq, implies_true, Nat.reduceAdd, Nat.reduceSub, AV.int, AV.bool, AV.str, Nat.reduceBEq, Nat.reduceEqDiff, Nat.reduceMul, Nat.reduceLT, Nat.reduceLeDiff, Int.reduceNeg, BEq.rfl, beq_self_eq_true, tabl, cellsOf, fldA, ldA, stA, entAt, partA, takeN, over, leafOk, Value.oneCell', idxA, nilA, cellsEq, fillA, elemsA, pure1, pure2, reps, chkA, tys, Tryd.results22, KX_draw, KX_drawQ, KX_tail, lastO_one, lastO_more, dropL_one, dropL_more, callP_eq, callM_true, ext_mv1, bigA, digA, d1]
    simp [hpq]
  have d1 : (p != q) = false := by simpa using hpq
  by_cases hl : l.length = r.length
  case neg =>
    have d2 : ((l.length : Int) != (r.length : Int)) = true := by simp; omega
    have hne : l ≠ r := fun h => hl (by rw [h])
    simp (maxSteps := 1000000) +contextual (disch := first | with_reducible assumption | exact ⟨rfl⟩ | exact ⟨rfl, rfl⟩ | (refine _root_.id ?_; kernel_rfl) | omega) only [evs, ext_mv, nth, put, putT, getT, binInt, binStr, binBool, aUn, outA, resA, mapO, resA1, oneOf, w1, w2, w3, bots, cond_true, cond_false, if_true, if_false, ite_true, ite_false, reduceIte, reduceCtorEq, implies_true, Nat.reduceAdd, Nat.reduceSub, AV.int, AV.bool, AV.str, Nat.reduceBEq, Nat.reduceEqDiff, Nat.reduceMul, Nat.reduceLT, Nat.reduceLeDiff, Int.reduceNeg, BEq.rfl, beq_self_eq_true, tabl, cellsOf, fldA, ldA, stA, entAt, partA, takeN, over, leafOk, Value.oneCell', idxA, nilA, cellsEq, fillA, elemsA, pure1, pure2, reps, chkA, tys, Tryd.results22, KX_draw, KX_drawQ, KX_tail, lastO_one, lastO_more, dropL_one, dropL_more, callP_eq, callM_true, ext_mv1, bigA, digA, d1, d2]
    simp [hne]
  have d2 : ((l.length : Int) != (r.length : Int)) = false := by simp; omega
  subst hpq
  have hG : decide (p = p ∧ l = r) = decide (l = r) := by simp
  rw [hG]
  simp (maxSteps := 1000000) +contextual (disch := first | with_reducible assumption | exact ⟨rfl⟩ | exact ⟨rfl, rfl⟩ | (refine _root_.id ?_; kernel_rfl) | omega) only [evs, ext_mv, nth, put, putT, getT, binInt, binStr, binBool, aUn, outA, resA, mapO, resA1, oneOf, w1, w2, w3, bots, cond_true, cond_false, if_true, if_false, ite_true, ite_false, reduceIte, reduceCtorEq, implies_true, Nat.reduceAdd, Nat.reduceSub, AV.int, AV.bool, AV.str, Nat.reduceBEq, Nat.reduceEqDiff, Nat.reduceMul, Nat.reduceLT, Nat.reduceLeDiff, Int.reduceNeg, BEq.rfl, beq_self_eq_true, tabl, cellsOf, fldA, ldA, stA, entAt, partA, takeN, over, leafOk, Value.oneCell', idxA, nilA, cellsEq, fillA, elemsA, pure1, pure2, reps, chkA, tys, Tryd.results22, KX_draw, KX_drawQ, KX_tail, lastO_one, lastO_more, dropL_one, dropL_more, callP_eq, callM_true, ext_mv1, bigA, digA, d1, d2]
  refine loop1 (fun x st => st.T.length = 38 ∧ (x ≤ l.length) ∧ (∀ j, j < x → nth l j = nth r j) ∧ getT st.T 2 = .ref 0 0 0 ∧ getT st.T 3 = .ref 1 1 0 ∧ getT st.T 5 = .int (x : Nat) ∧ st.S = [⟨0, [.bool p, digA l]⟩, ⟨1, [.bool p, digA r]⟩]) (fun x => l.length - x) (fun x => .bool (decide (l = r))) (0) ?_ ?_
  case refine_2 => exact ⟨rfl, Nat.zero_le _, fun j hj => by omega, rfl, rfl, rfl, rfl⟩
  rintro i ⟨T, S', tk', n'⟩ ⟨hl, hi, he, e2, e3, e5, eS⟩ IH
  subst eS
  obtain ⟨g, hg, hT⟩ := tab_of hl
  rw [hg] at e2 e3 e5
  subst hT
  clear hg hl
  by_cases hlt : i < l.length
  · have d3 : decide ((i : Int) < (l.length : Int)) = true := by simpa using hlt
    obtain ⟨x, hx⟩ := nth_some hlt
    obtain ⟨y, hy⟩ := nth_some (show i < r.length by omega)
    have hx' := nth_dig hx
    have hy' := nth_dig hy
    have hw := wrap_add (i := i) (by omega)
    simp (maxSteps := 1000000) +contextual (disch := first | with_reducible assumption | exact ⟨rfl⟩ | exact ⟨rfl, rfl⟩ | (refine _root_.id ?_; kernel_rfl) | omega) only [evs, ext_mv, nth, put, putT, getT, binInt, binStr, binBool, aUn, outA, resA, mapO, resA1, oneOf, w1, w2, w3, bots, cond_true, cond_false, if_true, if_false, ite_true, ite_false, reduceIte, reduceCtorEq, implies_true, Nat.reduceAdd, Nat.reduceSub, AV.int, AV.bool, AV.str, Nat.reduceBEq, Nat.reduceEqDiff, Nat.reduceMul, Nat.reduceLT, Nat.reduceLeDiff, Int.reduceNeg, BEq.rfl, beq_self_eq_true, tabl, cellsOf, fldA, ldA, stA, entAt, partA, takeN, over, leafOk, Value.oneCell', idxA, nilA, cellsEq, fillA, elemsA, pure1, pure2, reps, chkA, tys, Tryd.results22, KX_draw, KX_drawQ, KX_tail, lastO_one, lastO_more, dropL_one, dropL_more, callP_eq, callM_true, ext_mv1, e2, e3, e5, d3, digA, hx', hy', hw]
    refine ⟨fun h1 => ?_, fun h1 => ?_⟩
    · have : l ≠ r := fun h => by rw [h, hy] at hx; simp at hx h1; exact h1 hx.symm
      simp [this]
    · exact IH (i + 1) _ (by first | omega | (simp only; omega)) ⟨rfl, hlt, fun j hj => by by_cases e : j = i; (· rw [e, hx, hy]; simpa using h1); exact he j (by first | omega | (dsimp only; omega)), (by first | rfl | simp only [getT, List.map_append, List.map_cons, List.map_nil, digC, digA]), (by first | rfl | simp only [getT, List.map_append, List.map_cons, List.map_nil, digC, digA]), (by first | rfl | simp only [getT, List.map_append, List.map_cons, List.map_nil, digC, digA]), (by first | rfl | simp only [getT, List.map_append, List.map_cons, List.map_nil, digC, digA])⟩
  · have d3 : decide ((i : Int) < (l.length : Int)) = false := by simpa using hlt
    have : l = r := List.ext_getElem? fun j => by
      by_cases hj : j < i
      · rw [← nth_get, ← nth_get]; exact he j hj
      · rw [List.getElem?_eq_none (by omega), List.getElem?_eq_none (by omega)]
    simp (maxSteps := 1000000) +contextual (disch := first | with_reducible assumption | exact ⟨rfl⟩ | exact ⟨rfl, rfl⟩ | (refine _root_.id ?_; kernel_rfl) | omega) only [evs, ext_mv, nth, put, putT, getT, binInt, binStr, binBool, aUn, outA, resA, mapO, resA1, oneOf, w1, w2, w3, bots, cond_true, cond_false, if_true, if_false, ite_true, ite_false, reduceIte, reduceCtorEq, implies_true, Nat.reduceAdd, Nat.reduceSub, AV.int, AV.bool, AV.str, Nat.reduceBEq, Nat.reduceEqDiff, Nat.reduceMul, Nat.reduceLT, Nat.reduceLeDiff, Int.reduceNeg, BEq.rfl, beq_self_eq_true, tabl, cellsOf, fldA, ldA, stA, entAt, partA, takeN, over, leafOk, Value.oneCell', idxA, nilA, cellsEq, fillA, elemsA, pure1, pure2, reps, chkA, tys, Tryd.results22, KX_draw, KX_drawQ, KX_tail, lastO_one, lastO_more, dropL_one, dropL_more, callP_eq, callM_true, ext_mv1, e2, e3, e5, d3, digA]
    simp [this]
theorem R03_Same (p1 : Bool) (l1 : List Int) (q1 : Bool) (r1 : List Int) (p2 : Bool) (l2 : List Int) (q2 : Bool) (r2 : List Int) (h1 : l1.length ≤ 1000000) (h2 : r1.length ≤ 1000000) : cL Tryd.prog 14 [ratA p1 l1 q1 r1, ratA p2 l2 q2 r2] S tk k = some (.bool (decide (p1 = p2 ∧ l1 = l2) && decide (q1 = q2 ∧ r1 = r2)), S, tk, k) := by
  have hA := fun S tk k => R03_SameBig S tk k p1 p2 l1 l2 h1
  have hB := fun S tk k => R03_SameBig S tk k q1 q2 r1 r2 h2
  refine call_pure Tryd.func14 rfl rfl (by decide +kernel) (by decide +kernel) Tryd.ntmps14 rfl rfl _ _ _ (rfl) ?_; rw [RK_KX]
  simp only [bigA, digA] at hA hB
  cases d1 : decide (p1 = p2 ∧ l1 = l2) with
  | true =>
    rw [d1] at hA
    simp (maxSteps := 1000000) +contextual (disch := first | with_reducible assumption | exact ⟨rfl⟩ | exact ⟨rfl, rfl⟩ | (refine _root_.id ?_; kernel_rfl) | omega) only [evs, ext_mv, nth, put, putT, getT, binInt, binStr, binBool, aUn, outA, resA, mapO, resA1, oneOf, w1, w2, w3, bots, cond_true, cond_false, if_true, if_false, ite_true, ite_false, reduceIte, reduceCtorEq, implies_true, Nat.reduceAdd, Nat.reduceSub, AV.int, AV.bool, AV.str, Nat.reduceBEq, Nat.reduceEqDiff, Nat.reduceMul, Nat.reduceLT, Nat.reduceLeDiff, Int.reduceNeg, BEq.rfl, beq_self_eq_true, tabl, cellsOf, fldA, ldA, stA, entAt, partA, takeN, over, leafOk, Value.oneCell', idxA, nilA, cellsEq, fillA, elemsA, pure1, pure2, reps, chkA, tys, Tryd.results14, KX_draw, KX_drawQ, KX_tail, lastO_one, lastO_more, dropL_one, dropL_more, callP_eq, callM_true, ext_mv1, ratA, digA, hA, hB, Bool.true_and]
  | false =>
    rw [d1] at hA
    simp (maxSteps := 1000000) +contextual (disch := first | with_reducible assumption | exact ⟨rfl⟩ | exact ⟨rfl, rfl⟩ | (refine _root_.id ?_; kernel_rfl) | omega) only [evs, ext_mv, nth, put, putT, getT, binInt, binStr, binBool, aUn, outA, resA, mapO, resA1, oneOf, w1, w2, w3, bots, cond_true, cond_false, if_true, if_false, ite_true, ite_false, reduceIte, reduceCtorEq, implies_true, Nat.reduceAdd, Nat.reduceSub, AV.int, AV.bool, AV.str, Nat.reduceBEq, Nat.reduceEqDiff, Nat.reduceMul, Nat.reduceLT, Nat.reduceLeDiff, Int.reduceNeg, BEq.rfl, beq_self_eq_true, tabl, cellsOf, fldA, ldA, stA, entAt, partA, takeN, over, leafOk, Value.oneCell', idxA, nilA, cellsEq, fillA, elemsA, pure1, pure2, reps, chkA, tys, Tryd.results14, KX_draw, KX_drawQ, KX_tail, lastO_one, lastO_more, dropL_one, dropL_more, callP_eq, callM_true, ext_mv1, ratA, digA, hA, hB, Bool.false_and]
theorem L03_frac (n d : Int) (hn : i64 n) (hd : i64 d) : cL Tryd.prog 41 [.int n, .int d] S tk k = some (qA n d, S, tk, k) := by
  refine call_pure Tryd.func41 rfl rfl (by decide +kernel) (by decide +kernel) Tryd.ntmps41 rfl rfl _ _ _ (rfl) ?_; rw [RK_KX]
  have h1 := fun S tk k => big_Of S tk k n hn
  have h2 := fun S tk k => big_Of S tk k d hd
  simp only [zA, bigA, digA] at h1 h2
  simp (maxSteps := 1000000) +contextual (disch := first | with_reducible assumption | exact ⟨rfl⟩ | exact ⟨rfl, rfl⟩ | (refine _root_.id ?_; kernel_rfl) | omega) only [evs, ext_mv, nth, put, putT, getT, binInt, binStr, binBool, aUn, outA, resA, mapO, resA1, oneOf, w1, w2, w3, bots, cond_true, cond_false, if_true, if_false, ite_true, ite_false, reduceIte, reduceCtorEq, implies_true, Nat.reduceAdd, Nat.reduceSub, AV.int, AV.bool, AV.str, Nat.reduceBEq, Nat.reduceEqDiff, Nat.reduceMul, Nat.reduceLT, Nat.reduceLeDiff, Int.reduceNeg, BEq.rfl, beq_self_eq_true, tabl, cellsOf, fldA, ldA, stA, entAt, partA, takeN, over, leafOk, Value.oneCell', idxA, nilA, cellsEq, fillA, elemsA, pure1, pure2, reps, chkA, tys, Tryd.results41, KX_draw, KX_drawQ, KX_tail, lastO_one, lastO_more, dropL_one, dropL_more, callP_eq, callM_true, ext_mv1, qA, ratA, digA, h1, h2]
end
end Go.Proofs.YtgadegdhfjnoaaaDoor
/-
  What the functions of the laws of the fractions compute: sizes.
-/

namespace Go.Proofs.YtgadegdhfjnoaaaDoor
open Go
def bigC (b : Bool × List Int) : List AV := [.prim (.bool b.1), .frz (b.2.map digC) .unk]
def fewF (bs : List (Bool × List Int)) : Bool := bs.all fun b => decide (b.2.length ≤ 210)
theorem nth_bigC {bs : List (Bool × List Int)} {i : Nat} {b : Bool × List Int} (h : nth bs i = some b) : nth (bs.map bigC) i = some [.prim (.bool b.1), .frz (b.2.map digC) .unk] := by
  rw [nth_get] at h ⊢
  rw [List.getElem?_map, h]; rfl
theorem few_all {bs : List (Bool × List Int)} (h : ∀ j, j < bs.length → ∀ b, nth bs j = some b → b.2.length ≤ 210) : fewF bs = true := by
  unfold fewF
  rw [List.all_eq_true]
  intro b hb
  obtain ⟨j, hj, e⟩ := List.mem_iff_getElem.1 hb
  simpa using h j hj b (by rw [nth_get, List.getElem?_eq_getElem hj, e])
theorem few_not {bs : List (Bool × List Int)} {i : Nat} {b : Bool × List Int} (h : nth bs i = some b) (hb : 210 < b.2.length) : fewF bs = false := by
  rw [Bool.eq_false_iff]
  intro hf
  unfold fewF at hf
  rw [List.all_eq_true] at hf
  have hm : b ∈ bs := by rw [nth_get] at h; exact List.mem_of_getElem? h
  have := hf b hm
  simp at this; omega
section
variable (S : List Ent) (tk : List Nat) (k : Nat)
theorem L03_few (bs : List (Bool × List Int)) (c : Cap) (hb : bs.length ≤ 1000) : cL Tryd.prog 10 [.frz (bs.map bigC) c] S tk k = some (.bool (fewF bs), S, tk, k) := by
  refine call_pure Tryd.func10 rfl rfl (by decide +kernel) (by decide +kernel) Tryd.ntmps10 rfl rfl _ _ _ rfl ?_; rw [RK_KX]
  have hr := rowsOk_map (f := bigC) (sz := 2) (fun _ => rfl) bs
  simp (maxSteps := 1000000) +contextual (disch := first | with_reducible assumption | exact ⟨rfl⟩ | exact ⟨rfl, rfl⟩ | (refine _root_.id ?_; kernel_rfl) | omega) only [evs, ext_mv, nth, put, putT, getT, binInt, binStr, binBool, aUn, outA, resA, mapO, resA1, oneOf, w1, w2, w3, bots, cond_true, cond_false, if_true, if_false, ite_true, ite_false, reduceIte, reduceCtorEq, implies_true, Nat.reduceAdd, Nat.reduceSub, AV.int, AV.bool, AV.str, Nat.reduceBEq, Nat.reduceEqDiff, Nat.reduceMul, Nat.reduceLT, Nat.reduceLeDiff, Int.reduceNeg, BEq.rfl, beq_self_eq_true, tabl, cellsOf, fldA, ldA, stA, entAt, partA, takeN, over, leafOk, Value.oneCell', idxA, nilA, cellsEq, fillA, elemsA, pure1, pure2, reps, chkA, tys, Tryd.results10, KX_draw, KX_drawQ, KX_tail, lastO_one, lastO_more, dropL_one, dropL_more, callP_eq, callM_true, ext_mv1, w2, w1]
  refine loop1 (fun x st => st.T.length = 17 ∧ (x ≤ bs.length) ∧ (∀ j, j < x → ∀ b, nth bs j = some b → b.2.length ≤ 210) ∧ getT st.T 0 = .frz (bs.map bigC) .unk ∧ getT st.T 3 = .int (x : Nat) ∧ st.S = []) (fun x => bs.length - x) (fun x => .bool (fewF bs)) (0) ?_ ?_
  case refine_2 => exact ⟨rfl, Nat.zero_le _, fun j hj => by omega, rfl, rfl, rfl⟩
  rintro i ⟨T, S', tk', n'⟩ ⟨hl, hi, he, e0, e3, eS⟩ IH
  subst eS
  obtain ⟨g, hg, hT⟩ := tab_of hl
  rw [hg] at e0 e3
  subst hT
  clear hg hl
  by_cases hlt : i < bs.length
  · have d3 : decide ((i : Int) < (bs.length : Int)) = true := by simpa using hlt
    obtain ⟨b, hx⟩ := nth_some hlt
    have hx' := nth_bigC hx
    have hw := wrap_add (i := i) (by omega)
    by_cases hl : 210 < b.2.length
    · have d4 : decide ((b.2.length : Int) > 210) = true := by simp; omega
      rw [few_not hx hl]
      simp (maxSteps := 1000000) +contextual (disch := first | with_reducible assumption | exact ⟨rfl⟩ | exact ⟨rfl, rfl⟩ | (refine _root_.id ?_; kernel_rfl) | omega) only [evs, ext_mv, nth, put, putT, getT, binInt, binStr, binBool, aUn, outA, resA, mapO, resA1, oneOf, w1, w2, w3, bots, cond_true, cond_false, if_true, if_false, ite_true, ite_false, reduceIte, reduceCtorEq, implies_true, Nat.reduceAdd, Nat.reduceSub, AV.int, AV.bool, AV.str, Nat.reduceBEq, Nat.reduceEqDiff, Nat.reduceMul, Nat.reduceLT, Nat.reduceLeDiff, Int.reduceNeg, BEq.rfl, beq_self_eq_true, tabl, cellsOf, fldA, ldA, stA, entAt, partA, takeN, over, leafOk, Value.oneCell', idxA, nilA, cellsEq, fillA, elemsA, pure1, pure2, reps, chkA, tys, Tryd.results10, KX_draw, KX_drawQ, KX_tail, lastO_one, lastO_more, dropL_one, dropL_more, callP_eq, callM_true, ext_mv1, e0, e3, d3, d4, hx', hw, hr]
    · have d4 : decide ((b.2.length : Int) > 210) = false := by simp; omega
      simp (maxSteps := 1000000) +contextual (disch := first | with_reducible assumption | exact ⟨rfl⟩ | exact ⟨rfl, rfl⟩ | (refine _root_.id ?_; kernel_rfl) | omega) only [evs, ext_mv, nth, put, putT, getT, binInt, binStr, binBool, aUn, outA, resA, mapO, resA1, oneOf, w1, w2, w3, bots, cond_true, cond_false, if_true, if_false, ite_true, ite_false, reduceIte, reduceCtorEq, implies_true, Nat.reduceAdd, Nat.reduceSub, AV.int, AV.bool, AV.str, Nat.reduceBEq, Nat.reduceEqDiff, Nat.reduceMul, Nat.reduceLT, Nat.reduceLeDiff, Int.reduceNeg, BEq.rfl, beq_self_eq_true, tabl, cellsOf, fldA, ldA, stA, entAt, partA, takeN, over, leafOk, Value.oneCell', idxA, nilA, cellsEq, fillA, elemsA, pure1, pure2, reps, chkA, tys, Tryd.results10, KX_draw, KX_drawQ, KX_tail, lastO_one, lastO_more, dropL_one, dropL_more, callP_eq, callM_true, ext_mv1, e0, e3, d3, d4, hx', hw, hr]
      exact IH (i + 1) _ (by first | omega | (simp only; omega)) ⟨rfl, hlt, fun j hj b' hb' => by by_cases e : j = i; (· subst e; rw [hx] at hb'; simp only [Option.some.injEq] at hb'; subst hb'; omega); exact he j (by first | omega | (dsimp only; omega)) b' hb', (by first | rfl | simp only [getT, List.map_append, List.map_cons, List.map_nil, digC, digA]), (by first | rfl | simp only [getT, List.map_append, List.map_cons, List.map_nil, digC, digA]), (by first | rfl | simp only [getT, List.map_append, List.map_cons, List.map_nil, digC, digA])⟩
  · have d3 : decide ((i : Int) < (bs.length : Int)) = false := by simpa using hlt
    rw [few_all fun j hj b hb => he j (by omega) b hb]
    simp (maxSteps := 1000000) +contextual (disch := first | with_reducible assumption | exact ⟨rfl⟩ | exact ⟨rfl, rfl⟩ | (refine _root_.id ?_; kernel_rfl) | omega) only [evs, ext_mv, nth, put, putT, getT, binInt, binStr, binBool, aUn, outA, resA, mapO, resA1, oneOf, w1, w2, w3, bots, cond_true, cond_false, if_true, if_false, ite_true, ite_false, reduceIte, reduceCtorEq, implies_true, Nat.reduceAdd, Nat.reduceSub, AV.int, AV.bool, AV.str, Nat.reduceBEq, Nat.reduceEqDiff, Nat.reduceMul, Nat.reduceLT, Nat.reduceLeDiff, Int.reduceNeg, BEq.rfl, beq_self_eq_true, tabl, cellsOf, fldA, ldA, stA, entAt, partA, takeN, over, leafOk, Value.oneCell', idxA, nilA, cellsEq, fillA, elemsA, pure1, pure2, reps, chkA, tys, Tryd.results10, KX_draw, KX_drawQ, KX_tail, lastO_one, lastO_more, dropL_one, dropL_more, callP_eq, callM_true, ext_mv1, e0, e3, d3]
end
end Go.Proofs.YtgadegdhfjnoaaaDoor
/-
  What the functions of the laws of the fractions compute: sizes of fractions.
-/

namespace Go.Proofs.YtgadegdhfjnoaaaDoor
open Go
/-- a fraction as it is given -/
structure RQ where
  p : Bool
  l : List Int
  q : Bool
  r : List Int
def ratC (x : RQ) : List AV := [.prim (.bool x.p), .frz (x.l.map digC) .unk, .prim (.bool x.q), .frz (x.r.map digC) .unk]
def lightR (x : RQ) : Bool := fewF [(x.p, x.l), (x.q, x.r)]
def lightF (xs : List RQ) : Bool := xs.all lightR
theorem nth_ratC {xs : List RQ} {i : Nat} {x : RQ} (h : nth xs i = some x) : nth (xs.map ratC) i = some [.prim (.bool x.p), .frz (x.l.map digC) .unk, .prim (.bool x.q), .frz (x.r.map digC) .unk] := by
  rw [nth_get] at h ⊢
  rw [List.getElem?_map, h]; rfl
theorem light_all {xs : List RQ} (h : ∀ j, j < xs.length → ∀ x, nth xs j = some x → lightR x = true) : lightF xs = true := by
  unfold lightF
  rw [List.all_eq_true]
  intro b hb
  obtain ⟨j, hj, e⟩ := List.mem_iff_getElem.1 hb
  exact h j hj b (by rw [nth_get, List.getElem?_eq_getElem hj, e])
theorem light_not {xs : List RQ} {i : Nat} {x : RQ} (h : nth xs i = some x) (hb : lightR x = false) : lightF xs = false := by
  rw [Bool.eq_false_iff]
  intro hf
  unfold lightF at hf
  rw [List.all_eq_true] at hf
  have hm : x ∈ xs := by rw [nth_get] at h; exact List.mem_of_getElem? h
  have := hf x hm
  rw [hb] at this
  exact absurd this (by simp)
section
variable (S : List Ent) (tk : List Nat) (k : Nat)
theorem L03_light (xs : List RQ) (c : Cap) (hb : xs.length ≤ 1000) : cL Tryd.prog 19 [.frz (xs.map ratC) c] S tk k = some (.bool (lightF xs), S, tk, k) := by
  refine call_pure Tryd.func19 rfl rfl (by decide +kernel) (by decide +kernel) Tryd.ntmps19 rfl rfl _ _ _ rfl ?_; rw [RK_KX]
  have hr := rowsOk_map (f := ratC) (sz := 4) (fun _ => rfl) xs
  simp (maxSteps := 1000000) +contextual (disch := first | with_reducible assumption | exact ⟨rfl⟩ | exact ⟨rfl, rfl⟩ | (refine _root_.id ?_; kernel_rfl) | omega) only [evs, ext_mv, nth, put, putT, getT, binInt, binStr, binBool, aUn, outA, resA, mapO, resA1, oneOf, w1, w2, w3, bots, cond_true, cond_false, if_true, if_false, ite_true, ite_false, reduceIte, reduceCtorEq, implies_true, Nat.reduceAdd, Nat.reduceSub, AV.int, AV.bool, AV.str, Nat.reduceBEq, Nat.reduceEqDiff, Nat.reduceMul, Nat.reduceLT, Nat.reduceLeDiff, Int.reduceNeg, BEq.rfl, beq_self_eq_true, tabl, cellsOf, fldA, ldA, stA, entAt, partA, takeN, over, leafOk, Value.oneCell', idxA, nilA, cellsEq, fillA, elemsA, pure1, pure2, reps, chkA, tys, Tryd.results19, KX_draw, KX_drawQ, KX_tail, lastO_one, lastO_more, dropL_one, dropL_more, callP_eq, callM_true, ext_mv1, w2, w1]
  refine loop1 (fun x st => st.T.length = 23 ∧ (x ≤ xs.length) ∧ (∀ j, j < x → ∀ x, nth xs j = some x → lightR x = true) ∧ getT st.T 0 = .frz (xs.map ratC) .unk ∧ getT st.T 3 = .int (x : Nat) ∧ st.S = []) (fun x => xs.length - x) (fun x => .bool (lightF xs)) (0) ?_ ?_
  case refine_2 => exact ⟨rfl, Nat.zero_le _, fun j hj => by omega, rfl, rfl, rfl⟩
  rintro i ⟨T, S', tk', n'⟩ ⟨hl, hi, he, e0, e3, eS⟩ IH
  subst eS
  obtain ⟨g, hg, hT⟩ := tab_of hl
  rw [hg] at e0 e3
  subst hT
  clear hg hl
  by_cases hlt : i < xs.length
  · have d3 : decide ((i : Int) < (xs.length : Int)) = true := by simpa using hlt
    obtain ⟨b, hx⟩ := nth_some hlt
    have hx' := nth_ratC hx
    have hw := wrap_add (i := i) (by omega)
    have hF := fun S tk k => L03_few S tk k [(b.p, b.l), (b.q, b.r)] .tight (by simp)
    simp only [List.map_cons, List.map_nil, bigC] at hF
    cases hl : lightR b with
    | false =>
      have hl' : fewF [(b.p, b.l), (b.q, b.r)] = false := hl
      rw [hl'] at hF
      rw [light_not hx hl]
      simp (maxSteps := 1000000) +contextual (disch := first | with_reducible assumption | exact ⟨rfl⟩ | exact ⟨rfl, rfl⟩ | (refine _root_.id ?_; kernel_rfl) | omega) only [evs, ext_mv, nth, put, putT, getT, binInt, binStr, binBool, aUn, outA, resA, mapO, resA1, oneOf, w1, w2, w3, bots, cond_true, cond_false, if_true, if_false, ite_true, ite_false, reduceIte, reduceCtorEq, implies_true, Nat.reduceAdd, Nat.reduceSub, AV.int, AV.bool, AV.str, Nat.reduceBEq, Nat.reduceEqDiff, Nat.reduceMul, Nat.reduceLT, Nat.reduceLeDiff, Int.reduceNeg, BEq.rfl, beq_self_eq_true, tabl, cellsOf, fldA, ldA, stA, entAt, partA, takeN, over, leafOk, Value.oneCell', idxA, nilA, cellsEq, fillA, elemsA, pure1, pure2, reps, chkA, tys, Tryd.results19, KX_draw, KX_drawQ, KX_tail, lastO_one, lastO_more, dropL_one, dropL_more, callP_eq, callM_true, ext_mv1, e0, e3, d3, hx', hw, hr, hF]
    | true =>
      have hl' : fewF [(b.p, b.l), (b.q, b.r)] = true := hl
      rw [hl'] at hF
      simp (maxSteps := 1000000) +contextual (disch := first | with_reducible assumption | exact ⟨rfl⟩ | exact ⟨rfl, rfl⟩ | (refine _root_.id ?_; kernel_rfl) | omega) only [evs, ext_mv, nth, put, putT, getT, binInt, binStr, binBool, aUn, outA, resA, mapO, resA1, oneOf, w1, w2, w3, bots, cond_true, cond_false, if_true, if_false, ite_true, ite_false, reduceIte, reduceCtorEq, implies_true, Nat.reduceAdd, Nat.reduceSub, AV.int, AV.bool, AV.str, Nat.reduceBEq, Nat.reduceEqDiff, Nat.reduceMul, Nat.reduceLT, Nat.reduceLeDiff, Int.reduceNeg, BEq.rfl, beq_self_eq_true, tabl, cellsOf, fldA, ldA, stA, entAt, partA, takeN, over, leafOk, Value.oneCell', idxA, nilA, cellsEq, fillA, elemsA, pure1, pure2, reps, chkA, tys, Tryd.results19, KX_draw, KX_drawQ, KX_tail, lastO_one, lastO_more, dropL_one, dropL_more, callP_eq, callM_true, ext_mv1, e0, e3, d3, hx', hw, hr, hF]
      exact IH (i + 1) _ (by first | omega | (simp only; omega)) ⟨rfl, hlt, fun j hj b' hb' => by by_cases e : j = i; (· subst e; rw [hx] at hb'; simp only [Option.some.injEq] at hb'; subst hb'; exact hl); exact he j (by first | omega | (dsimp only; omega)) b' hb', (by first | rfl | simp only [getT, List.map_append, List.map_cons, List.map_nil, digC, digA]), (by first | rfl | simp only [getT, List.map_append, List.map_cons, List.map_nil, digC, digA]), (by first | rfl | simp only [getT, List.map_append, List.map_cons, List.map_nil, digC, digA])⟩
  · have d3 : decide ((i : Int) < (xs.length : Int)) = false := by simpa using hlt
    rw [light_all fun j hj b hb => he j (by omega) b hb]
    simp (maxSteps := 1000000) +contextual (disch := first | with_reducible assumption | exact ⟨rfl⟩ | exact ⟨rfl, rfl⟩ | (refine _root_.id ?_; kernel_rfl) | omega) only [evs, ext_mv, nth, put, putT, getT, binInt, binStr, binBool, aUn, outA, resA, mapO, resA1, oneOf, w1, w2, w3, bots, cond_true, cond_false, if_true, if_false, ite_true, ite_false, reduceIte, reduceCtorEq, implies_true, Nat.reduceAdd, Nat.reduceSub, AV.int, AV.bool, AV.str, Nat.reduceBEq, Nat.reduceEqDiff, Nat.reduceMul, Nat.reduceLT, Nat.reduceLeDiff, Int.reduceNeg, BEq.rfl, beq_self_eq_true, tabl, cellsOf, fldA, ldA, stA, entAt, partA, takeN, over, leafOk, Value.oneCell', idxA, nilA, cellsEq, fillA, elemsA, pure1, pure2, reps, chkA, tys, Tryd.results19, KX_draw, KX_drawQ, KX_tail, lastO_one, lastO_more, dropL_one, dropL_more, callP_eq, callM_true, ext_mv1, e0, e3, d3]
end
end Go.Proofs.YtgadegdhfjnoaaaDoor
