/-
  Texts laid together: T5, T6, T7.
-/
import Derived.Test.YtgadegdhfjnoaaaDoorZR20
/-
  The law RatField, walked.
-/

namespace Go.Proofs.YtgadegdhfjnoaaaDoor
open Go
section
variable (S : List Ent) (tk : List Nat) (k : Nat)
set_option maxRecDepth 100000 in
set_option maxHeartbeats 8000000 in
theorem field_good {a1 a2 b1 b2 c1 c2 : Int} (ga : GoodQ a1 a2) (gb : GoodQ b1 b2) (gc : GoodQ c1 c2) : cL Tryd.prog 8 [qA a1 a2, qA b1 b2, qA c1 c2] S tk k = some (.bool true, S, tk, k) := by
  have hF := fun S tk k => L03_light S tk k [rqOf a1 a2, rqOf b1 b2, rqOf c1 c2] .tight (by simp)
  have hl : lightF [rqOf a1 a2, rqOf b1 b2, rqOf c1 c2] = true := by
    simp only [lightF, List.all_cons, List.all_nil, ga.light, gb.light, gc.light, Bool.and_self]
  rw [hl] at hF
  simp only [List.map_cons, List.map_nil, ratC, rqOf] at hF
  have hAw := fun S tk k => L03_awake S tk k
  have hVa := fun S tk k => Valid_good S tk k ga
  have hVb := fun S tk k => Valid_good S tk k gb
  have hVc := fun S tk k => Valid_good S tk k gc
  have a0 : a2 ≠ 0 := by have := ga.pos; omega
  have b0 : b2 ≠ 0 := by have := gb.pos; omega
  have c0 : c2 ≠ 0 := by have := gc.pos; omega
  have hS := fun S tk k => Add_g S tk k ga gb
  have hT := fun S tk k => Add_g S tk k gb ga
  rw [Int.add_comm (b1 * a2), Int.mul_comm b2 a2] at hT
  have hP := fun S tk k => Mul_g S tk k ga gb
  have hQ := fun S tk k => Mul_g S tk k gb ga
  rw [Int.mul_comm b1 a1, Int.mul_comm b2 a2] at hQ
  have hnb := nlen_pos b1
  -- the sum
  obtain ⟨n, hn⟩ : ∃ n, n = a1 * b2 + b1 * a2 := ⟨_, rfl⟩
  obtain ⟨m, hm⟩ : ∃ m, m = a1 * b1 := ⟨_, rfl⟩
  obtain ⟨d, hd⟩ : ∃ d, d = a2 * b2 := ⟨_, rfl⟩
  rw [← hn, ← hd] at hS hT
  rw [← hm, ← hd] at hP hQ
  have hd0 : d ≠ 0 := by rw [hd]; exact Int.mul_ne_zero a0 b0
  have ls := res_len n d
  have lp := res_len m d
  have hSS := fun S tk k => Same_self S tk k (resN n d) (resD n d) ls.1 ls.2
  have hSP := fun S tk k => Same_self S tk k (resN m d) (resD m d) lp.1 lp.2
  -- the difference again
  have hD : ∃ x y, (∀ S tk k, cL Tryd.prog 31 [qA (resN n d) (resD n d), qA b1 b2] S tk k = some (resQ x y, S, tk, k)) ∧ (fitsQ n d = true → fitsQ x y = true ∧ resN x y = a1 ∧ resD x y = a2) := by
    refine ⟨_, _, fun S tk k => Sub_q S tk k _ _ _ _ (by omega) (by omega) gb.len.1 gb.len.2, fun hf => ?_⟩
    have g := res_good hf
    have hc := res_cross hf
    rw [g.gN, g.gD, gb.gN, gb.gD]
    rw [hn, hd] at hc
    exact res_is (Int.mul_ne_zero (by have := g.pos; rw [hn, hd] at this ⊢; omega) b0) ga (by rw [hn, hd]; exact sub_back b0 hc)
  obtain ⟨dx, dy, hD, hDf⟩ := hD
  have hE : ∃ x y, (∀ S tk k, cL Tryd.prog 35 [qA (resN m d) (resD m d), qA b1 b2] S tk k = some (resQ x y, S, tk, k)) ∧ (fitsQ m d = true → b1 ≠ 0 → fitsQ x y = true ∧ resN x y = a1 ∧ resD x y = a2) := by
    refine ⟨_, _, fun S tk k => Div_q S tk k _ _ _ _ (by omega) (by omega) gb.len.1 gb.len.2, fun hf hb1 => ?_⟩
    have g := res_good hf
    have hc := res_cross hf
    rw [g.gN, g.gD, gb.gN, gb.gD]
    rw [hm, hd] at hc
    exact res_is (Int.mul_ne_zero (by have := g.pos; rw [hm, hd] at this ⊢; omega) hb1) ga (by rw [hm, hd]; exact div_back b0 hc)
  obtain ⟨ex, ey, hE, hEf⟩ := hE
  -- the products with the third one
  have hX : ∃ x y, (∀ S tk k, cL Tryd.prog 33 [qA (resN n d) (resD n d), qA c1 c2] S tk k = some (resQ x y, S, tk, k)) ∧ (fitsQ n d = true → x = resN n d * c1 ∧ y = resD n d * c2) := by
    refine ⟨_, _, fun S tk k => Mul_q S tk k _ _ _ _ (by omega) (by omega) gc.len.1 gc.len.2, fun hf => ?_⟩
    have g := res_good hf
    rw [g.gN, g.gD, gc.gN, gc.gD]
    exact ⟨rfl, rfl⟩
  obtain ⟨xx, xy, hX, hXf⟩ := hX
  have hY := fun S tk k => Mul_g S tk k ga gc
  have hZ := fun S tk k => Mul_g S tk k gb gc
  obtain ⟨yn, hyn⟩ : ∃ n, n = a1 * c1 := ⟨_, rfl⟩
  obtain ⟨yd, hyd⟩ : ∃ n, n = a2 * c2 := ⟨_, rfl⟩
  obtain ⟨zn, hzn⟩ : ∃ n, n = b1 * c1 := ⟨_, rfl⟩
  obtain ⟨zd, hzd⟩ : ∃ n, n = b2 * c2 := ⟨_, rfl⟩
  rw [← hyn, ← hyd] at hY
  rw [← hzn, ← hzd] at hZ
  have ly := res_len yn yd
  have lz := res_len zn zd
  have hW : ∃ x y, (∀ S tk k, cL Tryd.prog 29 [qA (resN yn yd) (resD yn yd), qA (resN zn zd) (resD zn zd)] S tk k = some (resQ x y, S, tk, k)) ∧ (fitsQ n d = true → fitsQ xx xy = true → fitsQ yn yd = true → fitsQ zn zd = true → fitsQ x y = true ∧ resN x y = resN xx xy ∧ resD x y = resD xx xy) := by
    refine ⟨_, _, fun S tk k => Add_q S tk k _ _ _ _ (by omega) (by omega) (by omega) (by omega), fun hf hfx hfy hfz => ?_⟩
    have g := res_good hf
    have gy := res_good hfy
    have gz := res_good hfz
    have hc := res_cross hf
    have hcy := res_cross hfy
    have hcz := res_cross hfz
    rw [gy.gN, gy.gD, gz.gN, gz.gD]
    obtain ⟨e1, e2⟩ := hXf hf
    have hne := fits_ne hfx
    have hyz : resD yn yd * resD zn zd ≠ 0 := Int.mul_ne_zero (by have := gy.pos; omega) (by have := gz.pos; omega)
    have hk := distr (a1 := a1) (a2 := a2) (b1 := b1) (b2 := b2) (c1 := c1) (c2 := c2) (s1 := resN n d) (s2 := resD n d) (y1 := resN yn yd) (y2 := resD yn yd) (z1 := resN zn zd) (z2 := resD zn zd) a0 b0 c0 (by rw [← hd, ← hn]; exact hc) (by rw [← hyd, ← hyn]; exact hcy) (by rw [← hzd, ← hzn]; exact hcz)
    have := fits_eq (n := resN yn yd * resD zn zd + resN zn zd * resD yn yd) (n' := xx) hyz hne (by rw [e1, e2]; exact hk)
    rw [hfx] at this
    exact this
  obtain ⟨wx, wy, hW, hWf⟩ := hW
  have lx := res_len xx xy
  have hSX := fun S tk k => Same_self S tk k (resN xx xy) (resD xx xy) lx.1 lx.2
  have hSA := fun S tk k => Same_self S tk k a1 a2 ga.ln ga.ld
  clear hn hm hd hd0 hyn hyd hzn hzd hXf ls lp ly lz lx hl
  unfold resQ at hS hT hP hQ hD hE hX hY hZ hW
  refine call_pure Tryd.func8 rfl rfl (by decide +kernel) (by decide +kernel) Tryd.ntmps8 rfl rfl _ _ _ (rfl) ?_; rw [RK_KX]
  simp only [qA, ratA, digA] at *
  cases hfp : fitsQ m d with
  | false =>
    rw [hfp] at hP hQ
    cases hb' : decide (b1 = 0) with
    | false =>
      rw [hb'] at hnb
      cases hfs : fitsQ n d with
      | false =>
        rw [hfs] at hS hT
        simp (maxSteps := 1000000) +contextual (disch := first | with_reducible assumption | exact ⟨rfl⟩ | exact ⟨rfl, rfl⟩ | (refine _root_.id ?_; kernel_rfl) | omega) only [evs, ext_mv, nth, put, putT, getT, binInt, binStr, binBool, aUn, outA, resA, mapO, resA1, oneOf, w1, w2, w3, bots, cond_true, cond_false, if_true, if_false, ite_true, ite_false, reduceIte, reduceCtorEq, implies_true, Nat.reduceAdd, Nat.reduceSub, AV.int, AV.bool, AV.str, Nat.reduceBEq, Nat.reduceEqDiff, Nat.reduceMul, Nat.reduceLT, Nat.reduceLeDiff, Int.reduceNeg, BEq.rfl, beq_self_eq_true, tabl, cellsOf, fldA, ldA, stA, entAt, partA, takeN, over, leafOk, Value.oneCell', idxA, nilA, cellsEq, fillA, elemsA, pure1, pure2, reps, chkA, tys, Tryd.results8, KX_draw, KX_drawQ, KX_tail, lastO_one, lastO_more, dropL_one, dropL_more, callP_eq, callM_true, ext_mv1, hF, hAw, hVa, hVb, hVc, hS, hT, hP, hQ, hnb, hSS, hSP, hD, hE, hX, hY, hZ, hW, hSX, hSA, Bool.not_true, Bool.not_false]
      | true =>
        rw [hfs] at hS hT
        obtain ⟨u1, u2, u3⟩ := hDf hfs
        rw [u1, u2, u3] at hD
        have hWf := hWf hfs
        cases hfx : fitsQ xx xy with
        | false =>
          rw [hfx] at hX
          simp (maxSteps := 1000000) +contextual (disch := first | with_reducible assumption | exact ⟨rfl⟩ | exact ⟨rfl, rfl⟩ | (refine _root_.id ?_; kernel_rfl) | omega) only [evs, ext_mv, nth, put, putT, getT, binInt, binStr, binBool, aUn, outA, resA, mapO, resA1, oneOf, w1, w2, w3, bots, cond_true, cond_false, if_true, if_false, ite_true, ite_false, reduceIte, reduceCtorEq, implies_true, Nat.reduceAdd, Nat.reduceSub, AV.int, AV.bool, AV.str, Nat.reduceBEq, Nat.reduceEqDiff, Nat.reduceMul, Nat.reduceLT, Nat.reduceLeDiff, Int.reduceNeg, BEq.rfl, beq_self_eq_true, tabl, cellsOf, fldA, ldA, stA, entAt, partA, takeN, over, leafOk, Value.oneCell', idxA, nilA, cellsEq, fillA, elemsA, pure1, pure2, reps, chkA, tys, Tryd.results8, KX_draw, KX_drawQ, KX_tail, lastO_one, lastO_more, dropL_one, dropL_more, callP_eq, callM_true, ext_mv1, hF, hAw, hVa, hVb, hVc, hS, hT, hP, hQ, hnb, hSS, hSP, hD, hE, hX, hY, hZ, hW, hSX, hSA, Bool.not_true, Bool.not_false]
        | true =>
          rw [hfx] at hX
          cases hfy : fitsQ yn yd with
          | false =>
            rw [hfy] at hY
            simp (maxSteps := 1000000) +contextual (disch := first | with_reducible assumption | exact ⟨rfl⟩ | exact ⟨rfl, rfl⟩ | (refine _root_.id ?_; kernel_rfl) | omega) only [evs, ext_mv, nth, put, putT, getT, binInt, binStr, binBool, aUn, outA, resA, mapO, resA1, oneOf, w1, w2, w3, bots, cond_true, cond_false, if_true, if_false, ite_true, ite_false, reduceIte, reduceCtorEq, implies_true, Nat.reduceAdd, Nat.reduceSub, AV.int, AV.bool, AV.str, Nat.reduceBEq, Nat.reduceEqDiff, Nat.reduceMul, Nat.reduceLT, Nat.reduceLeDiff, Int.reduceNeg, BEq.rfl, beq_self_eq_true, tabl, cellsOf, fldA, ldA, stA, entAt, partA, takeN, over, leafOk, Value.oneCell', idxA, nilA, cellsEq, fillA, elemsA, pure1, pure2, reps, chkA, tys, Tryd.results8, KX_draw, KX_drawQ, KX_tail, lastO_one, lastO_more, dropL_one, dropL_more, callP_eq, callM_true, ext_mv1, hF, hAw, hVa, hVb, hVc, hS, hT, hP, hQ, hnb, hSS, hSP, hD, hE, hX, hY, hZ, hW, hSX, hSA, Bool.not_true, Bool.not_false]
          | true =>
            rw [hfy] at hY
            cases hfz : fitsQ zn zd with
            | false =>
              rw [hfz] at hZ
              simp (maxSteps := 1000000) +contextual (disch := first | with_reducible assumption | exact ⟨rfl⟩ | exact ⟨rfl, rfl⟩ | (refine _root_.id ?_; kernel_rfl) | omega) only [evs, ext_mv, nth, put, putT, getT, binInt, binStr, binBool, aUn, outA, resA, mapO, resA1, oneOf, w1, w2, w3, bots, cond_true, cond_false, if_true, if_false, ite_true, ite_false, reduceIte, reduceCtorEq, implies_true, Nat.reduceAdd, Nat.reduceSub, AV.int, AV.bool, AV.str, Nat.reduceBEq, Nat.reduceEqDiff, Nat.reduceMul, Nat.reduceLT, Nat.reduceLeDiff, Int.reduceNeg, BEq.rfl, beq_self_eq_true, tabl, cellsOf, fldA, ldA, stA, entAt, partA, takeN, over, leafOk, Value.oneCell', idxA, nilA, cellsEq, fillA, elemsA, pure1, pure2, reps, chkA, tys, Tryd.results8, KX_draw, KX_drawQ, KX_tail, lastO_one, lastO_more, dropL_one, dropL_more, callP_eq, callM_true, ext_mv1, hF, hAw, hVa, hVb, hVc, hS, hT, hP, hQ, hnb, hSS, hSP, hD, hE, hX, hY, hZ, hW, hSX, hSA, Bool.not_true, Bool.not_false]
            | true =>
              rw [hfz] at hZ
              obtain ⟨v1, v2, v3⟩ := hWf hfx hfy hfz
              rw [v1, v2, v3] at hW
              simp (maxSteps := 1000000) +contextual (disch := first | with_reducible assumption | exact ⟨rfl⟩ | exact ⟨rfl, rfl⟩ | (refine _root_.id ?_; kernel_rfl) | omega) only [evs, ext_mv, nth, put, putT, getT, binInt, binStr, binBool, aUn, outA, resA, mapO, resA1, oneOf, w1, w2, w3, bots, cond_true, cond_false, if_true, if_false, ite_true, ite_false, reduceIte, reduceCtorEq, implies_true, Nat.reduceAdd, Nat.reduceSub, AV.int, AV.bool, AV.str, Nat.reduceBEq, Nat.reduceEqDiff, Nat.reduceMul, Nat.reduceLT, Nat.reduceLeDiff, Int.reduceNeg, BEq.rfl, beq_self_eq_true, tabl, cellsOf, fldA, ldA, stA, entAt, partA, takeN, over, leafOk, Value.oneCell', idxA, nilA, cellsEq, fillA, elemsA, pure1, pure2, reps, chkA, tys, Tryd.results8, KX_draw, KX_drawQ, KX_tail, lastO_one, lastO_more, dropL_one, dropL_more, callP_eq, callM_true, ext_mv1, hF, hAw, hVa, hVb, hVc, hS, hT, hP, hQ, hnb, hSS, hSP, hD, hE, hX, hY, hZ, hW, hSX, hSA, Bool.not_true, Bool.not_false]
    | true =>
      rw [hb'] at hnb
      cases hfs : fitsQ n d with
      | false =>
        rw [hfs] at hS hT
        simp (maxSteps := 1000000) +contextual (disch := first | with_reducible assumption | exact ⟨rfl⟩ | exact ⟨rfl, rfl⟩ | (refine _root_.id ?_; kernel_rfl) | omega) only [evs, ext_mv, nth, put, putT, getT, binInt, binStr, binBool, aUn, outA, resA, mapO, resA1, oneOf, w1, w2, w3, bots, cond_true, cond_false, if_true, if_false, ite_true, ite_false, reduceIte, reduceCtorEq, implies_true, Nat.reduceAdd, Nat.reduceSub, AV.int, AV.bool, AV.str, Nat.reduceBEq, Nat.reduceEqDiff, Nat.reduceMul, Nat.reduceLT, Nat.reduceLeDiff, Int.reduceNeg, BEq.rfl, beq_self_eq_true, tabl, cellsOf, fldA, ldA, stA, entAt, partA, takeN, over, leafOk, Value.oneCell', idxA, nilA, cellsEq, fillA, elemsA, pure1, pure2, reps, chkA, tys, Tryd.results8, KX_draw, KX_drawQ, KX_tail, lastO_one, lastO_more, dropL_one, dropL_more, callP_eq, callM_true, ext_mv1, hF, hAw, hVa, hVb, hVc, hS, hT, hP, hQ, hnb, hSS, hSP, hD, hE, hX, hY, hZ, hW, hSX, hSA, Bool.not_true, Bool.not_false]
      | true =>
        rw [hfs] at hS hT
        obtain ⟨u1, u2, u3⟩ := hDf hfs
        rw [u1, u2, u3] at hD
        have hWf := hWf hfs
        cases hfx : fitsQ xx xy with
        | false =>
          rw [hfx] at hX
          simp (maxSteps := 1000000) +contextual (disch := first | with_reducible assumption | exact ⟨rfl⟩ | exact ⟨rfl, rfl⟩ | (refine _root_.id ?_; kernel_rfl) | omega) only [evs, ext_mv, nth, put, putT, getT, binInt, binStr, binBool, aUn, outA, resA, mapO, resA1, oneOf, w1, w2, w3, bots, cond_true, cond_false, if_true, if_false, ite_true, ite_false, reduceIte, reduceCtorEq, implies_true, Nat.reduceAdd, Nat.reduceSub, AV.int, AV.bool, AV.str, Nat.reduceBEq, Nat.reduceEqDiff, Nat.reduceMul, Nat.reduceLT, Nat.reduceLeDiff, Int.reduceNeg, BEq.rfl, beq_self_eq_true, tabl, cellsOf, fldA, ldA, stA, entAt, partA, takeN, over, leafOk, Value.oneCell', idxA, nilA, cellsEq, fillA, elemsA, pure1, pure2, reps, chkA, tys, Tryd.results8, KX_draw, KX_drawQ, KX_tail, lastO_one, lastO_more, dropL_one, dropL_more, callP_eq, callM_true, ext_mv1, hF, hAw, hVa, hVb, hVc, hS, hT, hP, hQ, hnb, hSS, hSP, hD, hE, hX, hY, hZ, hW, hSX, hSA, Bool.not_true, Bool.not_false]
        | true =>
          rw [hfx] at hX
          cases hfy : fitsQ yn yd with
          | false =>
            rw [hfy] at hY
            simp (maxSteps := 1000000) +contextual (disch := first | with_reducible assumption | exact ⟨rfl⟩ | exact ⟨rfl, rfl⟩ | (refine _root_.id ?_; kernel_rfl) | omega) only [evs, ext_mv, nth, put, putT, getT, binInt, binStr, binBool, aUn, outA, resA, mapO, resA1, oneOf, w1, w2, w3, bots, cond_true, cond_false, if_true, if_false, ite_true, ite_false, reduceIte, reduceCtorEq, implies_true, Nat.reduceAdd, Nat.reduceSub, AV.int, AV.bool, AV.str, Nat.reduceBEq, Nat.reduceEqDiff, Nat.reduceMul, Nat.reduceLT, Nat.reduceLeDiff, Int.reduceNeg, BEq.rfl, beq_self_eq_true, tabl, cellsOf, fldA, ldA, stA, entAt, partA, takeN, over, leafOk, Value.oneCell', idxA, nilA, cellsEq, fillA, elemsA, pure1, pure2, reps, chkA, tys, Tryd.results8, KX_draw, KX_drawQ, KX_tail, lastO_one, lastO_more, dropL_one, dropL_more, callP_eq, callM_true, ext_mv1, hF, hAw, hVa, hVb, hVc, hS, hT, hP, hQ, hnb, hSS, hSP, hD, hE, hX, hY, hZ, hW, hSX, hSA, Bool.not_true, Bool.not_false]
          | true =>
            rw [hfy] at hY
            cases hfz : fitsQ zn zd with
            | false =>
              rw [hfz] at hZ
              simp (maxSteps := 1000000) +contextual (disch := first | with_reducible assumption | exact ⟨rfl⟩ | exact ⟨rfl, rfl⟩ | (refine _root_.id ?_; kernel_rfl) | omega) only [evs, ext_mv, nth, put, putT, getT, binInt, binStr, binBool, aUn, outA, resA, mapO, resA1, oneOf, w1, w2, w3, bots, cond_true, cond_false, if_true, if_false, ite_true, ite_false, reduceIte, reduceCtorEq, implies_true, Nat.reduceAdd, Nat.reduceSub, AV.int, AV.bool, AV.str, Nat.reduceBEq, Nat.reduceEqDiff, Nat.reduceMul, Nat.reduceLT, Nat.reduceLeDiff, Int.reduceNeg, BEq.rfl, beq_self_eq_true, tabl, cellsOf, fldA, ldA, stA, entAt, partA, takeN, over, leafOk, Value.oneCell', idxA, nilA, cellsEq, fillA, elemsA, pure1, pure2, reps, chkA, tys, Tryd.results8, KX_draw, KX_drawQ, KX_tail, lastO_one, lastO_more, dropL_one, dropL_more, callP_eq, callM_true, ext_mv1, hF, hAw, hVa, hVb, hVc, hS, hT, hP, hQ, hnb, hSS, hSP, hD, hE, hX, hY, hZ, hW, hSX, hSA, Bool.not_true, Bool.not_false]
            | true =>
              rw [hfz] at hZ
              obtain ⟨v1, v2, v3⟩ := hWf hfx hfy hfz
              rw [v1, v2, v3] at hW
              simp (maxSteps := 1000000) +contextual (disch := first | with_reducible assumption | exact ⟨rfl⟩ | exact ⟨rfl, rfl⟩ | (refine _root_.id ?_; kernel_rfl) | omega) only [evs, ext_mv, nth, put, putT, getT, binInt, binStr, binBool, aUn, outA, resA, mapO, resA1, oneOf, w1, w2, w3, bots, cond_true, cond_false, if_true, if_false, ite_true, ite_false, reduceIte, reduceCtorEq, implies_true, Nat.reduceAdd, Nat.reduceSub, AV.int, AV.bool, AV.str, Nat.reduceBEq, Nat.reduceEqDiff, Nat.reduceMul, Nat.reduceLT, Nat.reduceLeDiff, Int.reduceNeg, BEq.rfl, beq_self_eq_true, tabl, cellsOf, fldA, ldA, stA, entAt, partA, takeN, over, leafOk, Value.oneCell', idxA, nilA, cellsEq, fillA, elemsA, pure1, pure2, reps, chkA, tys, Tryd.results8, KX_draw, KX_drawQ, KX_tail, lastO_one, lastO_more, dropL_one, dropL_more, callP_eq, callM_true, ext_mv1, hF, hAw, hVa, hVb, hVc, hS, hT, hP, hQ, hnb, hSS, hSP, hD, hE, hX, hY, hZ, hW, hSX, hSA, Bool.not_true, Bool.not_false]
  | true =>
    rw [hfp] at hP hQ
    cases hb' : decide (b1 = 0) with
    | false =>
      rw [hb'] at hnb
      obtain ⟨q1, q2, q3⟩ := hEf hfp (by simpa using hb')
      rw [q1, q2, q3] at hE
      cases hfs : fitsQ n d with
      | false =>
        rw [hfs] at hS hT
        simp (maxSteps := 1000000) +contextual (disch := first | with_reducible assumption | exact ⟨rfl⟩ | exact ⟨rfl, rfl⟩ | (refine _root_.id ?_; kernel_rfl) | omega) only [evs, ext_mv, nth, put, putT, getT, binInt, binStr, binBool, aUn, outA, resA, mapO, resA1, oneOf, w1, w2, w3, bots, cond_true, cond_false, if_true, if_false, ite_true, ite_false, reduceIte, reduceCtorEq, implies_true, Nat.reduceAdd, Nat.reduceSub, AV.int, AV.bool, AV.str, Nat.reduceBEq, Nat.reduceEqDiff, Nat.reduceMul, Nat.reduceLT, Nat.reduceLeDiff, Int.reduceNeg, BEq.rfl, beq_self_eq_true, tabl, cellsOf, fldA, ldA, stA, entAt, partA, takeN, over, leafOk, Value.oneCell', idxA, nilA, cellsEq, fillA, elemsA, pure1, pure2, reps, chkA, tys, Tryd.results8, KX_draw, KX_drawQ, KX_tail, lastO_one, lastO_more, dropL_one, dropL_more, callP_eq, callM_true, ext_mv1, hF, hAw, hVa, hVb, hVc, hS, hT, hP, hQ, hnb, hSS, hSP, hD, hE, hX, hY, hZ, hW, hSX, hSA, Bool.not_true, Bool.not_false]
      | true =>
        rw [hfs] at hS hT
        obtain ⟨u1, u2, u3⟩ := hDf hfs
        rw [u1, u2, u3] at hD
        have hWf := hWf hfs
        cases hfx : fitsQ xx xy with
        | false =>
          rw [hfx] at hX
          simp (maxSteps := 1000000) +contextual (disch := first | with_reducible assumption | exact ⟨rfl⟩ | exact ⟨rfl, rfl⟩ | (refine _root_.id ?_; kernel_rfl) | omega) only [evs, ext_mv, nth, put, putT, getT, binInt, binStr, binBool, aUn, outA, resA, mapO, resA1, oneOf, w1, w2, w3, bots, cond_true, cond_false, if_true, if_false, ite_true, ite_false, reduceIte, reduceCtorEq, implies_true, Nat.reduceAdd, Nat.reduceSub, AV.int, AV.bool, AV.str, Nat.reduceBEq, Nat.reduceEqDiff, Nat.reduceMul, Nat.reduceLT, Nat.reduceLeDiff, Int.reduceNeg, BEq.rfl, beq_self_eq_true, tabl, cellsOf, fldA, ldA, stA, entAt, partA, takeN, over, leafOk, Value.oneCell', idxA, nilA, cellsEq, fillA, elemsA, pure1, pure2, reps, chkA, tys, Tryd.results8, KX_draw, KX_drawQ, KX_tail, lastO_one, lastO_more, dropL_one, dropL_more, callP_eq, callM_true, ext_mv1, hF, hAw, hVa, hVb, hVc, hS, hT, hP, hQ, hnb, hSS, hSP, hD, hE, hX, hY, hZ, hW, hSX, hSA, Bool.not_true, Bool.not_false]
        | true =>
          rw [hfx] at hX
          cases hfy : fitsQ yn yd with
          | false =>
            rw [hfy] at hY
            simp (maxSteps := 1000000) +contextual (disch := first | with_reducible assumption | exact ⟨rfl⟩ | exact ⟨rfl, rfl⟩ | (refine _root_.id ?_; kernel_rfl) | omega) only [evs, ext_mv, nth, put, putT, getT, binInt, binStr, binBool, aUn, outA, resA, mapO, resA1, oneOf, w1, w2, w3, bots, cond_true, cond_false, if_true, if_false, ite_true, ite_false, reduceIte, reduceCtorEq, implies_true, Nat.reduceAdd, Nat.reduceSub, AV.int, AV.bool, AV.str, Nat.reduceBEq, Nat.reduceEqDiff, Nat.reduceMul, Nat.reduceLT, Nat.reduceLeDiff, Int.reduceNeg, BEq.rfl, beq_self_eq_true, tabl, cellsOf, fldA, ldA, stA, entAt, partA, takeN, over, leafOk, Value.oneCell', idxA, nilA, cellsEq, fillA, elemsA, pure1, pure2, reps, chkA, tys, Tryd.results8, KX_draw, KX_drawQ, KX_tail, lastO_one, lastO_more, dropL_one, dropL_more, callP_eq, callM_true, ext_mv1, hF, hAw, hVa, hVb, hVc, hS, hT, hP, hQ, hnb, hSS, hSP, hD, hE, hX, hY, hZ, hW, hSX, hSA, Bool.not_true, Bool.not_false]
          | true =>
            rw [hfy] at hY
            cases hfz : fitsQ zn zd with
            | false =>
              rw [hfz] at hZ
              simp (maxSteps := 1000000) +contextual (disch := first | with_reducible assumption | exact ⟨rfl⟩ | exact ⟨rfl, rfl⟩ | (refine _root_.id ?_; kernel_rfl) | omega) only [evs, ext_mv, nth, put, putT, getT, binInt, binStr, binBool, aUn, outA, resA, mapO, resA1, oneOf, w1, w2, w3, bots, cond_true, cond_false, if_true, if_false, ite_true, ite_false, reduceIte, reduceCtorEq, implies_true, Nat.reduceAdd, Nat.reduceSub, AV.int, AV.bool, AV.str, Nat.reduceBEq, Nat.reduceEqDiff, Nat.reduceMul, Nat.reduceLT, Nat.reduceLeDiff, Int.reduceNeg, BEq.rfl, beq_self_eq_true, tabl, cellsOf, fldA, ldA, stA, entAt, partA, takeN, over, leafOk, Value.oneCell', idxA, nilA, cellsEq, fillA, elemsA, pure1, pure2, reps, chkA, tys, Tryd.results8, KX_draw, KX_drawQ, KX_tail, lastO_one, lastO_more, dropL_one, dropL_more, callP_eq, callM_true, ext_mv1, hF, hAw, hVa, hVb, hVc, hS, hT, hP, hQ, hnb, hSS, hSP, hD, hE, hX, hY, hZ, hW, hSX, hSA, Bool.not_true, Bool.not_false]
            | true =>
              rw [hfz] at hZ
              obtain ⟨v1, v2, v3⟩ := hWf hfx hfy hfz
              rw [v1, v2, v3] at hW
              simp (maxSteps := 1000000) +contextual (disch := first | with_reducible assumption | exact ⟨rfl⟩ | exact ⟨rfl, rfl⟩ | (refine _root_.id ?_; kernel_rfl) | omega) only [evs, ext_mv, nth, put, putT, getT, binInt, binStr, binBool, aUn, outA, resA, mapO, resA1, oneOf, w1, w2, w3, bots, cond_true, cond_false, if_true, if_false, ite_true, ite_false, reduceIte, reduceCtorEq, implies_true, Nat.reduceAdd, Nat.reduceSub, AV.int, AV.bool, AV.str, Nat.reduceBEq, Nat.reduceEqDiff, Nat.reduceMul, Nat.reduceLT, Nat.reduceLeDiff, Int.reduceNeg, BEq.rfl, beq_self_eq_true, tabl, cellsOf, fldA, ldA, stA, entAt, partA, takeN, over, leafOk, Value.oneCell', idxA, nilA, cellsEq, fillA, elemsA, pure1, pure2, reps, chkA, tys, Tryd.results8, KX_draw, KX_drawQ, KX_tail, lastO_one, lastO_more, dropL_one, dropL_more, callP_eq, callM_true, ext_mv1, hF, hAw, hVa, hVb, hVc, hS, hT, hP, hQ, hnb, hSS, hSP, hD, hE, hX, hY, hZ, hW, hSX, hSA, Bool.not_true, Bool.not_false]
    | true =>
      rw [hb'] at hnb
      cases hfs : fitsQ n d with
      | false =>
        rw [hfs] at hS hT
        simp (maxSteps := 1000000) +contextual (disch := first | with_reducible assumption | exact ⟨rfl⟩ | exact ⟨rfl, rfl⟩ | (refine _root_.id ?_; kernel_rfl) | omega) only [evs, ext_mv, nth, put, putT, getT, binInt, binStr, binBool, aUn, outA, resA, mapO, resA1, oneOf, w1, w2, w3, bots, cond_true, cond_false, if_true, if_false, ite_true, ite_false, reduceIte, reduceCtorEq, implies_true, Nat.reduceAdd, Nat.reduceSub, AV.int, AV.bool, AV.str, Nat.reduceBEq, Nat.reduceEqDiff, Nat.reduceMul, Nat.reduceLT, Nat.reduceLeDiff, Int.reduceNeg, BEq.rfl, beq_self_eq_true, tabl, cellsOf, fldA, ldA, stA, entAt, partA, takeN, over, leafOk, Value.oneCell', idxA, nilA, cellsEq, fillA, elemsA, pure1, pure2, reps, chkA, tys, Tryd.results8, KX_draw, KX_drawQ, KX_tail, lastO_one, lastO_more, dropL_one, dropL_more, callP_eq, callM_true, ext_mv1, hF, hAw, hVa, hVb, hVc, hS, hT, hP, hQ, hnb, hSS, hSP, hD, hE, hX, hY, hZ, hW, hSX, hSA, Bool.not_true, Bool.not_false]
      | true =>
        rw [hfs] at hS hT
        obtain ⟨u1, u2, u3⟩ := hDf hfs
        rw [u1, u2, u3] at hD
        have hWf := hWf hfs
        cases hfx : fitsQ xx xy with
        | false =>
          rw [hfx] at hX
          simp (maxSteps := 1000000) +contextual (disch := first | with_reducible assumption | exact ⟨rfl⟩ | exact ⟨rfl, rfl⟩ | (refine _root_.id ?_; kernel_rfl) | omega) only [evs, ext_mv, nth, put, putT, getT, binInt, binStr, binBool, aUn, outA, resA, mapO, resA1, oneOf, w1, w2, w3, bots, cond_true, cond_false, if_true, if_false, ite_true, ite_false, reduceIte, reduceCtorEq, implies_true, Nat.reduceAdd, Nat.reduceSub, AV.int, AV.bool, AV.str, Nat.reduceBEq, Nat.reduceEqDiff, Nat.reduceMul, Nat.reduceLT, Nat.reduceLeDiff, Int.reduceNeg, BEq.rfl, beq_self_eq_true, tabl, cellsOf, fldA, ldA, stA, entAt, partA, takeN, over, leafOk, Value.oneCell', idxA, nilA, cellsEq, fillA, elemsA, pure1, pure2, reps, chkA, tys, Tryd.results8, KX_draw, KX_drawQ, KX_tail, lastO_one, lastO_more, dropL_one, dropL_more, callP_eq, callM_true, ext_mv1, hF, hAw, hVa, hVb, hVc, hS, hT, hP, hQ, hnb, hSS, hSP, hD, hE, hX, hY, hZ, hW, hSX, hSA, Bool.not_true, Bool.not_false]
        | true =>
          rw [hfx] at hX
          cases hfy : fitsQ yn yd with
          | false =>
            rw [hfy] at hY
            simp (maxSteps := 1000000) +contextual (disch := first | with_reducible assumption | exact ⟨rfl⟩ | exact ⟨rfl, rfl⟩ | (refine _root_.id ?_; kernel_rfl) | omega) only [evs, ext_mv, nth, put, putT, getT, binInt, binStr, binBool, aUn, outA, resA, mapO, resA1, oneOf, w1, w2, w3, bots, cond_true, cond_false, if_true, if_false, ite_true, ite_false, reduceIte, reduceCtorEq, implies_true, Nat.reduceAdd, Nat.reduceSub, AV.int, AV.bool, AV.str, Nat.reduceBEq, Nat.reduceEqDiff, Nat.reduceMul, Nat.reduceLT, Nat.reduceLeDiff, Int.reduceNeg, BEq.rfl, beq_self_eq_true, tabl, cellsOf, fldA, ldA, stA, entAt, partA, takeN, over, leafOk, Value.oneCell', idxA, nilA, cellsEq, fillA, elemsA, pure1, pure2, reps, chkA, tys, Tryd.results8, KX_draw, KX_drawQ, KX_tail, lastO_one, lastO_more, dropL_one, dropL_more, callP_eq, callM_true, ext_mv1, hF, hAw, hVa, hVb, hVc, hS, hT, hP, hQ, hnb, hSS, hSP, hD, hE, hX, hY, hZ, hW, hSX, hSA, Bool.not_true, Bool.not_false]
          | true =>
            rw [hfy] at hY
            cases hfz : fitsQ zn zd with
            | false =>
              rw [hfz] at hZ
              simp (maxSteps := 1000000) +contextual (disch := first | with_reducible assumption | exact ⟨rfl⟩ | exact ⟨rfl, rfl⟩ | (refine _root_.id ?_; kernel_rfl) | omega) only [evs, ext_mv, nth, put, putT, getT, binInt, binStr, binBool, aUn, outA, resA, mapO, resA1, oneOf, w1, w2, w3, bots, cond_true, cond_false, if_true, if_false, ite_true, ite_false, reduceIte, reduceCtorEq, implies_true, Nat.reduceAdd, Nat.reduceSub, AV.int, AV.bool, AV.str, Nat.reduceBEq, Nat.reduceEqDiff, Nat.reduceMul, Nat.reduceLT, Nat.reduceLeDiff, Int.reduceNeg, BEq.rfl, beq_self_eq_true, tabl, cellsOf, fldA, ldA, stA, entAt, partA, takeN, over, leafOk, Value.oneCell', idxA, nilA, cellsEq, fillA, elemsA, pure1, pure2, reps, chkA, tys, Tryd.results8, KX_draw, KX_drawQ, KX_tail, lastO_one, lastO_more, dropL_one, dropL_more, callP_eq, callM_true, ext_mv1, hF, hAw, hVa, hVb, hVc, hS, hT, hP, hQ, hnb, hSS, hSP, hD, hE, hX, hY, hZ, hW, hSX, hSA, Bool.not_true, Bool.not_false]
            | true =>
              rw [hfz] at hZ
              obtain ⟨v1, v2, v3⟩ := hWf hfx hfy hfz
              rw [v1, v2, v3] at hW
              simp (maxSteps := 1000000) +contextual (disch := first | with_reducible assumption | exact ⟨rfl⟩ | exact ⟨rfl, rfl⟩ | (refine _root_.id ?_; kernel_rfl) | omega) only [evs, ext_mv, nth, put, putT, getT, binInt, binStr, binBool, aUn, outA, resA, mapO, resA1, oneOf, w1, w2, w3, bots, cond_true, cond_false, if_true, if_false, ite_true, ite_false, reduceIte, reduceCtorEq, implies_true, Nat.reduceAdd, Nat.reduceSub, AV.int, AV.bool, AV.str, Nat.reduceBEq, Nat.reduceEqDiff, Nat.reduceMul, Nat.reduceLT, Nat.reduceLeDiff, Int.reduceNeg, BEq.rfl, beq_self_eq_true, tabl, cellsOf, fldA, ldA, stA, entAt, partA, takeN, over, leafOk, Value.oneCell', idxA, nilA, cellsEq, fillA, elemsA, pure1, pure2, reps, chkA, tys, Tryd.results8, KX_draw, KX_drawQ, KX_tail, lastO_one, lastO_more, dropL_one, dropL_more, callP_eq, callM_true, ext_mv1, hF, hAw, hVa, hVb, hVc, hS, hT, hP, hQ, hnb, hSS, hSP, hD, hE, hX, hY, hZ, hW, hSX, hSA, Bool.not_true, Bool.not_false]
end
end Go.Proofs.YtgadegdhfjnoaaaDoor
/-
  The law RatField: whatever the fractions are; the law RatOrders, walked.
-/

namespace Go.Proofs.YtgadegdhfjnoaaaDoor
open Go
theorem i64_wrap_neg {x : Int} (h : -1 ≤ x ∧ x ≤ 1) : IntKind.i64.wrap (0 - x) = -x := by rw [wrap_of (by unfold i64; omega)]; omega
theorem same_iff {a1 a2 b1 b2 : Int} (ga : GoodQ a1 a2) (gb : GoodQ b1 b2) : (cmpZ (a1 * b2) (b1 * a2) == 0) = (decide (a1 = b1) && decide (a2 = b2)) := by
  rw [Bool.eq_iff_iff]
  simp only [beq_iff_eq, Bool.and_eq_true, decide_eq_true_eq]
  constructor
  · intro h
    have h1 : a1 * b2 = b1 * a2 := by
      unfold cmpZ at h
      split at h
      · omega
      · split at h <;> omega
    exact lowest_unique ga.pos gb.pos ga.cop gb.cop h1
  · rintro ⟨rfl, rfl⟩
    exact cmpZ_eq rfl
section
variable (S : List Ent) (tk : List Nat) (k : Nat)
set_option maxRecDepth 100000 in
set_option maxHeartbeats 8000000 in
theorem orders_good {a1 a2 b1 b2 c1 c2 : Int} (ga : GoodQ a1 a2) (gb : GoodQ b1 b2) (gc : GoodQ c1 c2) : cL Tryd.prog 5 [qA a1 a2, qA b1 b2, qA c1 c2] S tk k = some (.bool true, S, tk, k) := by
  have hF := fun S tk k => L03_light S tk k [rqOf a1 a2, rqOf b1 b2, rqOf c1 c2] .tight (by simp)
  have hl : lightF [rqOf a1 a2, rqOf b1 b2, rqOf c1 c2] = true := by
    simp only [lightF, List.all_cons, List.all_nil, ga.light, gb.light, gc.light, Bool.and_self]
  rw [hl] at hF
  simp only [List.map_cons, List.map_nil, ratC, rqOf] at hF
  have hAw := fun S tk k => L03_awake S tk k
  have hVa := fun S tk k => Valid_good S tk k ga
  have hVb := fun S tk k => Valid_good S tk k gb
  have hVc := fun S tk k => Valid_good S tk k gc
  have hC1 := fun S tk k => Cmp_g S tk k ga gb
  have hC2 := fun S tk k => Cmp_g S tk k gb gc
  have hC3 := fun S tk k => Cmp_g S tk k gb ga
  have hC4 := fun S tk k => Cmp_g S tk k ga gc
  rw [cmp_swap (a1 * b2) (b1 * a2)] at hC3
  have hsame := fun S tk k => Same_q S tk k a1 a2 b1 b2 ga.len.1 ga.len.2
  rw [← same_iff ga gb] at hsame
  have htr : cmpZ (a1 * b2) (b1 * a2) ≤ 0 → cmpZ (b1 * c2) (c1 * b2) ≤ 0 → cmpZ (a1 * c2) (c1 * a2) ≤ 0 := by
    rw [cmpZ_le0, cmpZ_le0, cmpZ_le0]
    exact le_trans3 ga.pos gb.pos gc.pos
  have hwn := i64_wrap_neg (cmp_range (a1 * b2) (b1 * a2))
  have hSm := fun S tk k => Add_g S tk k ga gc
  have hTm := fun S tk k => Add_g S tk k gb gc
  obtain ⟨n, hn⟩ : ∃ n, n = a1 * c2 + c1 * a2 := ⟨_, rfl⟩
  obtain ⟨d, hd⟩ : ∃ n, n = a2 * c2 := ⟨_, rfl⟩
  obtain ⟨m, hm⟩ : ∃ n, n = b1 * c2 + c1 * b2 := ⟨_, rfl⟩
  obtain ⟨e, he⟩ : ∃ n, n = b2 * c2 := ⟨_, rfl⟩
  rw [← hn, ← hd] at hSm
  rw [← hm, ← he] at hTm
  have ls := res_len n d
  have lt := res_len m e
  have hL : ∃ z, (∀ S tk k, cL Tryd.prog 20 [qA (resN n d) (resD n d), qA (resN m e) (resD m e)] S tk k = some (.int z, S, tk, k)) ∧ (fitsQ n d = true → fitsQ m e = true → z = cmpZ (a1 * b2) (b1 * a2)) := by
    refine ⟨_, fun S tk k => Cmp_q S tk k _ _ _ _ (by omega) (by omega) (by omega) (by omega), fun hf hg => ?_⟩
    have g := res_good hf
    have g' := res_good hg
    have hc := res_cross hf
    have hc' := res_cross hg
    rw [g.gN, g.gD, g'.gN, g'.gD]
    have p1 := ga.pos
    have p2 := gb.pos
    have p3 := gc.pos
    have p4 := g.pos
    have p5 := g'.pos
    refine cmp_scale (P := (a2 * c2) * (b2 * c2)) (Q := resD n d * resD m e * (c2 * c2)) (Int.mul_pos (Int.mul_pos p1 p3) (Int.mul_pos p2 p3)) (Int.mul_pos (Int.mul_pos p4 p5) (Int.mul_pos p3 p3)) ?_
    exact add_mono (by rw [← hd, ← hn]; exact hc) (by rw [← he, ← hm]; exact hc')
  obtain ⟨z, hL, hLf⟩ := hL
  clear hn hd hm he ls lt hl
  unfold resQ at hSm hTm
  refine call_pure Tryd.func5 rfl rfl (by decide +kernel) (by decide +kernel) Tryd.ntmps5 rfl rfl _ _ _ (rfl) ?_; rw [RK_KX]
  simp only [qA, ratA, digA] at *
  generalize cmpZ (a1 * b2) (b1 * a2) = x at *
  generalize cmpZ (b1 * c2) (c1 * b2) = y at *
  generalize cmpZ (a1 * c2) (c1 * a2) = w at *
  have hxx : (-x != -x) = false := bne_self_eq_false _
  cases hfs : fitsQ n d with
  | false =>
    rw [hfs] at hSm
    cases hx : decide (x ≤ 0) with
    | false => simp (maxSteps := 1000000) +contextual (disch := first | with_reducible assumption | exact ⟨rfl⟩ | exact ⟨rfl, rfl⟩ | (refine _root_.id ?_; kernel_rfl) | omega) only [evs, ext_mv, nth, put, putT, getT, binInt, binStr, binBool, aUn, outA, resA, mapO, resA1, oneOf, w1, w2, w3, bots, cond_true, cond_false, if_true, if_false, ite_true, ite_false, reduceIte, reduceCtorEq, implies_true, Nat.reduceAdd, Nat.reduceSub, AV.int, AV.bool, AV.str, Nat.reduceBEq, Nat.reduceEqDiff, Nat.reduceMul, Nat.reduceLT, Nat.reduceLeDiff, Int.reduceNeg, BEq.rfl, beq_self_eq_true, tabl, cellsOf, fldA, ldA, stA, entAt, partA, takeN, over, leafOk, Value.oneCell', idxA, nilA, cellsEq, fillA, elemsA, pure1, pure2, reps, chkA, tys, Tryd.results5, KX_draw, KX_drawQ, KX_tail, lastO_one, lastO_more, dropL_one, dropL_more, callP_eq, callM_true, ext_mv1, hF, hAw, hVa, hVb, hVc, hC1, hC2, hC3, hC4, hsame, hwn, hSm, hTm, hL, hx, hxx, bne_self_eq_false, Bool.not_true, Bool.not_false]
    | true =>
      cases hy : decide (y ≤ 0) with
      | false => simp (maxSteps := 1000000) +contextual (disch := first | with_reducible assumption | exact ⟨rfl⟩ | exact ⟨rfl, rfl⟩ | (refine _root_.id ?_; kernel_rfl) | omega) only [evs, ext_mv, nth, put, putT, getT, binInt, binStr, binBool, aUn, outA, resA, mapO, resA1, oneOf, w1, w2, w3, bots, cond_true, cond_false, if_true, if_false, ite_true, ite_false, reduceIte, reduceCtorEq, implies_true, Nat.reduceAdd, Nat.reduceSub, AV.int, AV.bool, AV.str, Nat.reduceBEq, Nat.reduceEqDiff, Nat.reduceMul, Nat.reduceLT, Nat.reduceLeDiff, Int.reduceNeg, BEq.rfl, beq_self_eq_true, tabl, cellsOf, fldA, ldA, stA, entAt, partA, takeN, over, leafOk, Value.oneCell', idxA, nilA, cellsEq, fillA, elemsA, pure1, pure2, reps, chkA, tys, Tryd.results5, KX_draw, KX_drawQ, KX_tail, lastO_one, lastO_more, dropL_one, dropL_more, callP_eq, callM_true, ext_mv1, hF, hAw, hVa, hVb, hVc, hC1, hC2, hC3, hC4, hsame, hwn, hSm, hTm, hL, hx, hy, hxx, bne_self_eq_false, Bool.not_true, Bool.not_false]
      | true =>
        have hw : decide (w > 0) = false := by
          have := htr (by simpa using hx) (by simpa using hy)
          simp; omega
        simp (maxSteps := 1000000) +contextual (disch := first | with_reducible assumption | exact ⟨rfl⟩ | exact ⟨rfl, rfl⟩ | (refine _root_.id ?_; kernel_rfl) | omega) only [evs, ext_mv, nth, put, putT, getT, binInt, binStr, binBool, aUn, outA, resA, mapO, resA1, oneOf, w1, w2, w3, bots, cond_true, cond_false, if_true, if_false, ite_true, ite_false, reduceIte, reduceCtorEq, implies_true, Nat.reduceAdd, Nat.reduceSub, AV.int, AV.bool, AV.str, Nat.reduceBEq, Nat.reduceEqDiff, Nat.reduceMul, Nat.reduceLT, Nat.reduceLeDiff, Int.reduceNeg, BEq.rfl, beq_self_eq_true, tabl, cellsOf, fldA, ldA, stA, entAt, partA, takeN, over, leafOk, Value.oneCell', idxA, nilA, cellsEq, fillA, elemsA, pure1, pure2, reps, chkA, tys, Tryd.results5, KX_draw, KX_drawQ, KX_tail, lastO_one, lastO_more, dropL_one, dropL_more, callP_eq, callM_true, ext_mv1, hF, hAw, hVa, hVb, hVc, hC1, hC2, hC3, hC4, hsame, hwn, hSm, hTm, hL, hx, hy, hw, hxx, bne_self_eq_false, Bool.not_true, Bool.not_false]
  | true =>
    rw [hfs] at hSm
    cases hft : fitsQ m e with
    | false =>
      rw [hft] at hTm
      cases hx : decide (x ≤ 0) with
      | false => simp (maxSteps := 1000000) +contextual (disch := first | with_reducible assumption | exact ⟨rfl⟩ | exact ⟨rfl, rfl⟩ | (refine _root_.id ?_; kernel_rfl) | omega) only [evs, ext_mv, nth, put, putT, getT, binInt, binStr, binBool, aUn, outA, resA, mapO, resA1, oneOf, w1, w2, w3, bots, cond_true, cond_false, if_true, if_false, ite_true, ite_false, reduceIte, reduceCtorEq, implies_true, Nat.reduceAdd, Nat.reduceSub, AV.int, AV.bool, AV.str, Nat.reduceBEq, Nat.reduceEqDiff, Nat.reduceMul, Nat.reduceLT, Nat.reduceLeDiff, Int.reduceNeg, BEq.rfl, beq_self_eq_true, tabl, cellsOf, fldA, ldA, stA, entAt, partA, takeN, over, leafOk, Value.oneCell', idxA, nilA, cellsEq, fillA, elemsA, pure1, pure2, reps, chkA, tys, Tryd.results5, KX_draw, KX_drawQ, KX_tail, lastO_one, lastO_more, dropL_one, dropL_more, callP_eq, callM_true, ext_mv1, hF, hAw, hVa, hVb, hVc, hC1, hC2, hC3, hC4, hsame, hwn, hSm, hTm, hL, hx, hxx, bne_self_eq_false, Bool.not_true, Bool.not_false]
      | true =>
        cases hy : decide (y ≤ 0) with
        | false => simp (maxSteps := 1000000) +contextual (disch := first | with_reducible assumption | exact ⟨rfl⟩ | exact ⟨rfl, rfl⟩ | (refine _root_.id ?_; kernel_rfl) | omega) only [evs, ext_mv, nth, put, putT, getT, binInt, binStr, binBool, aUn, outA, resA, mapO, resA1, oneOf, w1, w2, w3, bots, cond_true, cond_false, if_true, if_false, ite_true, ite_false, reduceIte, reduceCtorEq, implies_true, Nat.reduceAdd, Nat.reduceSub, AV.int, AV.bool, AV.str, Nat.reduceBEq, Nat.reduceEqDiff, Nat.reduceMul, Nat.reduceLT, Nat.reduceLeDiff, Int.reduceNeg, BEq.rfl, beq_self_eq_true, tabl, cellsOf, fldA, ldA, stA, entAt, partA, takeN, over, leafOk, Value.oneCell', idxA, nilA, cellsEq, fillA, elemsA, pure1, pure2, reps, chkA, tys, Tryd.results5, KX_draw, KX_drawQ, KX_tail, lastO_one, lastO_more, dropL_one, dropL_more, callP_eq, callM_true, ext_mv1, hF, hAw, hVa, hVb, hVc, hC1, hC2, hC3, hC4, hsame, hwn, hSm, hTm, hL, hx, hy, hxx, bne_self_eq_false, Bool.not_true, Bool.not_false]
        | true =>
          have hw : decide (w > 0) = false := by
            have := htr (by simpa using hx) (by simpa using hy)
            simp; omega
          simp (maxSteps := 1000000) +contextual (disch := first | with_reducible assumption | exact ⟨rfl⟩ | exact ⟨rfl, rfl⟩ | (refine _root_.id ?_; kernel_rfl) | omega) only [evs, ext_mv, nth, put, putT, getT, binInt, binStr, binBool, aUn, outA, resA, mapO, resA1, oneOf, w1, w2, w3, bots, cond_true, cond_false, if_true, if_false, ite_true, ite_false, reduceIte, reduceCtorEq, implies_true, Nat.reduceAdd, Nat.reduceSub, AV.int, AV.bool, AV.str, Nat.reduceBEq, Nat.reduceEqDiff, Nat.reduceMul, Nat.reduceLT, Nat.reduceLeDiff, Int.reduceNeg, BEq.rfl, beq_self_eq_true, tabl, cellsOf, fldA, ldA, stA, entAt, partA, takeN, over, leafOk, Value.oneCell', idxA, nilA, cellsEq, fillA, elemsA, pure1, pure2, reps, chkA, tys, Tryd.results5, KX_draw, KX_drawQ, KX_tail, lastO_one, lastO_more, dropL_one, dropL_more, callP_eq, callM_true, ext_mv1, hF, hAw, hVa, hVb, hVc, hC1, hC2, hC3, hC4, hsame, hwn, hSm, hTm, hL, hx, hy, hw, hxx, bne_self_eq_false, Bool.not_true, Bool.not_false]
    | true =>
      rw [hft] at hTm
      have hz := hLf hfs hft
      subst hz
      have hzz : (z == z) = true := beq_self_eq_true _
      cases hx : decide (z ≤ 0) with
      | false => simp (maxSteps := 1000000) +contextual (disch := first | with_reducible assumption | exact ⟨rfl⟩ | exact ⟨rfl, rfl⟩ | (refine _root_.id ?_; kernel_rfl) | omega) only [evs, ext_mv, nth, put, putT, getT, binInt, binStr, binBool, aUn, outA, resA, mapO, resA1, oneOf, w1, w2, w3, bots, cond_true, cond_false, if_true, if_false, ite_true, ite_false, reduceIte, reduceCtorEq, implies_true, Nat.reduceAdd, Nat.reduceSub, AV.int, AV.bool, AV.str, Nat.reduceBEq, Nat.reduceEqDiff, Nat.reduceMul, Nat.reduceLT, Nat.reduceLeDiff, Int.reduceNeg, BEq.rfl, beq_self_eq_true, tabl, cellsOf, fldA, ldA, stA, entAt, partA, takeN, over, leafOk, Value.oneCell', idxA, nilA, cellsEq, fillA, elemsA, pure1, pure2, reps, chkA, tys, Tryd.results5, KX_draw, KX_drawQ, KX_tail, lastO_one, lastO_more, dropL_one, dropL_more, callP_eq, callM_true, ext_mv1, hF, hAw, hVa, hVb, hVc, hC1, hC2, hC3, hC4, hsame, hwn, hSm, hTm, hL, hx, hxx, bne_self_eq_false, hzz, Bool.not_true, Bool.not_false]
      | true =>
        cases hy : decide (y ≤ 0) with
        | false => simp (maxSteps := 1000000) +contextual (disch := first | with_reducible assumption | exact ⟨rfl⟩ | exact ⟨rfl, rfl⟩ | (refine _root_.id ?_; kernel_rfl) | omega) only [evs, ext_mv, nth, put, putT, getT, binInt, binStr, binBool, aUn, outA, resA, mapO, resA1, oneOf, w1, w2, w3, bots, cond_true, cond_false, if_true, if_false, ite_true, ite_false, reduceIte, reduceCtorEq, implies_true, Nat.reduceAdd, Nat.reduceSub, AV.int, AV.bool, AV.str, Nat.reduceBEq, Nat.reduceEqDiff, Nat.reduceMul, Nat.reduceLT, Nat.reduceLeDiff, Int.reduceNeg, BEq.rfl, beq_self_eq_true, tabl, cellsOf, fldA, ldA, stA, entAt, partA, takeN, over, leafOk, Value.oneCell', idxA, nilA, cellsEq, fillA, elemsA, pure1, pure2, reps, chkA, tys, Tryd.results5, KX_draw, KX_drawQ, KX_tail, lastO_one, lastO_more, dropL_one, dropL_more, callP_eq, callM_true, ext_mv1, hF, hAw, hVa, hVb, hVc, hC1, hC2, hC3, hC4, hsame, hwn, hSm, hTm, hL, hx, hy, hxx, bne_self_eq_false, hzz, Bool.not_true, Bool.not_false]
        | true =>
          have hw : decide (w > 0) = false := by
            have := htr (by simpa using hx) (by simpa using hy)
            simp; omega
          simp (maxSteps := 1000000) +contextual (disch := first | with_reducible assumption | exact ⟨rfl⟩ | exact ⟨rfl, rfl⟩ | (refine _root_.id ?_; kernel_rfl) | omega) only [evs, ext_mv, nth, put, putT, getT, binInt, binStr, binBool, aUn, outA, resA, mapO, resA1, oneOf, w1, w2, w3, bots, cond_true, cond_false, if_true, if_false, ite_true, ite_false, reduceIte, reduceCtorEq, implies_true, Nat.reduceAdd, Nat.reduceSub, AV.int, AV.bool, AV.str, Nat.reduceBEq, Nat.reduceEqDiff, Nat.reduceMul, Nat.reduceLT, Nat.reduceLeDiff, Int.reduceNeg, BEq.rfl, beq_self_eq_true, tabl, cellsOf, fldA, ldA, stA, entAt, partA, takeN, over, leafOk, Value.oneCell', idxA, nilA, cellsEq, fillA, elemsA, pure1, pure2, reps, chkA, tys, Tryd.results5, KX_draw, KX_drawQ, KX_tail, lastO_one, lastO_more, dropL_one, dropL_more, callP_eq, callM_true, ext_mv1, hF, hAw, hVa, hVb, hVc, hC1, hC2, hC3, hC4, hsame, hwn, hSm, hTm, hL, hx, hy, hw, hxx, bne_self_eq_false, hzz, Bool.not_true, Bool.not_false]
end
end Go.Proofs.YtgadegdhfjnoaaaDoor
/-
  The laws RatField, RatOrders and RatWhole, whatever the fractions are.
-/


namespace Go.Proofs.YtgadegdhfjnoaaaDoor
open Go
theorem good_valid {p : Bool} {l : List Int} {q : Bool} {r : List Int} (h : validQ p l q r = true) : ratA p l q r = qA (V p l) (V q r) ∧ GoodQ (V p l) (V q r) := by
  refine ⟨ratA_valid h, ?_⟩
  have g := good_of p l q r
  unfold nQ dQ at g
  rw [h] at g
  exact g
theorem len_succ {f : Int} (h : (dig f.natAbs).length ≤ 199) : (dig (f + 1).natAbs).length ≤ 200 := by
  rw [dig_len] at h ⊢
  rw [show (200 : Nat) = 199 + 1 from rfl, Nat.pow_succ]
  omega
section
variable (S : List Ent) (tk : List Nat) (k : Nat)
set_option maxRecDepth 100000 in
set_option maxHeartbeats 4000000 in
theorem L03_RatField (x y z : RQ) : cL Tryd.prog 8 [ratA x.p x.l x.q x.r, ratA y.p y.l y.q y.r, ratA z.p z.l z.q z.r] S tk k = some (.bool true, S, tk, k) := by
  by_cases hv : (validQ x.p x.l x.q x.r = true ∧ validQ y.p y.l y.q y.r = true) ∧ validQ z.p z.l z.q z.r = true
  · obtain ⟨e1, g1⟩ := good_valid hv.1.1
    obtain ⟨e2, g2⟩ := good_valid hv.1.2
    obtain ⟨e3, g3⟩ := good_valid hv.2
    rw [e1, e2, e3]
    exact field_good S tk k g1 g2 g3
  have hF := fun S tk k => L03_light S tk k [x, y, z] .tight (by simp)
  have hAw := fun S tk k => L03_awake S tk k
  simp only [List.map_cons, List.map_nil, ratC] at hF
  refine call_pure Tryd.func8 rfl rfl (by decide +kernel) (by decide +kernel) Tryd.ntmps8 rfl rfl _ _ _ (rfl) ?_; rw [RK_KX]
  cases hf : lightF [x, y, z] with
  | false =>
    rw [hf] at hF
    simp (maxSteps := 1000000) +contextual (disch := first | with_reducible assumption | exact ⟨rfl⟩ | exact ⟨rfl, rfl⟩ | (refine _root_.id ?_; kernel_rfl) | omega) only [evs, ext_mv, nth, put, putT, getT, binInt, binStr, binBool, aUn, outA, resA, mapO, resA1, oneOf, w1, w2, w3, bots, cond_true, cond_false, if_true, if_false, ite_true, ite_false, reduceIte, reduceCtorEq, implies_true, Nat.reduceAdd, Nat.reduceSub, AV.int, AV.bool, AV.str, Nat.reduceBEq, Nat.reduceEqDiff, Nat.reduceMul, Nat.reduceLT, Nat.reduceLeDiff, Int.reduceNeg, BEq.rfl, beq_self_eq_true, tabl, cellsOf, fldA, ldA, stA, entAt, partA, takeN, over, leafOk, Value.oneCell', idxA, nilA, cellsEq, fillA, elemsA, pure1, pure2, reps, chkA, tys, Tryd.results8, KX_draw, KX_drawQ, KX_tail, lastO_one, lastO_more, dropL_one, dropL_more, callP_eq, callM_true, ext_mv1, ratA, digA, hF, hAw]
  | true =>
  rw [hf] at hF
  obtain ⟨⟨a1, a2⟩, ⟨a3, a4⟩, a5, a6⟩ := light_three hf
  have hV1 := fun S tk k => rat_Valid S tk k x.p x.l x.q x.r (by omega) (by omega)
  have hV2 := fun S tk k => rat_Valid S tk k y.p y.l y.q y.r (by omega) (by omega)
  have hV3 := fun S tk k => rat_Valid S tk k z.p z.l z.q z.r (by omega) (by omega)
  simp only [ratA, digA] at hV1 hV2 hV3
  cases h1 : validQ x.p x.l x.q x.r with
  | false =>
    rw [h1] at hV1
    simp (maxSteps := 1000000) +contextual (disch := first | with_reducible assumption | exact ⟨rfl⟩ | exact ⟨rfl, rfl⟩ | (refine _root_.id ?_; kernel_rfl) | omega) only [evs, ext_mv, nth, put, putT, getT, binInt, binStr, binBool, aUn, outA, resA, mapO, resA1, oneOf, w1, w2, w3, bots, cond_true, cond_false, if_true, if_false, ite_true, ite_false, reduceIte, reduceCtorEq, implies_true, Nat.reduceAdd, Nat.reduceSub, AV.int, AV.bool, AV.str, Nat.reduceBEq, Nat.reduceEqDiff, Nat.reduceMul, Nat.reduceLT, Nat.reduceLeDiff, Int.reduceNeg, BEq.rfl, beq_self_eq_true, tabl, cellsOf, fldA, ldA, stA, entAt, partA, takeN, over, leafOk, Value.oneCell', idxA, nilA, cellsEq, fillA, elemsA, pure1, pure2, reps, chkA, tys, Tryd.results8, KX_draw, KX_drawQ, KX_tail, lastO_one, lastO_more, dropL_one, dropL_more, callP_eq, callM_true, ext_mv1, ratA, digA, hF, hAw, hV1, Bool.not_true, Bool.not_false]
  | true =>
  rw [h1] at hV1 hv
  cases h2 : validQ y.p y.l y.q y.r with
  | false =>
    rw [h2] at hV2
    simp (maxSteps := 1000000) +contextual (disch := first | with_reducible assumption | exact ⟨rfl⟩ | exact ⟨rfl, rfl⟩ | (refine _root_.id ?_; kernel_rfl) | omega) only [evs, ext_mv, nth, put, putT, getT, binInt, binStr, binBool, aUn, outA, resA, mapO, resA1, oneOf, w1, w2, w3, bots, cond_true, cond_false, if_true, if_false, ite_true, ite_false, reduceIte, reduceCtorEq, implies_true, Nat.reduceAdd, Nat.reduceSub, AV.int, AV.bool, AV.str, Nat.reduceBEq, Nat.reduceEqDiff, Nat.reduceMul, Nat.reduceLT, Nat.reduceLeDiff, Int.reduceNeg, BEq.rfl, beq_self_eq_true, tabl, cellsOf, fldA, ldA, stA, entAt, partA, takeN, over, leafOk, Value.oneCell', idxA, nilA, cellsEq, fillA, elemsA, pure1, pure2, reps, chkA, tys, Tryd.results8, KX_draw, KX_drawQ, KX_tail, lastO_one, lastO_more, dropL_one, dropL_more, callP_eq, callM_true, ext_mv1, ratA, digA, hF, hAw, hV1, hV2, Bool.not_true, Bool.not_false]
  | true =>
  rw [h2] at hV2 hv
  have h3 : validQ z.p z.l z.q z.r = false := by simpa using hv
  rw [h3] at hV3
  simp (maxSteps := 1000000) +contextual (disch := first | with_reducible assumption | exact ⟨rfl⟩ | exact ⟨rfl, rfl⟩ | (refine _root_.id ?_; kernel_rfl) | omega) only [evs, ext_mv, nth, put, putT, getT, binInt, binStr, binBool, aUn, outA, resA, mapO, resA1, oneOf, w1, w2, w3, bots, cond_true, cond_false, if_true, if_false, ite_true, ite_false, reduceIte, reduceCtorEq, implies_true, Nat.reduceAdd, Nat.reduceSub, AV.int, AV.bool, AV.str, Nat.reduceBEq, Nat.reduceEqDiff, Nat.reduceMul, Nat.reduceLT, Nat.reduceLeDiff, Int.reduceNeg, BEq.rfl, beq_self_eq_true, tabl, cellsOf, fldA, ldA, stA, entAt, partA, takeN, over, leafOk, Value.oneCell', idxA, nilA, cellsEq, fillA, elemsA, pure1, pure2, reps, chkA, tys, Tryd.results8, KX_draw, KX_drawQ, KX_tail, lastO_one, lastO_more, dropL_one, dropL_more, callP_eq, callM_true, ext_mv1, ratA, digA, hF, hAw, hV1, hV2, hV3, Bool.not_true, Bool.not_false]
set_option maxRecDepth 100000 in
set_option maxHeartbeats 4000000 in
theorem L03_RatOrders (x y z : RQ) : cL Tryd.prog 5 [ratA x.p x.l x.q x.r, ratA y.p y.l y.q y.r, ratA z.p z.l z.q z.r] S tk k = some (.bool true, S, tk, k) := by
  by_cases hv : (validQ x.p x.l x.q x.r = true ∧ validQ y.p y.l y.q y.r = true) ∧ validQ z.p z.l z.q z.r = true
  · obtain ⟨e1, g1⟩ := good_valid hv.1.1
    obtain ⟨e2, g2⟩ := good_valid hv.1.2
    obtain ⟨e3, g3⟩ := good_valid hv.2
    rw [e1, e2, e3]
    exact orders_good S tk k g1 g2 g3
  have hF := fun S tk k => L03_light S tk k [x, y, z] .tight (by simp)
  have hAw := fun S tk k => L03_awake S tk k
  simp only [List.map_cons, List.map_nil, ratC] at hF
  refine call_pure Tryd.func5 rfl rfl (by decide +kernel) (by decide +kernel) Tryd.ntmps5 rfl rfl _ _ _ (rfl) ?_; rw [RK_KX]
  cases hf : lightF [x, y, z] with
  | false =>
    rw [hf] at hF
    simp (maxSteps := 1000000) +contextual (disch := first | with_reducible assumption | exact ⟨rfl⟩ | exact ⟨rfl, rfl⟩ | (refine _root_.id ?_; kernel_rfl) | omega) only [evs, ext_mv, nth, put, putT, getT, binInt, binStr, binBool, aUn, outA, resA, mapO, resA1, oneOf, w1, w2, w3, bots, cond_true, cond_false, if_true, if_false, ite_true, ite_false, reduceIte, reduceCtorEq, implies_true, Nat.reduceAdd, Nat.reduceSub, AV.int, AV.bool, AV.str, Nat.reduceBEq, Nat.reduceEqDiff, Nat.reduceMul, Nat.reduceLT, Nat.reduceLeDiff, Int.reduceNeg, BEq.rfl, beq_self_eq_true, tabl, cellsOf, fldA, ldA, stA, entAt, partA, takeN, over, leafOk, Value.oneCell', idxA, nilA, cellsEq, fillA, elemsA, pure1, pure2, reps, chkA, tys, Tryd.results5, KX_draw, KX_drawQ, KX_tail, lastO_one, lastO_more, dropL_one, dropL_more, callP_eq, callM_true, ext_mv1, ratA, digA, hF, hAw]
  | true =>
  rw [hf] at hF
  obtain ⟨⟨a1, a2⟩, ⟨a3, a4⟩, a5, a6⟩ := light_three hf
  have hV1 := fun S tk k => rat_Valid S tk k x.p x.l x.q x.r (by omega) (by omega)
  have hV2 := fun S tk k => rat_Valid S tk k y.p y.l y.q y.r (by omega) (by omega)
  have hV3 := fun S tk k => rat_Valid S tk k z.p z.l z.q z.r (by omega) (by omega)
  simp only [ratA, digA] at hV1 hV2 hV3
  cases h1 : validQ x.p x.l x.q x.r with
  | false =>
    rw [h1] at hV1
    simp (maxSteps := 1000000) +contextual (disch := first | with_reducible assumption | exact ⟨rfl⟩ | exact ⟨rfl, rfl⟩ | (refine _root_.id ?_; kernel_rfl) | omega) only [evs, ext_mv, nth, put, putT, getT, binInt, binStr, binBool, aUn, outA, resA, mapO, resA1, oneOf, w1, w2, w3, bots, cond_true, cond_false, if_true, if_false, ite_true, ite_false, reduceIte, reduceCtorEq, implies_true, Nat.reduceAdd, Nat.reduceSub, AV.int, AV.bool, AV.str, Nat.reduceBEq, Nat.reduceEqDiff, Nat.reduceMul, Nat.reduceLT, Nat.reduceLeDiff, Int.reduceNeg, BEq.rfl, beq_self_eq_true, tabl, cellsOf, fldA, ldA, stA, entAt, partA, takeN, over, leafOk, Value.oneCell', idxA, nilA, cellsEq, fillA, elemsA, pure1, pure2, reps, chkA, tys, Tryd.results5, KX_draw, KX_drawQ, KX_tail, lastO_one, lastO_more, dropL_one, dropL_more, callP_eq, callM_true, ext_mv1, ratA, digA, hF, hAw, hV1, Bool.not_true, Bool.not_false]
  | true =>
  rw [h1] at hV1 hv
  cases h2 : validQ y.p y.l y.q y.r with
  | false =>
    rw [h2] at hV2
    simp (maxSteps := 1000000) +contextual (disch := first | with_reducible assumption | exact ⟨rfl⟩ | exact ⟨rfl, rfl⟩ | (refine _root_.id ?_; kernel_rfl) | omega) only [evs, ext_mv, nth, put, putT, getT, binInt, binStr, binBool, aUn, outA, resA, mapO, resA1, oneOf, w1, w2, w3, bots, cond_true, cond_false, if_true, if_false, ite_true, ite_false, reduceIte, reduceCtorEq, implies_true, Nat.reduceAdd, Nat.reduceSub, AV.int, AV.bool, AV.str, Nat.reduceBEq, Nat.reduceEqDiff, Nat.reduceMul, Nat.reduceLT, Nat.reduceLeDiff, Int.reduceNeg, BEq.rfl, beq_self_eq_true, tabl, cellsOf, fldA, ldA, stA, entAt, partA, takeN, over, leafOk, Value.oneCell', idxA, nilA, cellsEq, fillA, elemsA, pure1, pure2, reps, chkA, tys, Tryd.results5, KX_draw, KX_drawQ, KX_tail, lastO_one, lastO_more, dropL_one, dropL_more, callP_eq, callM_true, ext_mv1, ratA, digA, hF, hAw, hV1, hV2, Bool.not_true, Bool.not_false]
  | true =>
  rw [h2] at hV2 hv
  have h3 : validQ z.p z.l z.q z.r = false := by simpa using hv
  rw [h3] at hV3
  simp (maxSteps := 1000000) +contextual (disch := first | with_reducible assumption | exact ⟨rfl⟩ | exact ⟨rfl, rfl⟩ | (refine _root_.id ?_; kernel_rfl) | omega) only [evs, ext_mv, nth, put, putT, getT, binInt, binStr, binBool, aUn, outA, resA, mapO, resA1, oneOf, w1, w2, w3, bots, cond_true, cond_false, if_true, if_false, ite_true, ite_false, reduceIte, reduceCtorEq, implies_true, Nat.reduceAdd, Nat.reduceSub, AV.int, AV.bool, AV.str, Nat.reduceBEq, Nat.reduceEqDiff, Nat.reduceMul, Nat.reduceLT, Nat.reduceLeDiff, Int.reduceNeg, BEq.rfl, beq_self_eq_true, tabl, cellsOf, fldA, ldA, stA, entAt, partA, takeN, over, leafOk, Value.oneCell', idxA, nilA, cellsEq, fillA, elemsA, pure1, pure2, reps, chkA, tys, Tryd.results5, KX_draw, KX_drawQ, KX_tail, lastO_one, lastO_more, dropL_one, dropL_more, callP_eq, callM_true, ext_mv1, ratA, digA, hF, hAw, hV1, hV2, hV3, Bool.not_true, Bool.not_false]
set_option maxRecDepth 100000 in
set_option maxHeartbeats 4000000 in
theorem whole_good {n d : Int} (g : GoodQ n d) (hn : (dig n.natAbs).length ≤ 199) (hd : (dig d.natAbs).length ≤ 199) : cL Tryd.prog 9 [qA n d] S tk k = some (.bool true, S, tk, k) := by
  have hAw := fun S tk k => L03_awake S tk k
  have hV := fun S tk k => Valid_good S tk k g
  have hO := fun S tk k => big_Of S tk k 1 (i64_s (by omega))
  have hF := fun S tk k => Floor_q S tk k n d g.len.1 g.len.2
  have hC := fun S tk k => Ceil_q S tk k n d g.len.1 g.len.2
  have gn := g.neg
  have hF2 := fun S tk k => Floor_q S tk k (-n) d gn.len.1 gn.len.2
  rw [g.gN, g.gD] at hF hC
  rw [gn.gN, gn.gD] at hF2
  have hpos := g.pos
  have lf : (dig (n / d).natAbs).length ≤ 199 := Nat.le_trans (dig_len.2 (Nat.lt_of_le_of_lt (floor_abs hpos) (dig_len.1 (Nat.le_refl _)))) hn
  have lc : (dig (-n / d).natAbs).length ≤ 199 := Nat.le_trans (dig_len.2 (Nat.lt_of_le_of_lt (floor_abs hpos) (dig_len.1 (Nat.le_refl _)))) (by rw [Int.natAbs_neg]; exact hn)
  have lf1 := len_succ lf
  have l11 : (dig (Int.natAbs 1)).length ≤ 200 := l200 (by decide)
  have hA := fun S tk k => told (E := E1) (big_Add S tk k (decide (n / d < 0)) (decide ((1 : Int) < 0)) (dig (n / d).natAbs) (dig (Int.natAbs 1)) (by omega) (by omega))
  rw [V_of _ (by omega), V_of _ l11] at hA
  have hok : okZ (n / d + 1) = true := by simp [okZ]; omega
  have hfit : fitZ (n / d + 1) = n / d + 1 := by unfold fitZ; rw [if_pos hok]
  unfold sgnZ at hA
  rw [hok, hfit] at hA
  have g1 : ∀ f : Int, (dig f.natAbs).length ≤ 200 → GoodQ f 1 := fun f hf => ⟨by omega, by simp, hf, l11⟩
  have hX := fun S tk k => Of_z S tk k (n / d) 1 (by omega) l11
  have hY := fun S tk k => Of_z S tk k (n / d + 1) 1 lf1 l11
  obtain ⟨x1, x2, x3⟩ := (g1 (n / d) (by omega)).fits
  obtain ⟨y1, y2, y3⟩ := (g1 (n / d + 1) lf1).fits
  unfold resQ at hX hY
  rw [x1, x2, x3] at hX
  rw [y1, y2, y3] at hY
  have hC1 := fun S tk k => Cmp_g S tk k (g1 (n / d) (by omega)) g
  have hC2 := fun S tk k => Cmp_g S tk k g (g1 (n / d + 1) lf1)
  have m1 := Int.emod_nonneg n (show d ≠ 0 by omega)
  have m2 := Int.emod_lt_of_pos n hpos
  have m3 := Int.emod_add_mul_ediv n d
  have k1 : decide (cmpZ (n / d * d) (n * 1) > 0) = false := by
    have : cmpZ (n / d * d) (n * 1) ≤ 0 := cmpZ_le0.2 (by rw [Int.mul_comm]; omega)
    exact decide_eq_false (by omega)
  have k2 : cmpZ (n * 1) ((n / d + 1) * d) = -1 := cmpZ_lt (by rw [Int.add_mul, Int.mul_comm (n / d)]; omega)
  rw [k2] at hC2
  have hN := fun S tk k => told (E := E1) (big_Neg S tk k (decide (n < 0)) (dig n.natAbs) (by omega))
  rw [V_of _ (by omega)] at hN
  have hM := fun S tk k => told (E := E1) (big_Neg S tk k (decide (-n / d < 0)) (dig (-n / d).natAbs) (by omega))
  rw [V_of _ (by omega)] at hM
  have hSB := fun S tk k => SameBig_self S tk k (-(-n / d)) (by rw [Int.natAbs_neg]; omega)
  have hBV1 := fun S tk k => told (E := E1) (big_Valid S tk k (decide (n / d < 0)) (dig (n / d).natAbs) .unk (by omega))
  rw [valid_of _ (by omega)] at hBV1
  have hBV2 := fun S tk k => told (E := E1) (big_Valid S tk k (decide (-(-n / d) < 0)) (dig (-(-n / d)).natAbs) .unk (by rw [Int.natAbs_neg]; omega))
  rw [valid_of _ (by rw [Int.natAbs_neg]; omega)] at hBV2
  have d1 : decide (((dig n.natAbs).length : Int) > 199) = false := by simp; omega
  have d2 : decide (((dig d.natAbs).length : Int) > 199) = false := by simp; omega
  have iq : ((-1 : Int) != -1) = false := rfl
  clear m1 m2 m3
  refine call_pure Tryd.func9 rfl rfl (by decide +kernel) (by decide +kernel) Tryd.ntmps9 rfl rfl _ _ _ (rfl) ?_; rw [RK_KX]
  simp only [zA, bigA, qA, ratA, digA] at *
  generalize cmpZ (n / d * d) (n * 1) = c1 at *
  generalize n / d + 1 = f1 at *
  generalize n / d = f at *
  generalize -(-n / d) = c at *
  generalize -n / d = e at *
  generalize -n = m at *
  simp (maxSteps := 1000000) +contextual (disch := first | with_reducible assumption | exact ⟨rfl⟩ | exact ⟨rfl, rfl⟩ | (refine _root_.id ?_; kernel_rfl) | omega) only [evs, ext_mv, nth, put, putT, getT, binInt, binStr, binBool, aUn, outA, resA, mapO, resA1, oneOf, w1, w2, w3, bots, cond_true, cond_false, if_true, if_false, ite_true, ite_false, reduceIte, reduceCtorEq, implies_true, Nat.reduceAdd, Nat.reduceSub, AV.int, AV.bool, AV.str, Nat.reduceBEq, Nat.reduceEqDiff, Nat.reduceMul, Nat.reduceLT, Nat.reduceLeDiff, Int.reduceNeg, BEq.rfl, beq_self_eq_true, tabl, cellsOf, fldA, ldA, stA, entAt, partA, takeN, over, leafOk, Value.oneCell', idxA, nilA, cellsEq, fillA, elemsA, pure1, pure2, reps, chkA, tys, Tryd.results9, KX_draw, KX_drawQ, KX_tail, lastO_one, lastO_more, dropL_one, dropL_more, callP_eq, callM_true, ext_mv1, hAw, hV, hO, hF, hC, hF2, hA, hX, hY, hC1, hC2, k1, hN, hM, hSB, hBV1, hBV2, d1, d2, iq, Bool.not_true, Bool.not_false]
set_option maxRecDepth 100000 in
set_option maxHeartbeats 4000000 in
theorem L03_RatWhole (x : RQ) : cL Tryd.prog 9 [ratA x.p x.l x.q x.r] S tk k = some (.bool true, S, tk, k) := by
  by_cases hv : (x.l.length ≤ 199 ∧ x.r.length ≤ 199) ∧ validQ x.p x.l x.q x.r = true
  · obtain ⟨e1, g1⟩ := good_valid hv.2
    obtain ⟨v1, v2, -⟩ := valid_parts hv.2
    rw [e1]
    refine whole_good S tk k g1 ?_ ?_
    · rw [← (valid_sign v1).2]; exact hv.1.1
    · rw [← (valid_sign v2).2]; exact hv.1.2
  have hAw := fun S tk k => L03_awake S tk k
  refine call_pure Tryd.func9 rfl rfl (by decide +kernel) (by decide +kernel) Tryd.ntmps9 rfl rfl _ _ _ (rfl) ?_; rw [RK_KX]
  by_cases h1 : x.l.length ≤ 199
  · have d1 : decide ((x.l.length : Int) > 199) = false := by simp; omega
    by_cases h2 : x.r.length ≤ 199
    · have d2 : decide ((x.r.length : Int) > 199) = false := by simp; omega
      have hV := fun S tk k => rat_Valid S tk k x.p x.l x.q x.r (by omega) (by omega)
      have h3 : validQ x.p x.l x.q x.r = false := by
        cases h : validQ x.p x.l x.q x.r with
        | false => rfl
        | true => exact absurd ⟨⟨h1, h2⟩, h⟩ hv
      rw [h3] at hV
      simp only [ratA, digA] at hV
      simp (maxSteps := 1000000) +contextual (disch := first | with_reducible assumption | exact ⟨rfl⟩ | exact ⟨rfl, rfl⟩ | (refine _root_.id ?_; kernel_rfl) | omega) only [evs, ext_mv, nth, put, putT, getT, binInt, binStr, binBool, aUn, outA, resA, mapO, resA1, oneOf, w1, w2, w3, bots, cond_true, cond_false, if_true, if_false, ite_true, ite_false, reduceIte, reduceCtorEq, implies_true, Nat.reduceAdd, Nat.reduceSub, AV.int, AV.bool, AV.str, Nat.reduceBEq, Nat.reduceEqDiff, Nat.reduceMul, Nat.reduceLT, Nat.reduceLeDiff, Int.reduceNeg, BEq.rfl, beq_self_eq_true, tabl, cellsOf, fldA, ldA, stA, entAt, partA, takeN, over, leafOk, Value.oneCell', idxA, nilA, cellsEq, fillA, elemsA, pure1, pure2, reps, chkA, tys, Tryd.results9, KX_draw, KX_drawQ, KX_tail, lastO_one, lastO_more, dropL_one, dropL_more, callP_eq, callM_true, ext_mv1, ratA, digA, hAw, d1, d2, hV, Bool.not_true, Bool.not_false]
    · have d2 : decide ((x.r.length : Int) > 199) = true := by simp; omega
      simp (maxSteps := 1000000) +contextual (disch := first | with_reducible assumption | exact ⟨rfl⟩ | exact ⟨rfl, rfl⟩ | (refine _root_.id ?_; kernel_rfl) | omega) only [evs, ext_mv, nth, put, putT, getT, binInt, binStr, binBool, aUn, outA, resA, mapO, resA1, oneOf, w1, w2, w3, bots, cond_true, cond_false, if_true, if_false, ite_true, ite_false, reduceIte, reduceCtorEq, implies_true, Nat.reduceAdd, Nat.reduceSub, AV.int, AV.bool, AV.str, Nat.reduceBEq, Nat.reduceEqDiff, Nat.reduceMul, Nat.reduceLT, Nat.reduceLeDiff, Int.reduceNeg, BEq.rfl, beq_self_eq_true, tabl, cellsOf, fldA, ldA, stA, entAt, partA, takeN, over, leafOk, Value.oneCell', idxA, nilA, cellsEq, fillA, elemsA, pure1, pure2, reps, chkA, tys, Tryd.results9, KX_draw, KX_drawQ, KX_tail, lastO_one, lastO_more, dropL_one, dropL_more, callP_eq, callM_true, ext_mv1, ratA, digA, hAw, d1, d2]
  · have d1 : decide ((x.l.length : Int) > 199) = true := by simp; omega
    simp (maxSteps := 1000000) +contextual (disch := first | with_reducible assumption | exact ⟨rfl⟩ | exact ⟨rfl, rfl⟩ | (refine _root_.id ?_; kernel_rfl) | omega) only [evs, ext_mv, nth, put, putT, getT, binInt, binStr, binBool, aUn, outA, resA, mapO, resA1, oneOf, w1, w2, w3, bots, cond_true, cond_false, if_true, if_false, ite_true, ite_false, reduceIte, reduceCtorEq, implies_true, Nat.reduceAdd, Nat.reduceSub, AV.int, AV.bool, AV.str, Nat.reduceBEq, Nat.reduceEqDiff, Nat.reduceMul, Nat.reduceLT, Nat.reduceLeDiff, Int.reduceNeg, BEq.rfl, beq_self_eq_true, tabl, cellsOf, fldA, ldA, stA, entAt, partA, takeN, over, leafOk, Value.oneCell', idxA, nilA, cellsEq, fillA, elemsA, pure1, pure2, reps, chkA, tys, Tryd.results9, KX_draw, KX_drawQ, KX_tail, lastO_one, lastO_more, dropL_one, dropL_more, callP_eq, callM_true, ext_mv1, ratA, digA, hAw, d1]
end
end Go.Proofs.YtgadegdhfjnoaaaDoor
