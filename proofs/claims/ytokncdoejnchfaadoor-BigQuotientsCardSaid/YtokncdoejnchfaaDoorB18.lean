/-
  The law BigQuotients.
-/
import Derived.Test.YtokncdoejnchfaaDoorB17
namespace Go.Proofs.YtokncdoejnchfaaDoor
open Go

theorem cmp_neg (b : Int) : decide (cmpZ b 0 < 0) = decide (b < 0) := by
  unfold cmpZ
  by_cases h : b < 0
  · simp [h]
  · rw [if_neg h]; split <;> simp [h]
theorem cmp_nz (b : Int) : (cmpZ b 0 == 0) = decide (b = 0) := by
  unfold cmpZ
  by_cases h : b < 0
  · have : b ≠ 0 := by omega
    simp [h, this]
  · rw [if_neg h]; split
    · have : b ≠ 0 := by omega
      simp [this]
    · have : b = 0 := by omega
      simp [this]
theorem cmp_opp {R b : Int} (h0 : b ≠ 0) (h1 : 0 < b → R < b) (h2 : b < 0 → b < R) : IntKind.i64.wrap (0 - cmpZ b 0) = cmpZ R b := by
  rcases Int.lt_or_gt_of_ne h0 with h | h
  · have e : cmpZ b 0 = -1 := by simp [cmpZ, h]
    have e2 : cmpZ R b = 1 := by
      unfold cmpZ; rw [if_neg (by have := h2 h; omega), if_pos (h2 h)]
    rw [e, e2]; rfl
  · have e : cmpZ b 0 = 1 := by unfold cmpZ; rw [if_neg (by omega), if_pos (by omega)]
    have e2 : cmpZ R b = -1 := by unfold cmpZ; rw [if_pos (h1 (by omega))]
    rw [e, e2]; rfl
theorem fmod_gcd_left {a b : Int} (hb : b ≠ 0) : a.fmod ((a.gcd b : Nat) : Int) = 0 := by
  rw [Int.fmod_eq_emod_of_nonneg _ (Int.natCast_nonneg _)]
  exact Int.emod_eq_zero_of_dvd (Int.gcd_dvd_left ..)
theorem fmod_gcd_right {a b : Int} (hb : b ≠ 0) : b.fmod ((a.gcd b : Nat) : Int) = 0 := by
  rw [Int.fmod_eq_emod_of_nonneg _ (Int.natCast_nonneg _)]
  exact Int.emod_eq_zero_of_dvd (Int.gcd_dvd_right ..)
section
variable (S : List Ent) (tk : List Nat) (k : Nat)
set_option maxRecDepth 100000 in
set_option maxHeartbeats 1000000 in
theorem L02_BigQuotients [ExtOk Tryd.prog] (p : Bool) (l : List Int) (q : Bool) (r : List Int) : cL Tryd.prog 8 [bigA p l, bigA q r] S tk k = some (.bool true, S, tk, k) := by
  have hL1 := fun S tk k => R02_Long S tk k p l 100
  have hL2 := fun S tk k => R02_Long S tk k q r 100
  simp only [bigA, digA] at hL1 hL2
  refine call_pure Tryd.func8 rfl rfl (by decide +kernel) (by decide +kernel) Tryd.ntmps8 rfl rfl _ _ _ rfl ?_; rw [RK_KX]
  by_cases h1 : 100 < l.length
  · have d1 : decide ((l.length : Int) > 100) = true := by simp; omega
    simp (maxSteps := 1000000) +contextual (disch := first | with_reducible assumption | exact ⟨rfl⟩ | (refine _root_.id ?_; kernel_rfl) | omega) only [KX_seq, KX_skip, KX_exit, KX_ret, KX_if, KX_block, KX_region, CX_seq, CX_block, CX_loop, CX_exit_seq, CX_exit_block, CX_exit_loop, CX_ret, CX_ret_nil, CX_normal_nil, NX_some, NS_some, BR_true, BR_false, BR_not, fin1_BR, finS_BR, RX_nil, RX_guard, RX_move, RX_assign, RX_pick, RX_bin, RX_un, RX_conv, RX_extract, RX_field, RX_indexAddr, RX_fieldAddr, RX_index, RX_build, RX_buildSlice, RX_slice, RX_makeFunc, RX_load, RX_store, RX_alloc, RX_box, RX_append, RX_len, RX_call, RX_callV, wantD_some, wantV_bool, wantV_undef, DX_zero, DX_succ, asB_bool, nth, put, putT, getT, opv_tmp, opv_const, opv_func, cst_int, cst_bool, cst_string, cst_nil, cst_ptr, pickA_true, pickA_false, pickA_bool, extA_tup, fldV_agg, bldA_some, litA_some, callV_fn, aBin_int, aBin_str, aBin_bool, binInt, binStr, binBool, aUn, outA, resA, mapO, resA1, oneOf, fin1_some, finS_some, w1, w2, w3, bots, lenV_str, lenV_frz, lenV_sref, List.map_cons, List.map_nil, List.cons_append, List.nil_append, List.length_cons, List.length_nil, List.toList_toArray, Option.map_some, Option.map_none, Option.bind_some, Option.bind_none, Option.isSome_some, beq_true, beq_false, Bool.true_and, Bool.false_and, Bool.and_true, Bool.and_false, Bool.true_or, Bool.or_true, Bool.false_or, Bool.or_false, Bool.not_true, Bool.not_false, cond_true, cond_false, if_true, if_false, ite_true, ite_false, reduceIte, reduceCtorEq, Bool.false_eq_true, true_implies, false_implies, implies_true, and_true, true_and, Nat.reduceAdd, Nat.reduceSub, AV.int, AV.bool, AV.str, Nat.zero_add, fin1_NX_not, fin1_NX_if, fin1_NS_not, fin1_NS_if, finS_NX_not, finS_NX_if, finS_NS_not, finS_NS_if, Option.some.injEq, AV.tup.injEq, AV.prim.injEq, AV.agg.injEq, AV.frz.injEq, Value.int.injEq, Value.bool.injEq, Value.string.injEq, List.cons.injEq, decide_true, decide_false, List.take_zero, List.take_nil, List.take_succ_cons, Nat.reduceBEq, Nat.reduceEqDiff, Nat.reduceMul, Nat.reduceLT, Nat.reduceLeDiff, Int.reduceNeg, BEq.rfl, beq_self_eq_true, tabl, cellsOf, fldA, ldA, stA, entAt, partA, takeN, over, leafOk, List.all_cons, List.all_nil, Value.oneCell', List.drop_zero, List.drop_succ_cons, List.drop_nil, List.length_map, idxA, intN_cast, intN_zero, aBin_agg, aggB_eql, aggB_neq, aBin_nil, nilB_eql, nilB_neq, nilA, cellsEq, cellEq_int, cellEq_str, cellEq_bool, apA_eq, apB_one, apB_all, entAt_mid, put_new, put_mid, take_two, fillA, elemsA, pure1, pure2, List.replicate_succ, List.replicate_zero, reps, aConv_int, convI_some, aConv_str, RX_makeSlice, RX_makeSlice0, RX_copy, RX_appendS, RX_nilCheck, RX_min, RX_max, cvA_int, cvA_str, minA_int, maxA_int, aBin_refNil, aBin_fptrNil, aBin_nilNil, ptrNil_eql, ptrNil_neq, fz3_tup, fz3_agg, fz3_prim, fz3_frz, fz3_ref, fz3_fn, fz3_sref, fz2_agg, fz2_prim, fz2_frz, fz2_ref, fz2_fn, fz2_sref, fz1_prim, fz1_frz, fz1_ref, fz1_fn, fz1_sref, fz1_old, fzB_some, chkA, finM_BR, ext_mv, apB1_frz, apM_false, apM_true, tys, Tryd.results8, KX_draw, KX_drawQ, callP_eq, callM_true, bigA, digA, hL1, d1, L02_awake]
  have d1 : decide ((l.length : Int) > 100) = false := by simp; omega
  by_cases h2 : 100 < r.length
  · have d2 : decide ((r.length : Int) > 100) = true := by simp; omega
    simp (maxSteps := 1000000) +contextual (disch := first | with_reducible assumption | exact ⟨rfl⟩ | (refine _root_.id ?_; kernel_rfl) | omega) only [KX_seq, KX_skip, KX_exit, KX_ret, KX_if, KX_block, KX_region, CX_seq, CX_block, CX_loop, CX_exit_seq, CX_exit_block, CX_exit_loop, CX_ret, CX_ret_nil, CX_normal_nil, NX_some, NS_some, BR_true, BR_false, BR_not, fin1_BR, finS_BR, RX_nil, RX_guard, RX_move, RX_assign, RX_pick, RX_bin, RX_un, RX_conv, RX_extract, RX_field, RX_indexAddr, RX_fieldAddr, RX_index, RX_build, RX_buildSlice, RX_slice, RX_makeFunc, RX_load, RX_store, RX_alloc, RX_box, RX_append, RX_len, RX_call, RX_callV, wantD_some, wantV_bool, wantV_undef, DX_zero, DX_succ, asB_bool, nth, put, putT, getT, opv_tmp, opv_const, opv_func, cst_int, cst_bool, cst_string, cst_nil, cst_ptr, pickA_true, pickA_false, pickA_bool, extA_tup, fldV_agg, bldA_some, litA_some, callV_fn, aBin_int, aBin_str, aBin_bool, binInt, binStr, binBool, aUn, outA, resA, mapO, resA1, oneOf, fin1_some, finS_some, w1, w2, w3, bots, lenV_str, lenV_frz, lenV_sref, List.map_cons, List.map_nil, List.cons_append, List.nil_append, List.length_cons, List.length_nil, List.toList_toArray, Option.map_some, Option.map_none, Option.bind_some, Option.bind_none, Option.isSome_some, beq_true, beq_false, Bool.true_and, Bool.false_and, Bool.and_true, Bool.and_false, Bool.true_or, Bool.or_true, Bool.false_or, Bool.or_false, Bool.not_true, Bool.not_false, cond_true, cond_false, if_true, if_false, ite_true, ite_false, reduceIte, reduceCtorEq, Bool.false_eq_true, true_implies, false_implies, implies_true, and_true, true_and, Nat.reduceAdd, Nat.reduceSub, AV.int, AV.bool, AV.str, Nat.zero_add, fin1_NX_not, fin1_NX_if, fin1_NS_not, fin1_NS_if, finS_NX_not, finS_NX_if, finS_NS_not, finS_NS_if, Option.some.injEq, AV.tup.injEq, AV.prim.injEq, AV.agg.injEq, AV.frz.injEq, Value.int.injEq, Value.bool.injEq, Value.string.injEq, List.cons.injEq, decide_true, decide_false, List.take_zero, List.take_nil, List.take_succ_cons, Nat.reduceBEq, Nat.reduceEqDiff, Nat.reduceMul, Nat.reduceLT, Nat.reduceLeDiff, Int.reduceNeg, BEq.rfl, beq_self_eq_true, tabl, cellsOf, fldA, ldA, stA, entAt, partA, takeN, over, leafOk, List.all_cons, List.all_nil, Value.oneCell', List.drop_zero, List.drop_succ_cons, List.drop_nil, List.length_map, idxA, intN_cast, intN_zero, aBin_agg, aggB_eql, aggB_neq, aBin_nil, nilB_eql, nilB_neq, nilA, cellsEq, cellEq_int, cellEq_str, cellEq_bool, apA_eq, apB_one, apB_all, entAt_mid, put_new, put_mid, take_two, fillA, elemsA, pure1, pure2, List.replicate_succ, List.replicate_zero, reps, aConv_int, convI_some, aConv_str, RX_makeSlice, RX_makeSlice0, RX_copy, RX_appendS, RX_nilCheck, RX_min, RX_max, cvA_int, cvA_str, minA_int, maxA_int, aBin_refNil, aBin_fptrNil, aBin_nilNil, ptrNil_eql, ptrNil_neq, fz3_tup, fz3_agg, fz3_prim, fz3_frz, fz3_ref, fz3_fn, fz3_sref, fz2_agg, fz2_prim, fz2_frz, fz2_ref, fz2_fn, fz2_sref, fz1_prim, fz1_frz, fz1_ref, fz1_fn, fz1_sref, fz1_old, fzB_some, chkA, finM_BR, ext_mv, apB1_frz, apM_false, apM_true, tys, Tryd.results8, KX_draw, KX_drawQ, callP_eq, callM_true, bigA, digA, hL1, d1, hL2, d2, L02_awake]
  have d2 : decide ((r.length : Int) > 100) = false := by simp; omega
  have va := V_small p l (n := 100) (by omega)
  have vb := V_small q r (n := 100) (by omega)
  have hA := fun S tk k => big_Div S tk k p q l r (by omega) (by omega)
  have hZ := fun S tk k => Cmp_zero S tk k q r (by omega)
  have hG := fun S tk k => big_Gcd S tk k p q l r (by omega) (by omega)
  generalize ha : V p l = a at *
  generalize hb : V q r = b at *
  have ka : okZ a = true := okZ_of va (by decide)
  have kb : okZ b = true := okZ_of vb (by decide)
  have dz := cmp_nz b
  have d4 : (((0 : Nat) : Int) == 0) = true := rfl
  by_cases h0 : b = 0
  · subst h0
    have hA' : divA a 0 = .tup [.agg [.bool false, .frz [] .unk], .agg [.bool false, .frz [] .unk], .bool false] := rfl
    rw [hA'] at hA
    have d3 : (cmpZ 0 0 == 0) = true := rfl
    simp only [bigA, digA] at hA hZ
    simp (maxSteps := 1000000) +contextual (disch := first | with_reducible assumption | exact ⟨rfl⟩ | (refine _root_.id ?_; kernel_rfl) | omega) only [KX_seq, KX_skip, KX_exit, KX_ret, KX_if, KX_block, KX_region, CX_seq, CX_block, CX_loop, CX_exit_seq, CX_exit_block, CX_exit_loop, CX_ret, CX_ret_nil, CX_normal_nil, NX_some, NS_some, BR_true, BR_false, BR_not, fin1_BR, finS_BR, RX_nil, RX_guard, RX_move, RX_assign, RX_pick, RX_bin, RX_un, RX_conv, RX_extract, RX_field, RX_indexAddr, RX_fieldAddr, RX_index, RX_build, RX_buildSlice, RX_slice, RX_makeFunc, RX_load, RX_store, RX_alloc, RX_box, RX_append, RX_len, RX_call, RX_callV, wantD_some, wantV_bool, wantV_undef, DX_zero, DX_succ, asB_bool, nth, put, putT, getT, opv_tmp, opv_const, opv_func, cst_int, cst_bool, cst_string, cst_nil, cst_ptr, pickA_true, pickA_false, pickA_bool, extA_tup, fldV_agg, bldA_some, litA_some, callV_fn, aBin_int, aBin_str, aBin_bool, binInt, binStr, binBool, aUn, outA, resA, mapO, resA1, oneOf, fin1_some, finS_some, w1, w2, w3, bots, lenV_str, lenV_frz, lenV_sref, List.map_cons, List.map_nil, List.cons_append, List.nil_append, List.length_cons, List.length_nil, List.toList_toArray, Option.map_some, Option.map_none, Option.bind_some, Option.bind_none, Option.isSome_some, beq_true, beq_false, Bool.true_and, Bool.false_and, Bool.and_true, Bool.and_false, Bool.true_or, Bool.or_true, Bool.false_or, Bool.or_false, Bool.not_true, Bool.not_false, cond_true, cond_false, if_true, if_false, ite_true, ite_false, reduceIte, reduceCtorEq, Bool.false_eq_true, true_implies, false_implies, implies_true, and_true, true_and, Nat.reduceAdd, Nat.reduceSub, AV.int, AV.bool, AV.str, Nat.zero_add, fin1_NX_not, fin1_NX_if, fin1_NS_not, fin1_NS_if, finS_NX_not, finS_NX_if, finS_NS_not, finS_NS_if, Option.some.injEq, AV.tup.injEq, AV.prim.injEq, AV.agg.injEq, AV.frz.injEq, Value.int.injEq, Value.bool.injEq, Value.string.injEq, List.cons.injEq, decide_true, decide_false, List.take_zero, List.take_nil, List.take_succ_cons, Nat.reduceBEq, Nat.reduceEqDiff, Nat.reduceMul, Nat.reduceLT, Nat.reduceLeDiff, Int.reduceNeg, BEq.rfl, beq_self_eq_true, tabl, cellsOf, fldA, ldA, stA, entAt, partA, takeN, over, leafOk, List.all_cons, List.all_nil, Value.oneCell', List.drop_zero, List.drop_succ_cons, List.drop_nil, List.length_map, idxA, intN_cast, intN_zero, aBin_agg, aggB_eql, aggB_neq, aBin_nil, nilB_eql, nilB_neq, nilA, cellsEq, cellEq_int, cellEq_str, cellEq_bool, apA_eq, apB_one, apB_all, entAt_mid, put_new, put_mid, take_two, fillA, elemsA, pure1, pure2, List.replicate_succ, List.replicate_zero, reps, aConv_int, convI_some, aConv_str, RX_makeSlice, RX_makeSlice0, RX_copy, RX_appendS, RX_nilCheck, RX_min, RX_max, cvA_int, cvA_str, minA_int, maxA_int, aBin_refNil, aBin_fptrNil, aBin_nilNil, ptrNil_eql, ptrNil_neq, fz3_tup, fz3_agg, fz3_prim, fz3_frz, fz3_ref, fz3_fn, fz3_sref, fz2_agg, fz2_prim, fz2_frz, fz2_ref, fz2_fn, fz2_sref, fz1_prim, fz1_frz, fz1_ref, fz1_fn, fz1_sref, fz1_old, fzB_some, chkA, finM_BR, ext_mv, apB1_frz, apM_false, apM_true, tys, Tryd.results8, KX_draw, KX_drawQ, callP_eq, callM_true, bigA, digA, hL1, d1, hL2, d2, hA, hZ, d3, d4, L02_awake]
  have d3 : (cmpZ b 0 == 0) = false := by rw [dz]; simp [h0]
  obtain ⟨m1, m2, m3, m4⟩ := fmod_facts (a := a) h0
  have m5 := fdiv_abs (a := a) (b := b)
  rw [if_neg h0] at m5
  have kQ := okZ_abs ka m5
  have kR := okZ_abs kb (Nat.le_of_lt m1)
  have hA' : divA a b = .tup [zA (a.fdiv b), zA (a.fmod b), .bool true] := by simp [divA, h0]
  rw [hA'] at hA
  generalize a.fdiv b = Q at *
  generalize a.fmod b = R at *
  have kP : okZ (b * Q) = true := by
    have e : b * Q = a + (-R) := by omega
    rw [e]
    refine okZ_of (m := 101) (lt_add va ?_) (by decide)
    rw [Int.natAbs_neg]; exact Nat.lt_trans m1 vb
  obtain ⟨s1, e1, q1, v1, n1⟩ := zA_of kQ
  obtain ⟨e2, q2, v2, n2⟩ : ∃ e, zA R = bigA (decide (R < 0)) e ∧ V (decide (R < 0)) e = R ∧ e.length ≤ 200 := ⟨_, rfl, V_zA kR, zA_len kR⟩
  obtain ⟨s3, e3, q3, v3, n3⟩ := zA_of kP
  obtain ⟨s4, e4, q4, v4, n4⟩ := zA_of ka
  have kg : okZ ((a.gcd b : Nat) : Int) = true := by
    refine okZ_abs kb ?_
    exact Nat.le_of_dvd (by omega) (Nat.gcd_dvd_right a.natAbs b.natAbs)
  have hg0 : ((a.gcd b : Nat) : Int) ≠ 0 := fun h => h0 (Int.gcd_eq_zero_iff.1 (show a.gcd b = 0 by omega)).2
  have hgn : (decide (((a.gcd b : Nat) : Int) < 0)) = false := by simp
  have w1' := fmod_gcd_left (a := a) h0
  have w2' := fmod_gcd_right (a := a) h0
  generalize hgg : ((a.gcd b : Nat) : Int) = g at *
  obtain ⟨e5, q5, v5, n5⟩ : ∃ e, zA g = bigA false e ∧ V false e = g ∧ e.length ≤ 200 := ⟨dig g.natAbs, by rw [zA, hgn], by rw [← hgn]; exact V_zA kg, zA_len kg⟩
  have hM := fun S tk k => big_Mul' S tk k q s1 r e1 (by omega) (by omega)
  rw [hb, v1, sgnZ, fit_of kP, kP, q3] at hM
  have hS := fun S tk k => big_Add S tk k s3 (decide (R < 0)) e3 e2 (by omega) (by omega)
  rw [v3, v2, ← m2, sgnZ, fit_of ka, ka, q4] at hS
  have hC1 := fun S tk k => big_Cmp S tk k s4 p e4 l (by omega) (by omega)
  rw [v4, ha, cmp_self] at hC1
  have hC2 := fun S tk k => Cmp_zero S tk k (decide (R < 0)) e2 (by omega)
  rw [v2] at hC2
  have hC3 := fun S tk k => big_Cmp S tk k (decide (R < 0)) q e2 r (by omega) (by omega)
  rw [v2, hb] at hC3
  have hD1 := fun S tk k => big_Div S tk k p false l e5 (by omega) (by omega)
  rw [ha, v5, divA, if_neg hg0, if_neg hg0, w1'] at hD1
  have hD2 := fun S tk k => big_Div S tk k q false r e5 (by omega) (by omega)
  rw [hb, v5, divA, if_neg hg0, if_neg hg0, w2'] at hD2
  have kd : (!decide (g = 0)) = true := by simp [hg0]
  rw [kd] at hD1 hD2
  have k6 : okZ (a.fdiv g) = true := by have := okZ_fdiv (a := a) (b := g) ka; rwa [if_neg hg0] at this
  have k7 : okZ (b.fdiv g) = true := by have := okZ_fdiv (a := b) (b := g) kb; rwa [if_neg hg0] at this
  obtain ⟨s6, e6, q6, -, -⟩ := zA_of k6
  obtain ⟨s7, e7, q7, -, -⟩ := zA_of k7
  have z0 : zA 0 = .agg [.bool false, .frz [] .unk] := rfl
  rw [q6, z0] at hD1
  rw [q7, z0] at hD2
  rw [q1, q2] at hA
  rw [q5] at hG
  have dop := cmp_opp (R := R) h0 (fun h => (m3 h).2) (fun h => (m4 h).1)
  have dneg := cmp_neg b
  have dzR := cmp_nz R
  have dR : R ≠ 0 → decide (R < 0) = decide (b < 0) := fun hR => by
    rcases Int.lt_or_gt_of_ne h0 with h | h
    · have := m4 h
      have h1 : R < 0 := by omega
      simp [h, h1]
    · have := m3 (by omega)
      have h1 : ¬ R < 0 := by omega
      have h2 : ¬ b < 0 := by omega
      simp [h1, h2]
  clear q1 q2 q3 q4 q5 q6 q7 v1 v2 v3 v4 v5 m1 m2 m3 m4 m5 k6 k7 kQ kR kP kg va vb hA' w1' w2' z0 ha hb hgg
  generalize cmpZ b 0 = cb at *
  generalize cmpZ R 0 = cr at *
  generalize cmpZ R b = t at *
  generalize decide (b < 0) = bb at *
  generalize hRn : decide (R < 0) = rn at *
  have t0 : ((0 : Int) != 0) = false := rfl
  have t1 : (t != t) = false := by simp
  simp only [bigA, digA] at hA hZ hM hS hC1 hC2 hC3 hG hD1 hD2
  by_cases hR : R = 0
  · have t2 : (cr != 0) = false := by rw [bne, dzR]; simp [hR]
    simp (maxSteps := 1000000) +contextual (disch := first | with_reducible assumption | exact ⟨rfl⟩ | (refine _root_.id ?_; kernel_rfl) | omega) only [KX_seq, KX_skip, KX_exit, KX_ret, KX_if, KX_block, KX_region, CX_seq, CX_block, CX_loop, CX_exit_seq, CX_exit_block, CX_exit_loop, CX_ret, CX_ret_nil, CX_normal_nil, NX_some, NS_some, BR_true, BR_false, BR_not, fin1_BR, finS_BR, RX_nil, RX_guard, RX_move, RX_assign, RX_pick, RX_bin, RX_un, RX_conv, RX_extract, RX_field, RX_indexAddr, RX_fieldAddr, RX_index, RX_build, RX_buildSlice, RX_slice, RX_makeFunc, RX_load, RX_store, RX_alloc, RX_box, RX_append, RX_len, RX_call, RX_callV, wantD_some, wantV_bool, wantV_undef, DX_zero, DX_succ, asB_bool, nth, put, putT, getT, opv_tmp, opv_const, opv_func, cst_int, cst_bool, cst_string, cst_nil, cst_ptr, pickA_true, pickA_false, pickA_bool, extA_tup, fldV_agg, bldA_some, litA_some, callV_fn, aBin_int, aBin_str, aBin_bool, binInt, binStr, binBool, aUn, outA, resA, mapO, resA1, oneOf, fin1_some, finS_some, w1, w2, w3, bots, lenV_str, lenV_frz, lenV_sref, List.map_cons, List.map_nil, List.cons_append, List.nil_append, List.length_cons, List.length_nil, List.toList_toArray, Option.map_some, Option.map_none, Option.bind_some, Option.bind_none, Option.isSome_some, beq_true, beq_false, Bool.true_and, Bool.false_and, Bool.and_true, Bool.and_false, Bool.true_or, Bool.or_true, Bool.false_or, Bool.or_false, Bool.not_true, Bool.not_false, cond_true, cond_false, if_true, if_false, ite_true, ite_false, reduceIte, reduceCtorEq, Bool.false_eq_true, true_implies, false_implies, implies_true, and_true, true_and, Nat.reduceAdd, Nat.reduceSub, AV.int, AV.bool, AV.str, Nat.zero_add, fin1_NX_not, fin1_NX_if, fin1_NS_not, fin1_NS_if, finS_NX_not, finS_NX_if, finS_NS_not, finS_NS_if, Option.some.injEq, AV.tup.injEq, AV.prim.injEq, AV.agg.injEq, AV.frz.injEq, Value.int.injEq, Value.bool.injEq, Value.string.injEq, List.cons.injEq, decide_true, decide_false, List.take_zero, List.take_nil, List.take_succ_cons, Nat.reduceBEq, Nat.reduceEqDiff, Nat.reduceMul, Nat.reduceLT, Nat.reduceLeDiff, Int.reduceNeg, BEq.rfl, beq_self_eq_true, tabl, cellsOf, fldA, ldA, stA, entAt, partA, takeN, over, leafOk, List.all_cons, List.all_nil, Value.oneCell', List.drop_zero, List.drop_succ_cons, List.drop_nil, List.length_map, idxA, intN_cast, intN_zero, aBin_agg, aggB_eql, aggB_neq, aBin_nil, nilB_eql, nilB_neq, nilA, cellsEq, cellEq_int, cellEq_str, cellEq_bool, apA_eq, apB_one, apB_all, entAt_mid, put_new, put_mid, take_two, fillA, elemsA, pure1, pure2, List.replicate_succ, List.replicate_zero, reps, aConv_int, convI_some, aConv_str, RX_makeSlice, RX_makeSlice0, RX_copy, RX_appendS, RX_nilCheck, RX_min, RX_max, cvA_int, cvA_str, minA_int, maxA_int, aBin_refNil, aBin_fptrNil, aBin_nilNil, ptrNil_eql, ptrNil_neq, fz3_tup, fz3_agg, fz3_prim, fz3_frz, fz3_ref, fz3_fn, fz3_sref, fz2_agg, fz2_prim, fz2_frz, fz2_ref, fz2_fn, fz2_sref, fz1_prim, fz1_frz, fz1_ref, fz1_fn, fz1_sref, fz1_old, fzB_some, chkA, finM_BR, ext_mv, apB1_frz, apM_false, apM_true, tys, Tryd.results8, KX_draw, KX_drawQ, callP_eq, callM_true, bigA, digA, hL1, d1, hL2, d2, hA, hZ, hM, hS, hC1, hC2, hC3, hG, hD1, hD2, d3, d4, t0, t1, t2, dop, dneg, L02_awake]
  · have t2 : (cr != 0) = true := by rw [bne, dzR]; simp [hR]
    have t3 := dR hR
    subst t3
    simp (maxSteps := 1000000) +contextual (disch := first | with_reducible assumption | exact ⟨rfl⟩ | (refine _root_.id ?_; kernel_rfl) | omega) only [KX_seq, KX_skip, KX_exit, KX_ret, KX_if, KX_block, KX_region, CX_seq, CX_block, CX_loop, CX_exit_seq, CX_exit_block, CX_exit_loop, CX_ret, CX_ret_nil, CX_normal_nil, NX_some, NS_some, BR_true, BR_false, BR_not, fin1_BR, finS_BR, RX_nil, RX_guard, RX_move, RX_assign, RX_pick, RX_bin, RX_un, RX_conv, RX_extract, RX_field, RX_indexAddr, RX_fieldAddr, RX_index, RX_build, RX_buildSlice, RX_slice, RX_makeFunc, RX_load, RX_store, RX_alloc, RX_box, RX_append, RX_len, RX_call, RX_callV, wantD_some, wantV_bool, wantV_undef, DX_zero, DX_succ, asB_bool, nth, put, putT, getT, opv_tmp, opv_const, opv_func, cst_int, cst_bool, cst_string, cst_nil, cst_ptr, pickA_true, pickA_false, pickA_bool, extA_tup, fldV_agg, bldA_some, litA_some, callV_fn, aBin_int, aBin_str, aBin_bool, binInt, binStr, binBool, aUn, outA, resA, mapO, resA1, oneOf, fin1_some, finS_some, w1, w2, w3, bots, lenV_str, lenV_frz, lenV_sref, List.map_cons, List.map_nil, List.cons_append, List.nil_append, List.length_cons, List.length_nil, List.toList_toArray, Option.map_some, Option.map_none, Option.bind_some, Option.bind_none, Option.isSome_some, beq_true, beq_false, Bool.true_and, Bool.false_and, Bool.and_true, Bool.and_false, Bool.true_or, Bool.or_true, Bool.false_or, Bool.or_false, Bool.not_true, Bool.not_false, cond_true, cond_false, if_true, if_false, ite_true, ite_false, reduceIte, reduceCtorEq, Bool.false_eq_true, true_implies, false_implies, implies_true, and_true, true_and, Nat.reduceAdd, Nat.reduceSub, AV.int, AV.bool, AV.str, Nat.zero_add, fin1_NX_not, fin1_NX_if, fin1_NS_not, fin1_NS_if, finS_NX_not, finS_NX_if, finS_NS_not, finS_NS_if, Option.some.injEq, AV.tup.injEq, AV.prim.injEq, AV.agg.injEq, AV.frz.injEq, Value.int.injEq, Value.bool.injEq, Value.string.injEq, List.cons.injEq, decide_true, decide_false, List.take_zero, List.take_nil, List.take_succ_cons, Nat.reduceBEq, Nat.reduceEqDiff, Nat.reduceMul, Nat.reduceLT, Nat.reduceLeDiff, Int.reduceNeg, BEq.rfl, beq_self_eq_true, tabl, cellsOf, fldA, ldA, stA, entAt, partA, takeN, over, leafOk, List.all_cons, List.all_nil, Value.oneCell', List.drop_zero, List.drop_succ_cons, List.drop_nil, List.length_map, idxA, intN_cast, intN_zero, aBin_agg, aggB_eql, aggB_neq, aBin_nil, nilB_eql, nilB_neq, nilA, cellsEq, cellEq_int, cellEq_str, cellEq_bool, apA_eq, apB_one, apB_all, entAt_mid, put_new, put_mid, take_two, fillA, elemsA, pure1, pure2, List.replicate_succ, List.replicate_zero, reps, aConv_int, convI_some, aConv_str, RX_makeSlice, RX_makeSlice0, RX_copy, RX_appendS, RX_nilCheck, RX_min, RX_max, cvA_int, cvA_str, minA_int, maxA_int, aBin_refNil, aBin_fptrNil, aBin_nilNil, ptrNil_eql, ptrNil_neq, fz3_tup, fz3_agg, fz3_prim, fz3_frz, fz3_ref, fz3_fn, fz3_sref, fz2_agg, fz2_prim, fz2_frz, fz2_ref, fz2_fn, fz2_sref, fz1_prim, fz1_frz, fz1_ref, fz1_fn, fz1_sref, fz1_old, fzB_some, chkA, finM_BR, ext_mv, apB1_frz, apM_false, apM_true, tys, Tryd.results8, KX_draw, KX_drawQ, callP_eq, callM_true, bigA, digA, hL1, d1, hL2, d2, hA, hZ, hM, hS, hC1, hC2, hC3, hG, hD1, hD2, d3, d4, t0, t1, t2, dop, dneg, L02_awake]
end
end Go.Proofs.YtokncdoejnchfaaDoor
