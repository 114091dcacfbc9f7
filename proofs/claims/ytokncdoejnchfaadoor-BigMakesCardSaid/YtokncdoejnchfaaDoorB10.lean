/-
  The law BigRings.
-/
import Derived.Test.YtokncdoejnchfaaDoorB9
namespace Go.Proofs.YtokncdoejnchfaaDoor
open Go

theorem num_of {z : Int} (h : okZ z = true) : ∃ s e, sgnZ z = .tup [bigA s e, .bool true] ∧ V s e = z ∧ e.length ≤ 200 ∧ validF s e = true :=
  ⟨decide (z < 0), dig z.natAbs, by rw [sgnZ, fit_of h, h]; rfl, V_zA h, zA_len h, valid_of z (zA_len h)⟩
theorem V_small (p : Bool) (l : List Int) {n : Nat} (h : l.length ≤ n) : (V p l).natAbs < 10000 ^ n := by
  refine dig_len.1 ?_
  rw [V_abs]
  split
  · exact h
  · simp
theorem okZ_lt {z : Int} (h : z.natAbs < 10000 ^ 200) : okZ z = true := by
  have := dig_len.2 h
  simp [okZ]; omega
theorem pow_le {m : Nat} (h : m ≤ 200) : (10000 : Nat) ^ m ≤ 10000 ^ 200 := Nat.pow_le_pow_right (by decide) h
theorem okZ_of {z : Int} {m : Nat} (h : z.natAbs < 10000 ^ m) (hm : m ≤ 200) : okZ z = true := okZ_lt (Nat.lt_of_lt_of_le h (pow_le hm))
theorem lt_add {a b : Int} {m : Nat} (ha : a.natAbs < 10000 ^ m) (hb : b.natAbs < 10000 ^ m) : (a + b).natAbs < 10000 ^ (m + 1) := by
  rw [Nat.pow_succ]
  generalize 10000 ^ m = t at *
  omega
theorem lt_mul {a b : Int} {m n : Nat} (ha : a.natAbs < 10000 ^ m) (hb : b.natAbs < 10000 ^ n) : (a * b).natAbs < 10000 ^ (m + n) := by
  rw [Int.natAbs_mul, Nat.pow_add]; exact Nat.mul_lt_mul'' ha hb
theorem cmp_self (x : Int) : cmpZ x x = 0 := by simp [cmpZ]
theorem cmp_sub (x y : Int) : cmpZ (x - y) 0 = cmpZ x y := by
  unfold cmpZ
  by_cases h1 : x < y
  · rw [if_pos h1, if_pos (by omega)]
  · rw [if_neg h1, if_neg (by omega)]
    by_cases h2 : y < x
    · rw [if_pos h2, if_pos (by omega)]
    · rw [if_neg h2, if_neg (by omega)]
theorem V_zero : V false [] = 0 := rfl

section
variable (S : List Ent) (tk : List Nat) (k : Nat)
theorem big_Mul' (p q : Bool) (l r : List Int) (hl : l.length ≤ 1000000) (hr : r.length ≤ 1000000) : cL Tryd.prog 13 [bigA p l, bigA q r] S tk k = some (sgnZ (V p l * V q r), S, tk, k) := by
  rw [big_Mul _ _ _ p q l r hl hr, sgn_sg, mul_sg, ← V_sg, ← V_sg]
theorem Cmp_zero (p : Bool) (l : List Int) (hl : l.length ≤ 1000000) : cL Tryd.prog 32 [bigA p l, .agg [.bool false, .frz [] .nilc]] S tk k = some (.int (cmpZ (V p l) 0), S, tk, k) := by
  refine (cL_w2 (args := [bigA p l, .agg [.bool false, .frz [] .nilc]]) (args' := [bigA p l, bigA false []]) rfl rfl rfl).trans ?_
  rw [big_Cmp _ _ _ p false l [] hl (by simp)]; rfl
set_option maxRecDepth 100000 in
theorem L02_BigRings [ExtOk Tryd.prog] (p : Bool) (l : List Int) (q : Bool) (r : List Int) (u : Bool) (v : List Int) : cL Tryd.prog 10 [bigA p l, bigA q r, bigA u v] S tk k = some (.bool true, S, tk, k) := by
  have hL1 := fun S tk k => R02_Long S tk k p l 30
  have hL2 := fun S tk k => R02_Long S tk k q r 30
  have hL3 := fun S tk k => R02_Long S tk k u v 30
  simp only [bigA, digA] at hL1 hL2 hL3
  refine call_pure Tryd.func10 rfl rfl (by decide +kernel) (by decide +kernel) Tryd.ntmps10 rfl rfl _ _ _ rfl ?_; rw [RK_KX]
  by_cases h1 : 30 < l.length
  · have d1 : decide ((l.length : Int) > 30) = true := by simp; omega
    simp (maxSteps := 1000000) +contextual (disch := first | with_reducible assumption | exact ⟨rfl⟩ | (refine _root_.id ?_; kernel_rfl) | omega) only [KX_seq, KX_skip, KX_exit, KX_ret, KX_if, KX_block, KX_region, CX_seq, CX_block, CX_loop, CX_exit_seq, CX_exit_block, CX_exit_loop, CX_ret, CX_ret_nil, CX_normal_nil, NX_some, NS_some, BR_true, BR_false, BR_not, fin1_BR, finS_BR, RX_nil, RX_guard, RX_move, RX_assign, RX_pick, RX_bin, RX_un, RX_conv, RX_extract, RX_field, RX_indexAddr, RX_fieldAddr, RX_index, RX_build, RX_buildSlice, RX_slice, RX_makeFunc, RX_load, RX_store, RX_alloc, RX_box, RX_append, RX_len, RX_call, RX_callV, wantD_some, wantV_bool, wantV_undef, DX_zero, DX_succ, asB_bool, nth, put, putT, getT, opv_tmp, opv_const, opv_func, cst_int, cst_bool, cst_string, cst_nil, cst_ptr, pickA_true, pickA_false, pickA_bool, extA_tup, fldV_agg, bldA_some, litA_some, callV_fn, aBin_int, aBin_str, aBin_bool, binInt, binStr, binBool, aUn, outA, resA, mapO, resA1, oneOf, fin1_some, finS_some, w1, w2, w3, bots, lenV_str, lenV_frz, lenV_sref, List.map_cons, List.map_nil, List.cons_append, List.nil_append, List.length_cons, List.length_nil, List.toList_toArray, Option.map_some, Option.map_none, Option.bind_some, Option.bind_none, Option.isSome_some, beq_true, beq_false, Bool.true_and, Bool.false_and, Bool.and_true, Bool.and_false, Bool.true_or, Bool.or_true, Bool.false_or, Bool.or_false, Bool.not_true, Bool.not_false, cond_true, cond_false, if_true, if_false, ite_true, ite_false, reduceIte, reduceCtorEq, Bool.false_eq_true, true_implies, false_implies, implies_true, and_true, true_and, Nat.reduceAdd, Nat.reduceSub, AV.int, AV.bool, AV.str, Nat.zero_add, fin1_NX_not, fin1_NX_if, fin1_NS_not, fin1_NS_if, finS_NX_not, finS_NX_if, finS_NS_not, finS_NS_if, Option.some.injEq, AV.tup.injEq, AV.prim.injEq, AV.agg.injEq, AV.frz.injEq, Value.int.injEq, Value.bool.injEq, Value.string.injEq, List.cons.injEq, decide_true, decide_false, List.take_zero, List.take_nil, List.take_succ_cons, Nat.reduceBEq, Nat.reduceEqDiff, Nat.reduceMul, Nat.reduceLT, Nat.reduceLeDiff, Int.reduceNeg, BEq.rfl, beq_self_eq_true, tabl, cellsOf, fldA, ldA, stA, entAt, partA, takeN, over, leafOk, List.all_cons, List.all_nil, Value.oneCell', List.drop_zero, List.drop_succ_cons, List.drop_nil, List.length_map, idxA, intN_cast, intN_zero, aBin_agg, aggB_eql, aggB_neq, aBin_nil, nilB_eql, nilB_neq, nilA, cellsEq, cellEq_int, cellEq_str, cellEq_bool, apA_eq, apB_one, apB_all, entAt_mid, put_new, put_mid, take_two, fillA, elemsA, pure1, pure2, List.replicate_succ, List.replicate_zero, reps, aConv_int, convI_some, aConv_str, RX_makeSlice, RX_makeSlice0, RX_copy, RX_appendS, RX_nilCheck, RX_min, RX_max, cvA_int, cvA_str, minA_int, maxA_int, aBin_refNil, aBin_fptrNil, aBin_nilNil, ptrNil_eql, ptrNil_neq, fz3_tup, fz3_agg, fz3_prim, fz3_frz, fz3_ref, fz3_fn, fz3_sref, fz2_agg, fz2_prim, fz2_frz, fz2_ref, fz2_fn, fz2_sref, fz1_prim, fz1_frz, fz1_ref, fz1_fn, fz1_sref, fz1_old, fzB_some, chkA, finM_BR, ext_mv, apB1_frz, apM_false, apM_true, tys, Tryd.results10, KX_draw, KX_drawQ, callP_eq, callM_true, bigA, digA, hL1, d1, L02_awake]
  have d1 : decide ((l.length : Int) > 30) = false := by simp; omega
  by_cases h2 : 30 < r.length
  · have d2 : decide ((r.length : Int) > 30) = true := by simp; omega
    simp (maxSteps := 1000000) +contextual (disch := first | with_reducible assumption | exact ⟨rfl⟩ | (refine _root_.id ?_; kernel_rfl) | omega) only [KX_seq, KX_skip, KX_exit, KX_ret, KX_if, KX_block, KX_region, CX_seq, CX_block, CX_loop, CX_exit_seq, CX_exit_block, CX_exit_loop, CX_ret, CX_ret_nil, CX_normal_nil, NX_some, NS_some, BR_true, BR_false, BR_not, fin1_BR, finS_BR, RX_nil, RX_guard, RX_move, RX_assign, RX_pick, RX_bin, RX_un, RX_conv, RX_extract, RX_field, RX_indexAddr, RX_fieldAddr, RX_index, RX_build, RX_buildSlice, RX_slice, RX_makeFunc, RX_load, RX_store, RX_alloc, RX_box, RX_append, RX_len, RX_call, RX_callV, wantD_some, wantV_bool, wantV_undef, DX_zero, DX_succ, asB_bool, nth, put, putT, getT, opv_tmp, opv_const, opv_func, cst_int, cst_bool, cst_string, cst_nil, cst_ptr, pickA_true, pickA_false, pickA_bool, extA_tup, fldV_agg, bldA_some, litA_some, callV_fn, aBin_int, aBin_str, aBin_bool, binInt, binStr, binBool, aUn, outA, resA, mapO, resA1, oneOf, fin1_some, finS_some, w1, w2, w3, bots, lenV_str, lenV_frz, lenV_sref, List.map_cons, List.map_nil, List.cons_append, List.nil_append, List.length_cons, List.length_nil, List.toList_toArray, Option.map_some, Option.map_none, Option.bind_some, Option.bind_none, Option.isSome_some, beq_true, beq_false, Bool.true_and, Bool.false_and, Bool.and_true, Bool.and_false, Bool.true_or, Bool.or_true, Bool.false_or, Bool.or_false, Bool.not_true, Bool.not_false, cond_true, cond_false, if_true, if_false, ite_true, ite_false, reduceIte, reduceCtorEq, Bool.false_eq_true, true_implies, false_implies, implies_true, and_true, true_and, Nat.reduceAdd, Nat.reduceSub, AV.int, AV.bool, AV.str, Nat.zero_add, fin1_NX_not, fin1_NX_if, fin1_NS_not, fin1_NS_if, finS_NX_not, finS_NX_if, finS_NS_not, finS_NS_if, Option.some.injEq, AV.tup.injEq, AV.prim.injEq, AV.agg.injEq, AV.frz.injEq, Value.int.injEq, Value.bool.injEq, Value.string.injEq, List.cons.injEq, decide_true, decide_false, List.take_zero, List.take_nil, List.take_succ_cons, Nat.reduceBEq, Nat.reduceEqDiff, Nat.reduceMul, Nat.reduceLT, Nat.reduceLeDiff, Int.reduceNeg, BEq.rfl, beq_self_eq_true, tabl, cellsOf, fldA, ldA, stA, entAt, partA, takeN, over, leafOk, List.all_cons, List.all_nil, Value.oneCell', List.drop_zero, List.drop_succ_cons, List.drop_nil, List.length_map, idxA, intN_cast, intN_zero, aBin_agg, aggB_eql, aggB_neq, aBin_nil, nilB_eql, nilB_neq, nilA, cellsEq, cellEq_int, cellEq_str, cellEq_bool, apA_eq, apB_one, apB_all, entAt_mid, put_new, put_mid, take_two, fillA, elemsA, pure1, pure2, List.replicate_succ, List.replicate_zero, reps, aConv_int, convI_some, aConv_str, RX_makeSlice, RX_makeSlice0, RX_copy, RX_appendS, RX_nilCheck, RX_min, RX_max, cvA_int, cvA_str, minA_int, maxA_int, aBin_refNil, aBin_fptrNil, aBin_nilNil, ptrNil_eql, ptrNil_neq, fz3_tup, fz3_agg, fz3_prim, fz3_frz, fz3_ref, fz3_fn, fz3_sref, fz2_agg, fz2_prim, fz2_frz, fz2_ref, fz2_fn, fz2_sref, fz1_prim, fz1_frz, fz1_ref, fz1_fn, fz1_sref, fz1_old, fzB_some, chkA, finM_BR, ext_mv, apB1_frz, apM_false, apM_true, tys, Tryd.results10, KX_draw, KX_drawQ, callP_eq, callM_true, bigA, digA, hL1, d1, hL2, d2, L02_awake]
  have d2 : decide ((r.length : Int) > 30) = false := by simp; omega
  by_cases h3 : 30 < v.length
  · have d3 : decide ((v.length : Int) > 30) = true := by simp; omega
    simp (maxSteps := 1000000) +contextual (disch := first | with_reducible assumption | exact ⟨rfl⟩ | (refine _root_.id ?_; kernel_rfl) | omega) only [KX_seq, KX_skip, KX_exit, KX_ret, KX_if, KX_block, KX_region, CX_seq, CX_block, CX_loop, CX_exit_seq, CX_exit_block, CX_exit_loop, CX_ret, CX_ret_nil, CX_normal_nil, NX_some, NS_some, BR_true, BR_false, BR_not, fin1_BR, finS_BR, RX_nil, RX_guard, RX_move, RX_assign, RX_pick, RX_bin, RX_un, RX_conv, RX_extract, RX_field, RX_indexAddr, RX_fieldAddr, RX_index, RX_build, RX_buildSlice, RX_slice, RX_makeFunc, RX_load, RX_store, RX_alloc, RX_box, RX_append, RX_len, RX_call, RX_callV, wantD_some, wantV_bool, wantV_undef, DX_zero, DX_succ, asB_bool, nth, put, putT, getT, opv_tmp, opv_const, opv_func, cst_int, cst_bool, cst_string, cst_nil, cst_ptr, pickA_true, pickA_false, pickA_bool, extA_tup, fldV_agg, bldA_some, litA_some, callV_fn, aBin_int, aBin_str, aBin_bool, binInt, binStr, binBool, aUn, outA, resA, mapO, resA1, oneOf, fin1_some, finS_some, w1, w2, w3, bots, lenV_str, lenV_frz, lenV_sref, List.map_cons, List.map_nil, List.cons_append, List.nil_append, List.length_cons, List.length_nil, List.toList_toArray, Option.map_some, Option.map_none, Option.bind_some, Option.bind_none, Option.isSome_some, beq_true, beq_false, Bool.true_and, Bool.false_and, Bool.and_true, Bool.and_false, Bool.true_or, Bool.or_true, Bool.false_or, Bool.or_false, Bool.not_true, Bool.not_false, cond_true, cond_false, if_true, if_false, ite_true, ite_false, reduceIte, reduceCtorEq, Bool.false_eq_true, true_implies, false_implies, implies_true, and_true, true_and, Nat.reduceAdd, Nat.reduceSub, AV.int, AV.bool, AV.str, Nat.zero_add, fin1_NX_not, fin1_NX_if, fin1_NS_not, fin1_NS_if, finS_NX_not, finS_NX_if, finS_NS_not, finS_NS_if, Option.some.injEq, AV.tup.injEq, AV.prim.injEq, AV.agg.injEq, AV.frz.injEq, Value.int.injEq, Value.bool.injEq, Value.string.injEq, List.cons.injEq, decide_true, decide_false, List.take_zero, List.take_nil, List.take_succ_cons, Nat.reduceBEq, Nat.reduceEqDiff, Nat.reduceMul, Nat.reduceLT, Nat.reduceLeDiff, Int.reduceNeg, BEq.rfl, beq_self_eq_true, tabl, cellsOf, fldA, ldA, stA, entAt, partA, takeN, over, leafOk, List.all_cons, List.all_nil, Value.oneCell', List.drop_zero, List.drop_succ_cons, List.drop_nil, List.length_map, idxA, intN_cast, intN_zero, aBin_agg, aggB_eql, aggB_neq, aBin_nil, nilB_eql, nilB_neq, nilA, cellsEq, cellEq_int, cellEq_str, cellEq_bool, apA_eq, apB_one, apB_all, entAt_mid, put_new, put_mid, take_two, fillA, elemsA, pure1, pure2, List.replicate_succ, List.replicate_zero, reps, aConv_int, convI_some, aConv_str, RX_makeSlice, RX_makeSlice0, RX_copy, RX_appendS, RX_nilCheck, RX_min, RX_max, cvA_int, cvA_str, minA_int, maxA_int, aBin_refNil, aBin_fptrNil, aBin_nilNil, ptrNil_eql, ptrNil_neq, fz3_tup, fz3_agg, fz3_prim, fz3_frz, fz3_ref, fz3_fn, fz3_sref, fz2_agg, fz2_prim, fz2_frz, fz2_ref, fz2_fn, fz2_sref, fz1_prim, fz1_frz, fz1_ref, fz1_fn, fz1_sref, fz1_old, fzB_some, chkA, finM_BR, ext_mv, apB1_frz, apM_false, apM_true, tys, Tryd.results10, KX_draw, KX_drawQ, callP_eq, callM_true, bigA, digA, hL1, d1, hL2, d2, hL3, d3, L02_awake]
  have d3 : decide ((v.length : Int) > 30) = false := by simp; omega
  have va := V_small p l (n := 30) (by omega)
  have vb := V_small q r (n := 30) (by omega)
  have vc := V_small u v (n := 30) (by omega)
  have hAB := fun S tk k => big_Add S tk k p q l r (by omega) (by omega)
  have hBA := fun S tk k => big_Add S tk k q p r l (by omega) (by omega)
  have hAC := fun S tk k => big_Mul' S tk k p u l v (by omega) (by omega)
  have hCA := fun S tk k => big_Mul' S tk k u p v l (by omega) (by omega)
  have hBC := fun S tk k => big_Mul' S tk k q u r v (by omega) (by omega)
  have hDf := fun S tk k => big_Sub S tk k p q l r (by omega) (by omega)
  have hCm := fun S tk k => big_Cmp S tk k p q l r (by omega) (by omega)
  generalize ha : V p l = a at *
  generalize hb : V q r = b at *
  generalize hc : V u v = c at *
  rw [Int.add_comm b a] at hBA
  rw [Int.mul_comm c a] at hCA
  have hb' : (-b).natAbs < 10000 ^ 30 := by rw [Int.natAbs_neg]; exact vb
  have k1 : okZ (a + b) = true := okZ_of (lt_add va vb) (by decide)
  have k2 : okZ (a * c) = true := okZ_of (lt_mul va vc) (by decide)
  have k3 : okZ (b * c) = true := okZ_of (lt_mul vb vc) (by decide)
  have k4 : okZ (a * c + b * c) = true := okZ_of (lt_add (lt_mul va vc) (lt_mul vb vc)) (by decide)
  have k6 : okZ (a - b) = true := by rw [Int.sub_eq_add_neg]; exact okZ_of (lt_add va hb') (by decide)
  have k7 : okZ a = true := okZ_of va (by decide)
  clear va vb vc hb'
  obtain ⟨s1, e1, q1, v1, n1, -⟩ := num_of k1
  obtain ⟨s2, e2, q2, v2, n2, -⟩ := num_of k2
  obtain ⟨s3, e3, q3, v3, n3, -⟩ := num_of k3
  obtain ⟨s4, e4, q4, -, n4, f4⟩ := num_of k4
  obtain ⟨s6, e6, q6, v6, n6, -⟩ := num_of k6
  obtain ⟨s7, e7, q7, v7, n7, -⟩ := num_of k7
  have hT := fun S tk k => big_Add S tk k s2 s3 e2 e3 (by omega) (by omega)
  have hU := fun S tk k => big_Mul' S tk k s1 u e1 v (by omega) (by omega)
  have hD := fun S tk k => big_Sub S tk k s1 q e1 r (by omega) (by omega)
  have hCd := fun S tk k => big_Cmp S tk k s7 p e7 l (by omega) (by omega)
  have hCz := fun S tk k => Cmp_zero S tk k s6 e6 (by omega)
  have hV := fun S tk k => big_Valid S tk k s4 e4 .unk (by omega)
  have hS1 := fun S tk k => same_self S tk k s1 e1 (by omega)
  have hS2 := fun S tk k => same_self S tk k s2 e2 (by omega)
  have hS4 := fun S tk k => same_self S tk k s4 e4 (by omega)
  rw [v2, v3, q4] at hT
  rw [v1, hc, Int.add_mul, q4] at hU
  rw [v1, hb, Int.add_sub_cancel, q7] at hD
  rw [v7, ha, cmp_self] at hCd
  rw [v6, cmp_sub] at hCz
  rw [f4] at hV
  rw [q1] at hAB hBA
  rw [q2] at hAC hCA
  rw [q3] at hBC
  rw [q6] at hDf
  generalize cmpZ a b = cm at *
  simp only [bigA, digA] at hAB hBA hAC hCA hBC hDf hCm hT hU hD hCd hCz hV hS1 hS2 hS4
  simp (maxSteps := 1000000) +contextual (disch := first | with_reducible assumption | exact ⟨rfl⟩ | (refine _root_.id ?_; kernel_rfl) | omega) only [KX_seq, KX_skip, KX_exit, KX_ret, KX_if, KX_block, KX_region, CX_seq, CX_block, CX_loop, CX_exit_seq, CX_exit_block, CX_exit_loop, CX_ret, CX_ret_nil, CX_normal_nil, NX_some, NS_some, BR_true, BR_false, BR_not, fin1_BR, finS_BR, RX_nil, RX_guard, RX_move, RX_assign, RX_pick, RX_bin, RX_un, RX_conv, RX_extract, RX_field, RX_indexAddr, RX_fieldAddr, RX_index, RX_build, RX_buildSlice, RX_slice, RX_makeFunc, RX_load, RX_store, RX_alloc, RX_box, RX_append, RX_len, RX_call, RX_callV, wantD_some, wantV_bool, wantV_undef, DX_zero, DX_succ, asB_bool, nth, put, putT, getT, opv_tmp, opv_const, opv_func, cst_int, cst_bool, cst_string, cst_nil, cst_ptr, pickA_true, pickA_false, pickA_bool, extA_tup, fldV_agg, bldA_some, litA_some, callV_fn, aBin_int, aBin_str, aBin_bool, binInt, binStr, binBool, aUn, outA, resA, mapO, resA1, oneOf, fin1_some, finS_some, w1, w2, w3, bots, lenV_str, lenV_frz, lenV_sref, List.map_cons, List.map_nil, List.cons_append, List.nil_append, List.length_cons, List.length_nil, List.toList_toArray, Option.map_some, Option.map_none, Option.bind_some, Option.bind_none, Option.isSome_some, beq_true, beq_false, Bool.true_and, Bool.false_and, Bool.and_true, Bool.and_false, Bool.true_or, Bool.or_true, Bool.false_or, Bool.or_false, Bool.not_true, Bool.not_false, cond_true, cond_false, if_true, if_false, ite_true, ite_false, reduceIte, reduceCtorEq, Bool.false_eq_true, true_implies, false_implies, implies_true, and_true, true_and, Nat.reduceAdd, Nat.reduceSub, AV.int, AV.bool, AV.str, Nat.zero_add, fin1_NX_not, fin1_NX_if, fin1_NS_not, fin1_NS_if, finS_NX_not, finS_NX_if, finS_NS_not, finS_NS_if, Option.some.injEq, AV.tup.injEq, AV.prim.injEq, AV.agg.injEq, AV.frz.injEq, Value.int.injEq, Value.bool.injEq, Value.string.injEq, List.cons.injEq, decide_true, decide_false, List.take_zero, List.take_nil, List.take_succ_cons, Nat.reduceBEq, Nat.reduceEqDiff, Nat.reduceMul, Nat.reduceLT, Nat.reduceLeDiff, Int.reduceNeg, BEq.rfl, beq_self_eq_true, tabl, cellsOf, fldA, ldA, stA, entAt, partA, takeN, over, leafOk, List.all_cons, List.all_nil, Value.oneCell', List.drop_zero, List.drop_succ_cons, List.drop_nil, List.length_map, idxA, intN_cast, intN_zero, aBin_agg, aggB_eql, aggB_neq, aBin_nil, nilB_eql, nilB_neq, nilA, cellsEq, cellEq_int, cellEq_str, cellEq_bool, apA_eq, apB_one, apB_all, entAt_mid, put_new, put_mid, take_two, fillA, elemsA, pure1, pure2, List.replicate_succ, List.replicate_zero, reps, aConv_int, convI_some, aConv_str, RX_makeSlice, RX_makeSlice0, RX_copy, RX_appendS, RX_nilCheck, RX_min, RX_max, cvA_int, cvA_str, minA_int, maxA_int, aBin_refNil, aBin_fptrNil, aBin_nilNil, ptrNil_eql, ptrNil_neq, fz3_tup, fz3_agg, fz3_prim, fz3_frz, fz3_ref, fz3_fn, fz3_sref, fz2_agg, fz2_prim, fz2_frz, fz2_ref, fz2_fn, fz2_sref, fz1_prim, fz1_frz, fz1_ref, fz1_fn, fz1_sref, fz1_old, fzB_some, chkA, finM_BR, ext_mv, apB1_frz, apM_false, apM_true, tys, Tryd.results10, KX_draw, KX_drawQ, callP_eq, callM_true, bigA, digA, hL1, d1, hL2, d2, hL3, d3, hAB, hBA, hAC, hCA, hBC, hDf, hCm, hT, hU, hD, hCd, hCz, hV, hS1, hS2, hS4, L02_awake]
end
end Go.Proofs.YtokncdoejnchfaaDoor
