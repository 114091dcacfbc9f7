/-
  Quotients of digits: one digit of a quotient, walked.
-/
import Derived.Test.YtokncdoejnchfaaDoorB13
namespace Go.Proofs.YtokncdoejnchfaaDoor
open Go

theorem guess {v B i : Nat} (hB2 : 2 ≤ (dig B).length) (hR : v / 10000 ^ i < 10000 * B) : ∃ T U : Nat,
    v / 10000 ^ (i + (dig B).length) % 10000 = T / 100000000 % 10000 ∧ v / 10000 ^ (i + (dig B).length - 1) % 10000 = T / 10000 % 10000 ∧ v / 10000 ^ (i + (dig B).length - 2) % 10000 = T % 10000 ∧ T < 1000000000000 ∧
    B / 10000 ^ ((dig B).length - 1) % 10000 = U / 10000 % 10000 ∧ B / 10000 ^ ((dig B).length - 2) % 10000 = U % 10000 ∧ U < 100000000 ∧ 10000 ≤ U ∧ v / 10000 ^ i / B ≤ T / U ∧ v / 10000 ^ i / B ≤ 9999 := by
  obtain ⟨m, hm⟩ : ∃ m, (dig B).length = m + 2 := ⟨(dig B).length - 2, by omega⟩
  have hB := (dig_len (n := B) (k := m + 2)).1 (by omega)
  have hB1 : 10000 ^ (m + 1) ≤ B := by
    rcases Nat.lt_or_ge B (10000 ^ (m + 1)) with h | h
    · have := (dig_len (n := B) (k := m + 1)).2 h; omega
    · exact h
  rw [hm]
  have hW : 0 < 10000 ^ m := Nat.pow_pos (by decide)
  have e0 : i + (m + 2) = (i + m) + 2 := by omega
  have e1 : i + (m + 2) - 1 = (i + m) + 1 := by omega
  have e2 : i + (m + 2) - 2 = i + m := by omega
  have e3 : m + 2 - 1 = m + 1 := by omega
  have e4 : m + 2 - 2 = m := by omega
  rw [e2, e1, e0, e3, e4, div_pow v (i + m) 2, div_pow v (i + m) 1, div_pow B m 1]
  refine ⟨v / 10000 ^ (i + m), B / 10000 ^ m, rfl, rfl, rfl, ?_, rfl, rfl, ?_, ?_, ?_, ?_⟩
  · rw [div_pow, Nat.div_lt_iff_lt_mul hW]
    rw [Nat.pow_add] at hB
    generalize 10000 ^ m = W at *
    have : (10000 : Nat) ^ 2 = 100000000 := by decide
    rw [this] at hB
    omega
  · rw [Nat.div_lt_iff_lt_mul hW]
    rw [Nat.pow_add] at hB
    have : (10000 : Nat) ^ 2 = 100000000 := by decide
    rw [this] at hB
    omega
  · rw [Nat.le_div_iff_mul_le hW]
    rw [Nat.pow_add] at hB1
    omega
  · rw [div_pow]
    refine guess_le hW ?_
    rw [Nat.div_pos_iff]
    refine ⟨hW, ?_⟩
    rw [Nat.pow_add] at hB1
    omega
  · have : v / 10000 ^ i / B < 10000 := by
      rw [Nat.div_lt_iff_lt_mul (by omega)]; omega
    omega
section
variable (tk : List Nat) (k : Nat)
set_option maxRecDepth 100000 in
set_option maxHeartbeats 1000000 in
theorem big_digit (v B m i : Nat) (out : List Int) (hv : (dig v).length ≤ m) (hm : m ≤ 100001) (hB2 : 2 ≤ (dig B).length) (him : i + (dig B).length < m) (hR : v / 10000 ^ i < 10000 * B) :
    cL Tryd.prog 64 [.sref 0 0 0 m 1, digA (dig B), .int (i : Nat)] [⟨0, (padD v m).map numC⟩, ⟨1, out.map numC⟩] tk k = some (.int ((v / 10000 ^ i / B : Nat) : Int), [⟨0, (padD (v - 10000 ^ i * (v / 10000 ^ i / B * B)) m).map numC⟩, ⟨1, out.map numC⟩], tk, k) := by
  have hB0 : 0 < B := by
    rcases Nat.eq_zero_or_pos B with h | h
    · subst h; simp [dig_zero] at hB2
    · exact h
  obtain ⟨T, U, t2, t1, t0, hT, u1, u0, hU, hU1, hg, hq9⟩ := guess hB2 hR
  have n2 := nth_num (padD_at hv him)
  have n1 := nth_num (padD_at hv (j := i + (dig B).length - 1) (by omega))
  have n0 := nth_num (padD_at hv (j := i + (dig B).length - 2) (by omega))
  have b1 := nth_dig (dig_at (v := B) (j := (dig B).length - 1) (by omega))
  have b0 := nth_dig (dig_at (v := B) (j := (dig B).length - 2) (by omega))
  rw [t2] at n2
  rw [t1] at n1
  rw [t0] at n0
  rw [u1] at b1
  rw [u0] at b0
  have hin2 : i + (dig B).length < m := him
  have hin1 : i + (dig B).length - 1 < m := by omega
  have hin0 : i + (dig B).length - 2 < m := by omega
  have wn : IntKind.i64.wrap ((i : Int) + ((dig B).length : Int)) = ((i + (dig B).length : Nat) : Int) := by rw [wrap_of (by unfold i64; omega)]; omega
  have wn1 : IntKind.i64.wrap (((i + (dig B).length : Nat) : Int) - 1) = ((i + (dig B).length - 1 : Nat) : Int) := by rw [wrap_of (by unfold i64; omega)]; omega
  have wn2 : IntKind.i64.wrap (((i + (dig B).length : Nat) : Int) - 2) = ((i + (dig B).length - 2 : Nat) : Int) := by rw [wrap_of (by unfold i64; omega)]; omega
  have wb1 : IntKind.i64.wrap (((dig B).length : Int) - 1) = (((dig B).length - 1 : Nat) : Int) := by rw [wrap_of (by unfold i64; omega)]; omega
  have wb2 : IntKind.i64.wrap (((dig B).length : Int) - 2) = (((dig B).length - 2 : Nat) : Int) := by rw [wrap_of (by unfold i64; omega)]; omega
  have g1 : IntKind.i64.wrap (((T / 100000000 % 10000 : Nat) : Int) * 10000) = ((T / 100000000 % 10000 : Nat) : Int) * 10000 := wrap_of (by unfold i64; omega)
  have g2 : IntKind.i64.wrap (((T / 100000000 % 10000 : Nat) : Int) * 10000 + ((T / 10000 % 10000 : Nat) : Int)) = ((T / 100000000 % 10000 : Nat) : Int) * 10000 + ((T / 10000 % 10000 : Nat) : Int) := wrap_of (by unfold i64; omega)
  have g3 : IntKind.i64.wrap ((((T / 100000000 % 10000 : Nat) : Int) * 10000 + ((T / 10000 % 10000 : Nat) : Int)) * 10000) = (((T / 100000000 % 10000 : Nat) : Int) * 10000 + ((T / 10000 % 10000 : Nat) : Int)) * 10000 := wrap_of (by unfold i64; omega)
  have g4 : IntKind.i64.wrap ((((T / 100000000 % 10000 : Nat) : Int) * 10000 + ((T / 10000 % 10000 : Nat) : Int)) * 10000 + ((T % 10000 : Nat) : Int)) = (T : Int) := by rw [wrap_of (by unfold i64; omega)]; omega
  have g5 : IntKind.i64.wrap (((U / 10000 % 10000 : Nat) : Int) * 10000) = ((U / 10000 % 10000 : Nat) : Int) * 10000 := wrap_of (by unfold i64; omega)
  have g6 : IntKind.i64.wrap (((U / 10000 % 10000 : Nat) : Int) * 10000 + ((U % 10000 : Nat) : Int)) = (U : Int) := by rw [wrap_of (by unfold i64; omega)]; omega
  have hz : ¬ ((U : Int) = 0) := by omega
  have hTU : T / U ≤ T := Nat.div_le_self _ _
  obtain ⟨G, hG⟩ : ∃ G : Nat, G = T / U := ⟨_, rfl⟩
  have hqt0 : (0 : Int) ≤ ((v / 10000 ^ i / B : Nat) : Int) := Int.natCast_nonneg _
  have g7 : IntKind.i64.wrap ((T : Int).tdiv U) = (G : Int) := by
    rw [Int.tdiv_eq_ediv_of_nonneg (Int.natCast_nonneg _), ← Int.natCast_ediv, ← hG]
    rw [← hG] at hTU
    exact wrap_of (by unfold i64; omega)
  rw [← hG] at hg
  obtain ⟨q, hq⟩ : ∃ q : Int, (if (9999 : Int) < (G : Int) then (9999 : Int) else (G : Int)) = q := ⟨_, rfl⟩
  have hq0 : ((v / 10000 ^ i / B : Nat) : Int) ≤ q ∧ q ≤ 9999 := by
    have hg' : ((v / 10000 ^ i / B : Nat) : Int) ≤ (G : Int) := Int.ofNat_le.2 hg
    have hq9' : ((v / 10000 ^ i / B : Nat) : Int) ≤ 9999 := Int.ofNat_le.2 hq9
    rw [← hq]; generalize ((v / 10000 ^ i / B : Nat) : Int) = t at *
    split <;> omega
  have hq1 : 0 ≤ q := Int.le_trans hqt0 hq0.1
  have hst := Off.start (q := q) hv hR
  refine call_shared Tryd.func64 rfl rfl (by decide +kernel) Tryd.ntmps64 rfl ?_; rw [RK_KX]
  simp (maxSteps := 1000000) +contextual (disch := first | with_reducible assumption | exact ⟨rfl⟩ | (refine _root_.id ?_; kernel_rfl) | omega) only [KX_seq, KX_skip, KX_exit, KX_ret, KX_if, KX_block, KX_region, CX_seq, CX_block, CX_loop, CX_exit_seq, CX_exit_block, CX_exit_loop, CX_ret, CX_ret_nil, CX_normal_nil, NX_some, NS_some, BR_true, BR_false, BR_not, fin1_BR, finS_BR, RX_nil, RX_guard, RX_move, RX_assign, RX_pick, RX_bin, RX_un, RX_conv, RX_extract, RX_field, RX_indexAddr, RX_fieldAddr, RX_index, RX_build, RX_buildSlice, RX_slice, RX_makeFunc, RX_load, RX_store, RX_alloc, RX_box, RX_append, RX_len, RX_call, RX_callV, wantD_some, wantV_bool, wantV_undef, DX_zero, DX_succ, asB_bool, nth, put, putT, getT, opv_tmp, opv_const, opv_func, cst_int, cst_bool, cst_string, cst_nil, cst_ptr, pickA_true, pickA_false, pickA_bool, extA_tup, fldV_agg, bldA_some, litA_some, callV_fn, aBin_int, aBin_str, aBin_bool, binInt, binStr, binBool, aUn, outA, resA, mapO, resA1, oneOf, fin1_some, finS_some, w1, w2, w3, bots, lenV_str, lenV_frz, lenV_sref, List.map_cons, List.map_nil, List.cons_append, List.nil_append, List.length_cons, List.length_nil, List.toList_toArray, Option.map_some, Option.map_none, Option.bind_some, Option.bind_none, Option.isSome_some, beq_true, beq_false, Bool.true_and, Bool.false_and, Bool.and_true, Bool.and_false, Bool.true_or, Bool.or_true, Bool.false_or, Bool.or_false, Bool.not_true, Bool.not_false, cond_true, cond_false, if_true, if_false, ite_true, ite_false, reduceIte, reduceCtorEq, Bool.false_eq_true, true_implies, false_implies, implies_true, and_true, true_and, Nat.reduceAdd, Nat.reduceSub, AV.int, AV.bool, AV.str, Nat.zero_add, fin1_NX_not, fin1_NX_if, fin1_NS_not, fin1_NS_if, finS_NX_not, finS_NX_if, finS_NS_not, finS_NS_if, Option.some.injEq, AV.tup.injEq, AV.prim.injEq, AV.agg.injEq, AV.frz.injEq, Value.int.injEq, Value.bool.injEq, Value.string.injEq, List.cons.injEq, decide_true, decide_false, List.take_zero, List.take_nil, List.take_succ_cons, Nat.reduceBEq, Nat.reduceEqDiff, Nat.reduceMul, Nat.reduceLT, Nat.reduceLeDiff, Int.reduceNeg, BEq.rfl, beq_self_eq_true, tabl, cellsOf, fldA, ldA, stA, entAt, partA, takeN, over, leafOk, List.all_cons, List.all_nil, Value.oneCell', List.drop_zero, List.drop_succ_cons, List.drop_nil, List.length_map, idxA, intN_cast, intN_zero, aBin_agg, aggB_eql, aggB_neq, aBin_nil, nilB_eql, nilB_neq, nilA, cellsEq, cellEq_int, cellEq_str, cellEq_bool, apA_eq, apB_one, apB_all, entAt_mid, put_new, put_mid, take_two, fillA, elemsA, pure1, pure2, List.replicate_succ, List.replicate_zero, reps, aConv_int, convI_some, aConv_str, RX_makeSlice, RX_makeSlice0, RX_copy, RX_appendS, RX_nilCheck, RX_min, RX_max, cvA_int, cvA_str, minA_int, maxA_int, aBin_refNil, aBin_fptrNil, aBin_nilNil, ptrNil_eql, ptrNil_neq, fz3_tup, fz3_agg, fz3_prim, fz3_frz, fz3_ref, fz3_fn, fz3_sref, fz2_agg, fz2_prim, fz2_frz, fz2_ref, fz2_fn, fz2_sref, fz1_prim, fz1_frz, fz1_ref, fz1_fn, fz1_sref, fz1_old, fzB_some, chkA, finM_BR, ext_mv, apB1_frz, apM_false, apM_true, tys, Tryd.results64, KX_draw, KX_drawQ, callP_eq, callM_true, digA, n2, n1, n0, b1, b0, hin2, hin1, hin0, wn, wn1, wn2, wb1, wb2, g1, g2, g3, g4, g5, g6, g7, hz, hq, Nat.mul_one]
  clear hq g1 g2 g3 g4 g5 g6 g7 n2 n1 n0 b1 b0 wn1 wn2 wb1 wb2 t2 t1 t0 u1 u0 hg
  refine loopS (fun x st => st.T.length = 151 ∧ (x.1 ≤ (dig B).length) ∧ (Off B m i x.1 q x.2.1 (v - 10000 ^ i * (q * B)) x.2.2) ∧ getT st.T 0 = .sref 0 0 0 m 1 ∧ getT st.T 1 = digA (dig B) ∧ getT st.T 2 = .int (i : Nat) ∧ getT st.T 7 = .int (dig B).length ∧ getT st.T 9 = .int q ∧ getT st.T 10 = .int x.2.1 ∧ getT st.T 59 = digA (dig B) ∧ getT st.T 60 = .int (dig B).length ∧ getT st.T 61 = .int (x.1 : Nat) ∧ st.S = [⟨0, x.2.2.map numC⟩, ⟨1, out.map numC⟩] ∧ st.tk = tk ∧ st.n = k) (fun x => (dig B).length - x.1) (fun x => (.int ((v / 10000 ^ i / B : Nat) : Int), [⟨0, (padD (v - 10000 ^ i * (v / 10000 ^ i / B * B)) m).map numC⟩, ⟨1, out.map numC⟩], tk, k)) (0, 0, padD v m) ?_ ?_
  case refine_2 => exact ⟨rfl, Nat.zero_le _, hst, rfl, rfl, rfl, rfl, rfl, rfl, rfl, rfl, rfl, rfl, rfl, rfl⟩
  rintro ⟨kk, c, o⟩ ⟨T, S', tk', n'⟩ ⟨hl, hk, hp, e0, e1, e2, e7, e9, e10, e59, e60, e61, eS, eT, eN⟩ IH
  simp only at hk hp e0 e1 e2 e7 e9 e10 e59 e60 e61 eS eT eN
  subst eS eT eN
  obtain ⟨g, hg, hT⟩ := tab_of hl
  rw [hg] at e0 e1 e2 e7 e9 e10 e59 e60 e61
  subst hT
  clear hg hl
  have hlen := hp.len
  have hc := hp.c0
  by_cases hlt : kk < (dig B).length
  · have d2 : decide ((kk : Int) < ((dig B).length : Int)) = true := by simpa using hlt
    obtain ⟨d, hd⟩ := nth_some hlt
    have hd' := nth_dig hd
    have hdk := of_okD (okD_dig B) hd
    have hiw := wrap_add (i := kk) (by omega)
    have hik : IntKind.i64.wrap ((i : Int) + (kk : Int)) = ((i + kk : Nat) : Int) := by rw [wrap_of (by unfold i64; omega)]; omega
    have hin : i + kk < m := by omega
    obtain ⟨x, hx⟩ := nth_some (show i + kk < o.length by omega)
    have hx' := nth_num hx
    have hxk := of_okD hp.ok hx
    obtain ⟨y, hy⟩ : ∃ y, y = x - q * d - c := ⟨_, rfl⟩
    obtain ⟨y0, y1, hneg, hpos⟩ := hp.step ⟨hq1, hq0.2⟩ hx hd hy
    have p0 : 0 ≤ q * d := Int.mul_nonneg hq1 hdk.1
    have p1 : q * d ≤ 9999 * 9999 := Int.mul_le_mul hq0.2 (by omega) hdk.1 (by omega)
    have f1 : IntKind.i64.wrap (q * d) = q * d := wrap_of (by unfold i64; omega)
    have f2 : IntKind.i64.wrap (x - q * d) = x - q * d := wrap_of (by unfold i64; omega)
    have f3 : IntKind.i64.wrap (x - q * d - c) = y := by rw [hy, wrap_of (by unfold i64; omega)]
    by_cases hn : y < 0
    · have d3 : decide (y < 0) = true := by simpa using hn
      obtain ⟨r1, r2, r3, r4, hnext⟩ := hneg hn
      have f4 : IntKind.i64.wrap (0 - y) = 0 - y := wrap_of (by unfold i64; omega)
      have f5 : IntKind.i64.wrap (0 - y + 10000) = 0 - y + 10000 := wrap_of (by unfold i64; omega)
      have f6 : IntKind.i64.wrap (0 - y + 10000 - 1) = 0 - y + 10000 - 1 := wrap_of (by unfold i64; omega)
      have hz2 : ¬ ((10000 : Int) = 0) := by omega
      obtain ⟨c', hc'⟩ : ∃ c', c' = (0 - y + 10000 - 1).tdiv 10000 := ⟨_, rfl⟩
      rw [← hc'] at r1 r2 r3 r4 hnext
      have f7 : IntKind.i64.wrap ((0 - y + 10000 - 1).tdiv 10000) = c' := by rw [← hc', wrap_of (by unfold i64; omega)]
      have f8 : IntKind.i64.wrap (c' * 10000) = c' * 10000 := wrap_of (by unfold i64; omega)
      have f9 : IntKind.i64.wrap (y + c' * 10000) = y + c' * 10000 := wrap_of (by unfold i64; omega)
      have hov := over_num (v := y + c' * 10000) hx
      simp (maxSteps := 1000000) +contextual (disch := first | with_reducible assumption | exact ⟨rfl⟩ | (refine _root_.id ?_; kernel_rfl) | omega) only [KX_seq, KX_skip, KX_exit, KX_ret, KX_if, KX_block, KX_region, CX_seq, CX_block, CX_loop, CX_exit_seq, CX_exit_block, CX_exit_loop, CX_ret, CX_ret_nil, CX_normal_nil, NX_some, NS_some, BR_true, BR_false, BR_not, fin1_BR, finS_BR, RX_nil, RX_guard, RX_move, RX_assign, RX_pick, RX_bin, RX_un, RX_conv, RX_extract, RX_field, RX_indexAddr, RX_fieldAddr, RX_index, RX_build, RX_buildSlice, RX_slice, RX_makeFunc, RX_load, RX_store, RX_alloc, RX_box, RX_append, RX_len, RX_call, RX_callV, wantD_some, wantV_bool, wantV_undef, DX_zero, DX_succ, asB_bool, nth, put, putT, getT, opv_tmp, opv_const, opv_func, cst_int, cst_bool, cst_string, cst_nil, cst_ptr, pickA_true, pickA_false, pickA_bool, extA_tup, fldV_agg, bldA_some, litA_some, callV_fn, aBin_int, aBin_str, aBin_bool, binInt, binStr, binBool, aUn, outA, resA, mapO, resA1, oneOf, fin1_some, finS_some, w1, w2, w3, bots, lenV_str, lenV_frz, lenV_sref, List.map_cons, List.map_nil, List.cons_append, List.nil_append, List.length_cons, List.length_nil, List.toList_toArray, Option.map_some, Option.map_none, Option.bind_some, Option.bind_none, Option.isSome_some, beq_true, beq_false, Bool.true_and, Bool.false_and, Bool.and_true, Bool.and_false, Bool.true_or, Bool.or_true, Bool.false_or, Bool.or_false, Bool.not_true, Bool.not_false, cond_true, cond_false, if_true, if_false, ite_true, ite_false, reduceIte, reduceCtorEq, Bool.false_eq_true, true_implies, false_implies, implies_true, and_true, true_and, Nat.reduceAdd, Nat.reduceSub, AV.int, AV.bool, AV.str, Nat.zero_add, fin1_NX_not, fin1_NX_if, fin1_NS_not, fin1_NS_if, finS_NX_not, finS_NX_if, finS_NS_not, finS_NS_if, Option.some.injEq, AV.tup.injEq, AV.prim.injEq, AV.agg.injEq, AV.frz.injEq, Value.int.injEq, Value.bool.injEq, Value.string.injEq, List.cons.injEq, decide_true, decide_false, List.take_zero, List.take_nil, List.take_succ_cons, Nat.reduceBEq, Nat.reduceEqDiff, Nat.reduceMul, Nat.reduceLT, Nat.reduceLeDiff, Int.reduceNeg, BEq.rfl, beq_self_eq_true, tabl, cellsOf, fldA, ldA, stA, entAt, partA, takeN, over, leafOk, List.all_cons, List.all_nil, Value.oneCell', List.drop_zero, List.drop_succ_cons, List.drop_nil, List.length_map, idxA, intN_cast, intN_zero, aBin_agg, aggB_eql, aggB_neq, aBin_nil, nilB_eql, nilB_neq, nilA, cellsEq, cellEq_int, cellEq_str, cellEq_bool, apA_eq, apB_one, apB_all, entAt_mid, put_new, put_mid, take_two, fillA, elemsA, pure1, pure2, List.replicate_succ, List.replicate_zero, reps, aConv_int, convI_some, aConv_str, RX_makeSlice, RX_makeSlice0, RX_copy, RX_appendS, RX_nilCheck, RX_min, RX_max, cvA_int, cvA_str, minA_int, maxA_int, aBin_refNil, aBin_fptrNil, aBin_nilNil, ptrNil_eql, ptrNil_neq, fz3_tup, fz3_agg, fz3_prim, fz3_frz, fz3_ref, fz3_fn, fz3_sref, fz2_agg, fz2_prim, fz2_frz, fz2_ref, fz2_fn, fz2_sref, fz1_prim, fz1_frz, fz1_ref, fz1_fn, fz1_sref, fz1_old, fzB_some, chkA, finM_BR, ext_mv, apB1_frz, apM_false, apM_true, tys, Tryd.results64, KX_draw, KX_drawQ, callP_eq, callM_true, digA, e0, e1, e2, e7, e9, e10, e59, e60, e61, d2, d3, hd', hiw, hik, hx', hin, f1, f2, f3, f4, f5, f6, f7, f8, f9, hz2, hov, Nat.mul_one]
      exact IH (kk + 1, c', o.set (i + kk) (y + c' * 10000)) _ (by first | omega | (simp only; omega)) ⟨rfl, by first | omega | (dsimp only; omega), hnext, (by first | rfl | simp only [getT, List.map_append, List.map_cons, List.map_nil, digC, digA]), (by first | rfl | simp only [getT, List.map_append, List.map_cons, List.map_nil, digC, digA]), (by first | rfl | simp only [getT, List.map_append, List.map_cons, List.map_nil, digC, digA]), (by first | rfl | simp only [getT, List.map_append, List.map_cons, List.map_nil, digC, digA]), (by first | rfl | simp only [getT, List.map_append, List.map_cons, List.map_nil, digC, digA]), (by first | rfl | simp only [getT, List.map_append, List.map_cons, List.map_nil, digC, digA]), (by first | rfl | simp only [getT, List.map_append, List.map_cons, List.map_nil, digC, digA]), (by first | rfl | simp only [getT, List.map_append, List.map_cons, List.map_nil, digC, digA]), (by first | rfl | simp only [getT, List.map_append, List.map_cons, List.map_nil, digC, digA]), (by first | rfl | simp only [getT, List.map_append, List.map_cons, List.map_nil, digC, digA]), rfl, rfl⟩
    · have d3 : decide (y < 0) = false := by simpa using hn
      have hov := over_num (v := y) hx
      simp (maxSteps := 1000000) +contextual (disch := first | with_reducible assumption | exact ⟨rfl⟩ | (refine _root_.id ?_; kernel_rfl) | omega) only [KX_seq, KX_skip, KX_exit, KX_ret, KX_if, KX_block, KX_region, CX_seq, CX_block, CX_loop, CX_exit_seq, CX_exit_block, CX_exit_loop, CX_ret, CX_ret_nil, CX_normal_nil, NX_some, NS_some, BR_true, BR_false, BR_not, fin1_BR, finS_BR, RX_nil, RX_guard, RX_move, RX_assign, RX_pick, RX_bin, RX_un, RX_conv, RX_extract, RX_field, RX_indexAddr, RX_fieldAddr, RX_index, RX_build, RX_buildSlice, RX_slice, RX_makeFunc, RX_load, RX_store, RX_alloc, RX_box, RX_append, RX_len, RX_call, RX_callV, wantD_some, wantV_bool, wantV_undef, DX_zero, DX_succ, asB_bool, nth, put, putT, getT, opv_tmp, opv_const, opv_func, cst_int, cst_bool, cst_string, cst_nil, cst_ptr, pickA_true, pickA_false, pickA_bool, extA_tup, fldV_agg, bldA_some, litA_some, callV_fn, aBin_int, aBin_str, aBin_bool, binInt, binStr, binBool, aUn, outA, resA, mapO, resA1, oneOf, fin1_some, finS_some, w1, w2, w3, bots, lenV_str, lenV_frz, lenV_sref, List.map_cons, List.map_nil, List.cons_append, List.nil_append, List.length_cons, List.length_nil, List.toList_toArray, Option.map_some, Option.map_none, Option.bind_some, Option.bind_none, Option.isSome_some, beq_true, beq_false, Bool.true_and, Bool.false_and, Bool.and_true, Bool.and_false, Bool.true_or, Bool.or_true, Bool.false_or, Bool.or_false, Bool.not_true, Bool.not_false, cond_true, cond_false, if_true, if_false, ite_true, ite_false, reduceIte, reduceCtorEq, Bool.false_eq_true, true_implies, false_implies, implies_true, and_true, true_and, Nat.reduceAdd, Nat.reduceSub, AV.int, AV.bool, AV.str, Nat.zero_add, fin1_NX_not, fin1_NX_if, fin1_NS_not, fin1_NS_if, finS_NX_not, finS_NX_if, finS_NS_not, finS_NS_if, Option.some.injEq, AV.tup.injEq, AV.prim.injEq, AV.agg.injEq, AV.frz.injEq, Value.int.injEq, Value.bool.injEq, Value.string.injEq, List.cons.injEq, decide_true, decide_false, List.take_zero, List.take_nil, List.take_succ_cons, Nat.reduceBEq, Nat.reduceEqDiff, Nat.reduceMul, Nat.reduceLT, Nat.reduceLeDiff, Int.reduceNeg, BEq.rfl, beq_self_eq_true, tabl, cellsOf, fldA, ldA, stA, entAt, partA, takeN, over, leafOk, List.all_cons, List.all_nil, Value.oneCell', List.drop_zero, List.drop_succ_cons, List.drop_nil, List.length_map, idxA, intN_cast, intN_zero, aBin_agg, aggB_eql, aggB_neq, aBin_nil, nilB_eql, nilB_neq, nilA, cellsEq, cellEq_int, cellEq_str, cellEq_bool, apA_eq, apB_one, apB_all, entAt_mid, put_new, put_mid, take_two, fillA, elemsA, pure1, pure2, List.replicate_succ, List.replicate_zero, reps, aConv_int, convI_some, aConv_str, RX_makeSlice, RX_makeSlice0, RX_copy, RX_appendS, RX_nilCheck, RX_min, RX_max, cvA_int, cvA_str, minA_int, maxA_int, aBin_refNil, aBin_fptrNil, aBin_nilNil, ptrNil_eql, ptrNil_neq, fz3_tup, fz3_agg, fz3_prim, fz3_frz, fz3_ref, fz3_fn, fz3_sref, fz2_agg, fz2_prim, fz2_frz, fz2_ref, fz2_fn, fz2_sref, fz1_prim, fz1_frz, fz1_ref, fz1_fn, fz1_sref, fz1_old, fzB_some, chkA, finM_BR, ext_mv, apB1_frz, apM_false, apM_true, tys, Tryd.results64, KX_draw, KX_drawQ, callP_eq, callM_true, digA, e0, e1, e2, e7, e9, e10, e59, e60, e61, d2, d3, hd', hiw, hik, hx', hin, f1, f2, f3, hov, Nat.mul_one]
      exact IH (kk + 1, 0, o.set (i + kk) y) _ (by first | omega | (simp only; omega)) ⟨rfl, by first | omega | (dsimp only; omega), hpos hn, (by first | rfl | simp only [getT, List.map_append, List.map_cons, List.map_nil, digC, digA]), (by first | rfl | simp only [getT, List.map_append, List.map_cons, List.map_nil, digC, digA]), (by first | rfl | simp only [getT, List.map_append, List.map_cons, List.map_nil, digC, digA]), (by first | rfl | simp only [getT, List.map_append, List.map_cons, List.map_nil, digC, digA]), (by first | rfl | simp only [getT, List.map_append, List.map_cons, List.map_nil, digC, digA]), (by first | rfl | simp only [getT, List.map_append, List.map_cons, List.map_nil, digC, digA]), (by first | rfl | simp only [getT, List.map_append, List.map_cons, List.map_nil, digC, digA]), (by first | rfl | simp only [getT, List.map_append, List.map_cons, List.map_nil, digC, digA]), (by first | rfl | simp only [getT, List.map_append, List.map_cons, List.map_nil, digC, digA]), (by first | rfl | simp only [getT, List.map_append, List.map_cons, List.map_nil, digC, digA]), rfl, rfl⟩
  have d2 : decide ((kk : Int) < ((dig B).length : Int)) = false := by simpa using hlt
  have hke : kk = (dig B).length := by omega
  subst hke
  obtain ⟨x, hx⟩ := nth_some (show i + (dig B).length < o.length by omega)
  have hx' := nth_num hx
  have hxk := of_okD hp.ok hx
  have hmid := hp.done hx hq0
  have f1 : IntKind.i64.wrap (x - c) = x - c := wrap_of (by unfold i64; omega)
  have hov := over_num (v := x - c) hx
  clear hlen IH hst
  simp (maxSteps := 1000000) +contextual (disch := first | with_reducible assumption | exact ⟨rfl⟩ | (refine _root_.id ?_; kernel_rfl) | omega) only [KX_seq, KX_skip, KX_exit, KX_ret, KX_if, KX_block, KX_region, CX_seq, CX_block, CX_loop, CX_exit_seq, CX_exit_block, CX_exit_loop, CX_ret, CX_ret_nil, CX_normal_nil, NX_some, NS_some, BR_true, BR_false, BR_not, fin1_BR, finS_BR, RX_nil, RX_guard, RX_move, RX_assign, RX_pick, RX_bin, RX_un, RX_conv, RX_extract, RX_field, RX_indexAddr, RX_fieldAddr, RX_index, RX_build, RX_buildSlice, RX_slice, RX_makeFunc, RX_load, RX_store, RX_alloc, RX_box, RX_append, RX_len, RX_call, RX_callV, wantD_some, wantV_bool, wantV_undef, DX_zero, DX_succ, asB_bool, nth, put, putT, getT, opv_tmp, opv_const, opv_func, cst_int, cst_bool, cst_string, cst_nil, cst_ptr, pickA_true, pickA_false, pickA_bool, extA_tup, fldV_agg, bldA_some, litA_some, callV_fn, aBin_int, aBin_str, aBin_bool, binInt, binStr, binBool, aUn, outA, resA, mapO, resA1, oneOf, fin1_some, finS_some, w1, w2, w3, bots, lenV_str, lenV_frz, lenV_sref, List.map_cons, List.map_nil, List.cons_append, List.nil_append, List.length_cons, List.length_nil, List.toList_toArray, Option.map_some, Option.map_none, Option.bind_some, Option.bind_none, Option.isSome_some, beq_true, beq_false, Bool.true_and, Bool.false_and, Bool.and_true, Bool.and_false, Bool.true_or, Bool.or_true, Bool.false_or, Bool.or_false, Bool.not_true, Bool.not_false, cond_true, cond_false, if_true, if_false, ite_true, ite_false, reduceIte, reduceCtorEq, Bool.false_eq_true, true_implies, false_implies, implies_true, and_true, true_and, Nat.reduceAdd, Nat.reduceSub, AV.int, AV.bool, AV.str, Nat.zero_add, fin1_NX_not, fin1_NX_if, fin1_NS_not, fin1_NS_if, finS_NX_not, finS_NX_if, finS_NS_not, finS_NS_if, Option.some.injEq, AV.tup.injEq, AV.prim.injEq, AV.agg.injEq, AV.frz.injEq, Value.int.injEq, Value.bool.injEq, Value.string.injEq, List.cons.injEq, decide_true, decide_false, List.take_zero, List.take_nil, List.take_succ_cons, Nat.reduceBEq, Nat.reduceEqDiff, Nat.reduceMul, Nat.reduceLT, Nat.reduceLeDiff, Int.reduceNeg, BEq.rfl, beq_self_eq_true, tabl, cellsOf, fldA, ldA, stA, entAt, partA, takeN, over, leafOk, List.all_cons, List.all_nil, Value.oneCell', List.drop_zero, List.drop_succ_cons, List.drop_nil, List.length_map, idxA, intN_cast, intN_zero, aBin_agg, aggB_eql, aggB_neq, aBin_nil, nilB_eql, nilB_neq, nilA, cellsEq, cellEq_int, cellEq_str, cellEq_bool, apA_eq, apB_one, apB_all, entAt_mid, put_new, put_mid, take_two, fillA, elemsA, pure1, pure2, List.replicate_succ, List.replicate_zero, reps, aConv_int, convI_some, aConv_str, RX_makeSlice, RX_makeSlice0, RX_copy, RX_appendS, RX_nilCheck, RX_min, RX_max, cvA_int, cvA_str, minA_int, maxA_int, aBin_refNil, aBin_fptrNil, aBin_nilNil, ptrNil_eql, ptrNil_neq, fz3_tup, fz3_agg, fz3_prim, fz3_frz, fz3_ref, fz3_fn, fz3_sref, fz2_agg, fz2_prim, fz2_frz, fz2_ref, fz2_fn, fz2_sref, fz1_prim, fz1_frz, fz1_ref, fz1_fn, fz1_sref, fz1_old, fzB_some, chkA, finM_BR, ext_mv, apB1_frz, apM_false, apM_true, tys, Tryd.results64, KX_draw, KX_drawQ, callP_eq, callM_true, digA, e0, e1, e2, e7, e9, e10, e59, e60, e61, d2, wn, hx', hin2, f1, hov, Nat.mul_one]
  clear f1 hx' hov hxk hp hlt d2 e0 e1 e2 e7 e9 e10 e59 e60 e61
  refine loopS (fun x st => st.T.length = 151 ∧ (Mid v B m i x.1 x.2) ∧ getT st.T 0 = .sref 0 0 0 m 1 ∧ getT st.T 1 = digA (dig B) ∧ getT st.T 2 = .int (i : Nat) ∧ getT st.T 7 = .int (dig B).length ∧ getT st.T 9 = .int x.1 ∧ st.S = [⟨0, x.2.map numC⟩, ⟨1, out.map numC⟩] ∧ st.tk = tk' ∧ st.n = n') (fun x => x.1.toNat) (fun x => (.int ((v / 10000 ^ i / B : Nat) : Int), [⟨0, (padD (v - 10000 ^ i * (v / 10000 ^ i / B * B)) m).map numC⟩, ⟨1, out.map numC⟩], tk', n')) (q, o.set (i + (dig B).length) (x - c)) ?_ ?_
  case refine_2 => exact ⟨rfl, hmid, rfl, rfl, rfl, rfl, rfl, rfl, rfl, rfl⟩
  rintro ⟨q2, o2⟩ ⟨T, S', tk', n'⟩ ⟨hl, hp, e0, e1, e2, e7, e9, eS, eT, eN⟩ IH
  simp only at hp e0 e1 e2 e7 e9 eS eT eN
  subst eS eT eN
  obtain ⟨g, hg, hT⟩ := tab_of hl
  rw [hg] at e0 e1 e2 e7 e9
  subst hT
  clear hg hl
  have OUT := IH
  clear IH
  have hlen := hp.len
  have hq2 := hp.q0
  obtain ⟨z, hz⟩ := nth_some (show i + (dig B).length < o2.length by omega)
  have hz' := nth_num hz
  have hzk := hp.top z hz
  by_cases hn : z < 0
  case neg =>
    have d3 : decide (z < 0) = false := by simpa using hn
    obtain ⟨r1, r2⟩ := hp.done hB0 hz hn
    simp (maxSteps := 1000000) +contextual (disch := first | with_reducible assumption | exact ⟨rfl⟩ | (refine _root_.id ?_; kernel_rfl) | omega) only [KX_seq, KX_skip, KX_exit, KX_ret, KX_if, KX_block, KX_region, CX_seq, CX_block, CX_loop, CX_exit_seq, CX_exit_block, CX_exit_loop, CX_ret, CX_ret_nil, CX_normal_nil, NX_some, NS_some, BR_true, BR_false, BR_not, fin1_BR, finS_BR, RX_nil, RX_guard, RX_move, RX_assign, RX_pick, RX_bin, RX_un, RX_conv, RX_extract, RX_field, RX_indexAddr, RX_fieldAddr, RX_index, RX_build, RX_buildSlice, RX_slice, RX_makeFunc, RX_load, RX_store, RX_alloc, RX_box, RX_append, RX_len, RX_call, RX_callV, wantD_some, wantV_bool, wantV_undef, DX_zero, DX_succ, asB_bool, nth, put, putT, getT, opv_tmp, opv_const, opv_func, cst_int, cst_bool, cst_string, cst_nil, cst_ptr, pickA_true, pickA_false, pickA_bool, extA_tup, fldV_agg, bldA_some, litA_some, callV_fn, aBin_int, aBin_str, aBin_bool, binInt, binStr, binBool, aUn, outA, resA, mapO, resA1, oneOf, fin1_some, finS_some, w1, w2, w3, bots, lenV_str, lenV_frz, lenV_sref, List.map_cons, List.map_nil, List.cons_append, List.nil_append, List.length_cons, List.length_nil, List.toList_toArray, Option.map_some, Option.map_none, Option.bind_some, Option.bind_none, Option.isSome_some, beq_true, beq_false, Bool.true_and, Bool.false_and, Bool.and_true, Bool.and_false, Bool.true_or, Bool.or_true, Bool.false_or, Bool.or_false, Bool.not_true, Bool.not_false, cond_true, cond_false, if_true, if_false, ite_true, ite_false, reduceIte, reduceCtorEq, Bool.false_eq_true, true_implies, false_implies, implies_true, and_true, true_and, Nat.reduceAdd, Nat.reduceSub, AV.int, AV.bool, AV.str, Nat.zero_add, fin1_NX_not, fin1_NX_if, fin1_NS_not, fin1_NS_if, finS_NX_not, finS_NX_if, finS_NS_not, finS_NS_if, Option.some.injEq, AV.tup.injEq, AV.prim.injEq, AV.agg.injEq, AV.frz.injEq, Value.int.injEq, Value.bool.injEq, Value.string.injEq, List.cons.injEq, decide_true, decide_false, List.take_zero, List.take_nil, List.take_succ_cons, Nat.reduceBEq, Nat.reduceEqDiff, Nat.reduceMul, Nat.reduceLT, Nat.reduceLeDiff, Int.reduceNeg, BEq.rfl, beq_self_eq_true, tabl, cellsOf, fldA, ldA, stA, entAt, partA, takeN, over, leafOk, List.all_cons, List.all_nil, Value.oneCell', List.drop_zero, List.drop_succ_cons, List.drop_nil, List.length_map, idxA, intN_cast, intN_zero, aBin_agg, aggB_eql, aggB_neq, aBin_nil, nilB_eql, nilB_neq, nilA, cellsEq, cellEq_int, cellEq_str, cellEq_bool, apA_eq, apB_one, apB_all, entAt_mid, put_new, put_mid, take_two, fillA, elemsA, pure1, pure2, List.replicate_succ, List.replicate_zero, reps, aConv_int, convI_some, aConv_str, RX_makeSlice, RX_makeSlice0, RX_copy, RX_appendS, RX_nilCheck, RX_min, RX_max, cvA_int, cvA_str, minA_int, maxA_int, aBin_refNil, aBin_fptrNil, aBin_nilNil, ptrNil_eql, ptrNil_neq, fz3_tup, fz3_agg, fz3_prim, fz3_frz, fz3_ref, fz3_fn, fz3_sref, fz2_agg, fz2_prim, fz2_frz, fz2_ref, fz2_fn, fz2_sref, fz1_prim, fz1_frz, fz1_ref, fz1_fn, fz1_sref, fz1_old, fzB_some, chkA, finM_BR, ext_mv, apB1_frz, apM_false, apM_true, tys, Tryd.results64, KX_draw, KX_drawQ, callP_eq, callM_true, digA, e0, e1, e2, e7, e9, d3, wn, hz', hin2, Nat.mul_one]
    rw [r1, r2]
  have d3 : decide (z < 0) = true := by simpa using hn
  have hq3 := hp.neg hB0 hz hn
  have f1 : IntKind.i64.wrap (q2 - 1) = q2 - 1 := wrap_of (by unfold i64; omega)
  have hbk := hp.back hB0 hz hn
  simp (maxSteps := 1000000) +contextual (disch := first | with_reducible assumption | exact ⟨rfl⟩ | (refine _root_.id ?_; kernel_rfl) | omega) only [KX_seq, KX_skip, KX_exit, KX_ret, KX_if, KX_block, KX_region, CX_seq, CX_block, CX_loop, CX_exit_seq, CX_exit_block, CX_exit_loop, CX_ret, CX_ret_nil, CX_normal_nil, NX_some, NS_some, BR_true, BR_false, BR_not, fin1_BR, finS_BR, RX_nil, RX_guard, RX_move, RX_assign, RX_pick, RX_bin, RX_un, RX_conv, RX_extract, RX_field, RX_indexAddr, RX_fieldAddr, RX_index, RX_build, RX_buildSlice, RX_slice, RX_makeFunc, RX_load, RX_store, RX_alloc, RX_box, RX_append, RX_len, RX_call, RX_callV, wantD_some, wantV_bool, wantV_undef, DX_zero, DX_succ, asB_bool, nth, put, putT, getT, opv_tmp, opv_const, opv_func, cst_int, cst_bool, cst_string, cst_nil, cst_ptr, pickA_true, pickA_false, pickA_bool, extA_tup, fldV_agg, bldA_some, litA_some, callV_fn, aBin_int, aBin_str, aBin_bool, binInt, binStr, binBool, aUn, outA, resA, mapO, resA1, oneOf, fin1_some, finS_some, w1, w2, w3, bots, lenV_str, lenV_frz, lenV_sref, List.map_cons, List.map_nil, List.cons_append, List.nil_append, List.length_cons, List.length_nil, List.toList_toArray, Option.map_some, Option.map_none, Option.bind_some, Option.bind_none, Option.isSome_some, beq_true, beq_false, Bool.true_and, Bool.false_and, Bool.and_true, Bool.and_false, Bool.true_or, Bool.or_true, Bool.false_or, Bool.or_false, Bool.not_true, Bool.not_false, cond_true, cond_false, if_true, if_false, ite_true, ite_false, reduceIte, reduceCtorEq, Bool.false_eq_true, true_implies, false_implies, implies_true, and_true, true_and, Nat.reduceAdd, Nat.reduceSub, AV.int, AV.bool, AV.str, Nat.zero_add, fin1_NX_not, fin1_NX_if, fin1_NS_not, fin1_NS_if, finS_NX_not, finS_NX_if, finS_NS_not, finS_NS_if, Option.some.injEq, AV.tup.injEq, AV.prim.injEq, AV.agg.injEq, AV.frz.injEq, Value.int.injEq, Value.bool.injEq, Value.string.injEq, List.cons.injEq, decide_true, decide_false, List.take_zero, List.take_nil, List.take_succ_cons, Nat.reduceBEq, Nat.reduceEqDiff, Nat.reduceMul, Nat.reduceLT, Nat.reduceLeDiff, Int.reduceNeg, BEq.rfl, beq_self_eq_true, tabl, cellsOf, fldA, ldA, stA, entAt, partA, takeN, over, leafOk, List.all_cons, List.all_nil, Value.oneCell', List.drop_zero, List.drop_succ_cons, List.drop_nil, List.length_map, idxA, intN_cast, intN_zero, aBin_agg, aggB_eql, aggB_neq, aBin_nil, nilB_eql, nilB_neq, nilA, cellsEq, cellEq_int, cellEq_str, cellEq_bool, apA_eq, apB_one, apB_all, entAt_mid, put_new, put_mid, take_two, fillA, elemsA, pure1, pure2, List.replicate_succ, List.replicate_zero, reps, aConv_int, convI_some, aConv_str, RX_makeSlice, RX_makeSlice0, RX_copy, RX_appendS, RX_nilCheck, RX_min, RX_max, cvA_int, cvA_str, minA_int, maxA_int, aBin_refNil, aBin_fptrNil, aBin_nilNil, ptrNil_eql, ptrNil_neq, fz3_tup, fz3_agg, fz3_prim, fz3_frz, fz3_ref, fz3_fn, fz3_sref, fz2_agg, fz2_prim, fz2_frz, fz2_ref, fz2_fn, fz2_sref, fz1_prim, fz1_frz, fz1_ref, fz1_fn, fz1_sref, fz1_old, fzB_some, chkA, finM_BR, ext_mv, apB1_frz, apM_false, apM_true, tys, Tryd.results64, KX_draw, KX_drawQ, callP_eq, callM_true, digA, e0, e1, e2, e7, e9, d3, wn, hz', hin2, f1, Nat.mul_one]
  clear e0 e1 e2 e7 e9 d3 hz' f1 hlen hp
  refine loopS (fun x st => st.T.length = 151 ∧ (x.1 ≤ (dig B).length) ∧ (Back v B m i x.1 (q2 - 1) x.2.1 x.2.2) ∧ getT st.T 0 = .sref 0 0 0 m 1 ∧ getT st.T 1 = digA (dig B) ∧ getT st.T 2 = .int (i : Nat) ∧ getT st.T 7 = .int (dig B).length ∧ getT st.T 9 = .int (q2 - 1) ∧ getT st.T 14 = .int x.2.1 ∧ getT st.T 114 = digA (dig B) ∧ getT st.T 115 = .int (dig B).length ∧ getT st.T 116 = .int (x.1 : Nat) ∧ st.S = [⟨0, x.2.2.map numC⟩, ⟨1, out.map numC⟩] ∧ st.tk = tk' ∧ st.n = n') (fun x => (dig B).length - x.1) (fun x => (.int ((v / 10000 ^ i / B : Nat) : Int), [⟨0, (padD (v - 10000 ^ i * (v / 10000 ^ i / B * B)) m).map numC⟩, ⟨1, out.map numC⟩], tk', n')) (0, 0, o2) ?_ ?_
  case refine_2 => exact ⟨rfl, Nat.zero_le _, hbk, rfl, rfl, rfl, rfl, rfl, rfl, rfl, rfl, rfl, rfl, rfl, rfl⟩
  rintro ⟨kk, c, o3⟩ ⟨T, S', tk', n'⟩ ⟨hl, hk, hp, e0, e1, e2, e7, e9, e14, e114, e115, e116, eS, eT, eN⟩ IH
  simp only at hk hp e0 e1 e2 e7 e9 e14 e114 e115 e116 eS eT eN
  subst eS eT eN
  obtain ⟨g, hg, hT⟩ := tab_of hl
  rw [hg] at e0 e1 e2 e7 e9 e14 e114 e115 e116
  subst hT
  clear hg hl
  have hlen := hp.len
  have hc := hp.c0
  by_cases hlt : kk < (dig B).length
  · have d2 : decide ((kk : Int) < ((dig B).length : Int)) = true := by simpa using hlt
    obtain ⟨d, hd⟩ := nth_some hlt
    have hd' := nth_dig hd
    have hdk := of_okD (okD_dig B) hd
    have hiw := wrap_add (i := kk) (by omega)
    have hik : IntKind.i64.wrap ((i : Int) + (kk : Int)) = ((i + kk : Nat) : Int) := by rw [wrap_of (by unfold i64; omega)]; omega
    have hin : i + kk < m := by omega
    obtain ⟨x, hx⟩ := nth_some (show i + kk < o3.length by omega)
    have hx' := nth_num hx
    obtain ⟨y, hy⟩ : ∃ y, y = x + d + c := ⟨_, rfl⟩
    obtain ⟨hnext, y0, y1, x0, x1⟩ := hp.step hx hd hy
    have f2 : IntKind.i64.wrap (x + d) = x + d := wrap_of (by unfold i64; omega)
    have f3 : IntKind.i64.wrap (x + d + c) = y := by rw [hy, wrap_of (by unfold i64; omega)]
    have hz2 : ¬ ((10000 : Int) = 0) := by omega
    have ey : y.tdiv 10000 = y / 10000 := Int.tdiv_eq_ediv_of_nonneg y0
    have f7 : IntKind.i64.wrap (y.tdiv 10000) = y.tdiv 10000 := by rw [ey, wrap_of (by unfold i64; omega)]
    have hov := over_num (v := y.tmod 10000) hx
    simp (maxSteps := 1000000) +contextual (disch := first | with_reducible assumption | exact ⟨rfl⟩ | (refine _root_.id ?_; kernel_rfl) | omega) only [KX_seq, KX_skip, KX_exit, KX_ret, KX_if, KX_block, KX_region, CX_seq, CX_block, CX_loop, CX_exit_seq, CX_exit_block, CX_exit_loop, CX_ret, CX_ret_nil, CX_normal_nil, NX_some, NS_some, BR_true, BR_false, BR_not, fin1_BR, finS_BR, RX_nil, RX_guard, RX_move, RX_assign, RX_pick, RX_bin, RX_un, RX_conv, RX_extract, RX_field, RX_indexAddr, RX_fieldAddr, RX_index, RX_build, RX_buildSlice, RX_slice, RX_makeFunc, RX_load, RX_store, RX_alloc, RX_box, RX_append, RX_len, RX_call, RX_callV, wantD_some, wantV_bool, wantV_undef, DX_zero, DX_succ, asB_bool, nth, put, putT, getT, opv_tmp, opv_const, opv_func, cst_int, cst_bool, cst_string, cst_nil, cst_ptr, pickA_true, pickA_false, pickA_bool, extA_tup, fldV_agg, bldA_some, litA_some, callV_fn, aBin_int, aBin_str, aBin_bool, binInt, binStr, binBool, aUn, outA, resA, mapO, resA1, oneOf, fin1_some, finS_some, w1, w2, w3, bots, lenV_str, lenV_frz, lenV_sref, List.map_cons, List.map_nil, List.cons_append, List.nil_append, List.length_cons, List.length_nil, List.toList_toArray, Option.map_some, Option.map_none, Option.bind_some, Option.bind_none, Option.isSome_some, beq_true, beq_false, Bool.true_and, Bool.false_and, Bool.and_true, Bool.and_false, Bool.true_or, Bool.or_true, Bool.false_or, Bool.or_false, Bool.not_true, Bool.not_false, cond_true, cond_false, if_true, if_false, ite_true, ite_false, reduceIte, reduceCtorEq, Bool.false_eq_true, true_implies, false_implies, implies_true, and_true, true_and, Nat.reduceAdd, Nat.reduceSub, AV.int, AV.bool, AV.str, Nat.zero_add, fin1_NX_not, fin1_NX_if, fin1_NS_not, fin1_NS_if, finS_NX_not, finS_NX_if, finS_NS_not, finS_NS_if, Option.some.injEq, AV.tup.injEq, AV.prim.injEq, AV.agg.injEq, AV.frz.injEq, Value.int.injEq, Value.bool.injEq, Value.string.injEq, List.cons.injEq, decide_true, decide_false, List.take_zero, List.take_nil, List.take_succ_cons, Nat.reduceBEq, Nat.reduceEqDiff, Nat.reduceMul, Nat.reduceLT, Nat.reduceLeDiff, Int.reduceNeg, BEq.rfl, beq_self_eq_true, tabl, cellsOf, fldA, ldA, stA, entAt, partA, takeN, over, leafOk, List.all_cons, List.all_nil, Value.oneCell', List.drop_zero, List.drop_succ_cons, List.drop_nil, List.length_map, idxA, intN_cast, intN_zero, aBin_agg, aggB_eql, aggB_neq, aBin_nil, nilB_eql, nilB_neq, nilA, cellsEq, cellEq_int, cellEq_str, cellEq_bool, apA_eq, apB_one, apB_all, entAt_mid, put_new, put_mid, take_two, fillA, elemsA, pure1, pure2, List.replicate_succ, List.replicate_zero, reps, aConv_int, convI_some, aConv_str, RX_makeSlice, RX_makeSlice0, RX_copy, RX_appendS, RX_nilCheck, RX_min, RX_max, cvA_int, cvA_str, minA_int, maxA_int, aBin_refNil, aBin_fptrNil, aBin_nilNil, ptrNil_eql, ptrNil_neq, fz3_tup, fz3_agg, fz3_prim, fz3_frz, fz3_ref, fz3_fn, fz3_sref, fz2_agg, fz2_prim, fz2_frz, fz2_ref, fz2_fn, fz2_sref, fz1_prim, fz1_frz, fz1_ref, fz1_fn, fz1_sref, fz1_old, fzB_some, chkA, finM_BR, ext_mv, apB1_frz, apM_false, apM_true, tys, Tryd.results64, KX_draw, KX_drawQ, callP_eq, callM_true, digA, e0, e1, e2, e7, e9, e14, e114, e115, e116, d2, hd', hiw, hik, hx', hin, f2, f3, f7, hz2, hov, Nat.mul_one]
    exact IH (kk + 1, y.tdiv 10000, o3.set (i + kk) (y.tmod 10000)) _ (by first | omega | (simp only; omega)) ⟨rfl, by first | omega | (dsimp only; omega), hnext, (by first | rfl | simp only [getT, List.map_append, List.map_cons, List.map_nil, digC, digA]), (by first | rfl | simp only [getT, List.map_append, List.map_cons, List.map_nil, digC, digA]), (by first | rfl | simp only [getT, List.map_append, List.map_cons, List.map_nil, digC, digA]), (by first | rfl | simp only [getT, List.map_append, List.map_cons, List.map_nil, digC, digA]), (by first | rfl | simp only [getT, List.map_append, List.map_cons, List.map_nil, digC, digA]), (by first | rfl | simp only [getT, List.map_append, List.map_cons, List.map_nil, digC, digA]), (by first | rfl | simp only [getT, List.map_append, List.map_cons, List.map_nil, digC, digA]), (by first | rfl | simp only [getT, List.map_append, List.map_cons, List.map_nil, digC, digA]), (by first | rfl | simp only [getT, List.map_append, List.map_cons, List.map_nil, digC, digA]), (by first | rfl | simp only [getT, List.map_append, List.map_cons, List.map_nil, digC, digA]), rfl, rfl⟩
  have d2 : decide ((kk : Int) < ((dig B).length : Int)) = false := by simpa using hlt
  have hke : kk = (dig B).length := by omega
  subst hke
  obtain ⟨x, hx⟩ := nth_some (show i + (dig B).length < o3.length by omega)
  have hx' := nth_num hx
  have hxk := hp.top x hx
  have hmid2 := hp.done hx
  have f1 : IntKind.i64.wrap (x + c) = x + c := wrap_of (by unfold i64; omega)
  have hov := over_num (v := x + c) hx
  simp (maxSteps := 1000000) +contextual (disch := first | with_reducible assumption | exact ⟨rfl⟩ | (refine _root_.id ?_; kernel_rfl) | omega) only [KX_seq, KX_skip, KX_exit, KX_ret, KX_if, KX_block, KX_region, CX_seq, CX_block, CX_loop, CX_exit_seq, CX_exit_block, CX_exit_loop, CX_ret, CX_ret_nil, CX_normal_nil, NX_some, NS_some, BR_true, BR_false, BR_not, fin1_BR, finS_BR, RX_nil, RX_guard, RX_move, RX_assign, RX_pick, RX_bin, RX_un, RX_conv, RX_extract, RX_field, RX_indexAddr, RX_fieldAddr, RX_index, RX_build, RX_buildSlice, RX_slice, RX_makeFunc, RX_load, RX_store, RX_alloc, RX_box, RX_append, RX_len, RX_call, RX_callV, wantD_some, wantV_bool, wantV_undef, DX_zero, DX_succ, asB_bool, nth, put, putT, getT, opv_tmp, opv_const, opv_func, cst_int, cst_bool, cst_string, cst_nil, cst_ptr, pickA_true, pickA_false, pickA_bool, extA_tup, fldV_agg, bldA_some, litA_some, callV_fn, aBin_int, aBin_str, aBin_bool, binInt, binStr, binBool, aUn, outA, resA, mapO, resA1, oneOf, fin1_some, finS_some, w1, w2, w3, bots, lenV_str, lenV_frz, lenV_sref, List.map_cons, List.map_nil, List.cons_append, List.nil_append, List.length_cons, List.length_nil, List.toList_toArray, Option.map_some, Option.map_none, Option.bind_some, Option.bind_none, Option.isSome_some, beq_true, beq_false, Bool.true_and, Bool.false_and, Bool.and_true, Bool.and_false, Bool.true_or, Bool.or_true, Bool.false_or, Bool.or_false, Bool.not_true, Bool.not_false, cond_true, cond_false, if_true, if_false, ite_true, ite_false, reduceIte, reduceCtorEq, Bool.false_eq_true, true_implies, false_implies, implies_true, and_true, true_and, Nat.reduceAdd, Nat.reduceSub, AV.int, AV.bool, AV.str, Nat.zero_add, fin1_NX_not, fin1_NX_if, fin1_NS_not, fin1_NS_if, finS_NX_not, finS_NX_if, finS_NS_not, finS_NS_if, Option.some.injEq, AV.tup.injEq, AV.prim.injEq, AV.agg.injEq, AV.frz.injEq, Value.int.injEq, Value.bool.injEq, Value.string.injEq, List.cons.injEq, decide_true, decide_false, List.take_zero, List.take_nil, List.take_succ_cons, Nat.reduceBEq, Nat.reduceEqDiff, Nat.reduceMul, Nat.reduceLT, Nat.reduceLeDiff, Int.reduceNeg, BEq.rfl, beq_self_eq_true, tabl, cellsOf, fldA, ldA, stA, entAt, partA, takeN, over, leafOk, List.all_cons, List.all_nil, Value.oneCell', List.drop_zero, List.drop_succ_cons, List.drop_nil, List.length_map, idxA, intN_cast, intN_zero, aBin_agg, aggB_eql, aggB_neq, aBin_nil, nilB_eql, nilB_neq, nilA, cellsEq, cellEq_int, cellEq_str, cellEq_bool, apA_eq, apB_one, apB_all, entAt_mid, put_new, put_mid, take_two, fillA, elemsA, pure1, pure2, List.replicate_succ, List.replicate_zero, reps, aConv_int, convI_some, aConv_str, RX_makeSlice, RX_makeSlice0, RX_copy, RX_appendS, RX_nilCheck, RX_min, RX_max, cvA_int, cvA_str, minA_int, maxA_int, aBin_refNil, aBin_fptrNil, aBin_nilNil, ptrNil_eql, ptrNil_neq, fz3_tup, fz3_agg, fz3_prim, fz3_frz, fz3_ref, fz3_fn, fz3_sref, fz2_agg, fz2_prim, fz2_frz, fz2_ref, fz2_fn, fz2_sref, fz1_prim, fz1_frz, fz1_ref, fz1_fn, fz1_sref, fz1_old, fzB_some, chkA, finM_BR, ext_mv, apB1_frz, apM_false, apM_true, tys, Tryd.results64, KX_draw, KX_drawQ, callP_eq, callM_true, digA, e0, e1, e2, e7, e9, e14, e114, e115, e116, d2, wn, hx', hin2, f1, hov, Nat.mul_one]
  exact OUT (q2 - 1, o3.set (i + (dig B).length) (x + c)) _ (by first | omega | (simp only; omega)) ⟨rfl, hmid2, (by first | rfl | simp only [getT, List.map_append, List.map_cons, List.map_nil, digC, digA]), (by first | rfl | simp only [getT, List.map_append, List.map_cons, List.map_nil, digC, digA]), (by first | rfl | simp only [getT, List.map_append, List.map_cons, List.map_nil, digC, digA]), (by first | rfl | simp only [getT, List.map_append, List.map_cons, List.map_nil, digC, digA]), (by first | rfl | simp only [getT, List.map_append, List.map_cons, List.map_nil, digC, digA]), (by first | rfl | simp only [getT, List.map_append, List.map_cons, List.map_nil, digC, digA]), rfl, rfl⟩
end
end Go.Proofs.YtokncdoejnchfaaDoor
