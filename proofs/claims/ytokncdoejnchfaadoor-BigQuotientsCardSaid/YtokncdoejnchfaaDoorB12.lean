/-
  Quotients of digits: plain arithmetic; division by one digit.
-/
import Derived.Test.YtokncdoejnchfaaDoorB10
namespace Go.Proofs.YtokncdoejnchfaaDoor
open Go

theorem drop_set_same {l : List Int} {i : Nat} {x : Int} (h : i < l.length) : (l.set i x).drop i = x :: l.drop (i + 1) := by
  rw [nth_drop (nth_set_same h)]
  congr 1
  rw [List.drop_set]; simp
theorem drop_set_later {l : List Int} {i : Nat} {x : Int} : (l.set i x).drop (i + 1) = l.drop (i + 1) := by
  rw [List.drop_set]; simp
theorem okD_zeros (n : Nat) : okD (List.replicate n 0) := fun d hd => by
  have := (List.mem_replicate.1 hd).2; omega
theorem okD_one {r : Int} (h0 : 0 ≤ r) (h1 : r < 10000) : okD [r] := fun d hd => by simp at hd; omega
theorem trim_one {r : Int} (h0 : 0 ≤ r) (h1 : r < 10000) : trimL [r] = dig r.toNat := by
  rw [trim_dig (okD_one h0 h1)]; simp [val]
/-- digits from the top, divided by one digit -/
structure Short (A : Nat) (b : Int) (m : Nat) (r : Int) (out : List Int) : Prop where
  len : out.length = (dig A).length
  ok : okD out
  r0 : 0 ≤ r ∧ r < b
  eqv : val ((dig A).drop m) = val (out.drop m) * b + r
theorem Short.start {A : Nat} {b : Int} (h : 0 < b) : Short A b (dig A).length 0 (List.replicate (dig A).length 0) := by
  refine ⟨by simp, okD_zeros _, by omega, ?_⟩
  rw [List.drop_length, List.drop_eq_nil_of_le (by simp)]; simp [val]
theorem Short.step {A : Nat} {b : Int} {m : Nat} {r x : Int} {out : List Int} (h : Short A b m r out) (hm : m ≠ 0) (hml : m ≤ (dig A).length) (hx : nth (dig A) (m - 1) = some x) :
    Short A b (m - 1) ((r * 10000 + x).tmod b) (out.set (m - 1) ((r * 10000 + x).tdiv b)) ∧ 0 ≤ (r * 10000 + x).tdiv b ∧ (r * 10000 + x).tdiv b < 10000 ∧ 0 ≤ (r * 10000 + x).tmod b ∧ (r * 10000 + x).tmod b < b := by
  have hr := h.r0
  have hxk := of_okD (okD_dig A) hx
  have hn : 0 ≤ r * 10000 + x := by omega
  have e1 : (r * 10000 + x).tdiv b = (r * 10000 + x) / b := Int.tdiv_eq_ediv_of_nonneg hn
  have e2 : (r * 10000 + x).tmod b = (r * 10000 + x) % b := Int.tmod_eq_emod_of_nonneg hn
  have m0 := Int.emod_nonneg (r * 10000 + x) (show b ≠ 0 by omega)
  have m1 := Int.emod_lt_of_pos (r * 10000 + x) (show 0 < b by omega)
  have q0 : 0 ≤ (r * 10000 + x) / b := Int.ediv_nonneg hn (by omega)
  have q1 : (r * 10000 + x) / b < 10000 := Int.ediv_lt_of_lt_mul (by omega) (by omega)
  have hm1 : m - 1 + 1 = m := by omega
  have hlen : m - 1 < out.length := by have := h.len; omega
  rw [e1, e2]
  refine ⟨⟨by rw [List.length_set]; exact h.len, okD_set h.ok q0 q1, ⟨m0, m1⟩, ?_⟩, q0, q1, m0, m1⟩
  have hv := h.eqv
  rw [nth_drop hx, drop_set_same hlen, val, val, hm1, hv]
  have hd := Int.emod_add_mul_ediv (r * 10000 + x) b
  rw [Int.add_mul, Int.mul_add, ← Int.mul_assoc, Int.mul_comm ((r * 10000 + x) / b)]
  generalize b * ((r * 10000 + x) / b) = t at *
  generalize (r * 10000 + x) % b = u at *
  rw [Int.mul_assoc]
  generalize val (out.drop m) * b = w at *
  omega
theorem div_of {A B Q R : Int} (h : A = Q * B + R) (h0 : 0 ≤ R) (h1 : R < B) : A / B = Q ∧ A % B = R := by
  have hb : 0 < B := by omega
  subst h
  constructor
  · rw [Int.add_comm, Int.add_mul_ediv_right _ _ (by omega), Int.ediv_eq_zero_of_lt h0 h1]; omega
  · rw [Int.add_comm, Int.add_mul_emod_self_right, Int.emod_eq_of_lt h0 h1]
theorem div_nat {A B : Nat} {Q R : Int} (h : (A : Int) = Q * B + R) (h0 : 0 ≤ R) (h1 : R < B) : Q = ((A / B : Nat) : Int) ∧ R = ((A % B : Nat) : Int) := by
  obtain ⟨e1, e2⟩ := div_of h h0 h1
  rw [← e1, ← e2]; exact ⟨rfl, rfl⟩
theorem Short.done {A B : Nat} {r : Int} {out : List Int} (h : Short A B 0 r out) : trimL out = dig (A / B) ∧ r.toNat = A % B := by
  have hv := h.eqv
  rw [List.drop_zero, List.drop_zero, val_dig] at hv
  obtain ⟨e1, e2⟩ := div_nat hv h.r0.1 h.r0.2
  rw [trim_dig h.ok, e1]
  exact ⟨by congr 1, by omega⟩
section
variable (S : List Ent) (tk : List Nat) (k : Nat)
set_option maxRecDepth 100000 in
theorem big_short (A B : Nat) (ha : (dig A).length ≤ 100000) (hb0 : 0 < B) (hb1 : B < 10000) : cL Tryd.prog 63 [digA (dig A), .int (B : Nat)] S tk k = some (.tup [digA (dig (A / B)), digA (dig (A % B))], S, tk, k) := by
  refine call_pure Tryd.func63 rfl rfl (by decide +kernel) (by decide +kernel) Tryd.ntmps63 rfl rfl _ _ _ (rfl) ?_; rw [RK_KX]
  have hbo : (elemOf Tryd.prog 22).bind (bytesOf Tryd.prog) = some 8 := by kernel_rfl
  have hmk := mk_num (P := Tryd.prog) (t := 22) (n := (dig A).length) (by simp only [tys, Option.bind_some]) (by simp only [tys, Option.bind_some]) hbo (by omega)
  have d3 := top_idx (n := (dig A).length) (by omega)
  have hst := Short.start (A := A) (b := (B : Int)) (by omega)
  simp (maxSteps := 1000000) +contextual (disch := first | with_reducible assumption | exact ⟨rfl⟩ | (refine _root_.id ?_; kernel_rfl) | omega) only [KX_seq, KX_skip, KX_exit, KX_ret, KX_if, KX_block, KX_region, CX_seq, CX_block, CX_loop, CX_exit_seq, CX_exit_block, CX_exit_loop, CX_ret, CX_ret_nil, CX_normal_nil, NX_some, NS_some, BR_true, BR_false, BR_not, fin1_BR, finS_BR, RX_nil, RX_guard, RX_move, RX_assign, RX_pick, RX_bin, RX_un, RX_conv, RX_extract, RX_field, RX_indexAddr, RX_fieldAddr, RX_index, RX_build, RX_buildSlice, RX_slice, RX_makeFunc, RX_load, RX_store, RX_alloc, RX_box, RX_append, RX_len, RX_call, RX_callV, wantD_some, wantV_bool, wantV_undef, DX_zero, DX_succ, asB_bool, nth, put, putT, getT, opv_tmp, opv_const, opv_func, cst_int, cst_bool, cst_string, cst_nil, cst_ptr, pickA_true, pickA_false, pickA_bool, extA_tup, fldV_agg, bldA_some, litA_some, callV_fn, aBin_int, aBin_str, aBin_bool, binInt, binStr, binBool, aUn, outA, resA, mapO, resA1, oneOf, fin1_some, finS_some, w1, w2, w3, bots, lenV_str, lenV_frz, lenV_sref, List.map_cons, List.map_nil, List.cons_append, List.nil_append, List.length_cons, List.length_nil, List.toList_toArray, Option.map_some, Option.map_none, Option.bind_some, Option.bind_none, Option.isSome_some, beq_true, beq_false, Bool.true_and, Bool.false_and, Bool.and_true, Bool.and_false, Bool.true_or, Bool.or_true, Bool.false_or, Bool.or_false, Bool.not_true, Bool.not_false, cond_true, cond_false, if_true, if_false, ite_true, ite_false, reduceIte, reduceCtorEq, Bool.false_eq_true, true_implies, false_implies, implies_true, and_true, true_and, Nat.reduceAdd, Nat.reduceSub, AV.int, AV.bool, AV.str, Nat.zero_add, fin1_NX_not, fin1_NX_if, fin1_NS_not, fin1_NS_if, finS_NX_not, finS_NX_if, finS_NS_not, finS_NS_if, Option.some.injEq, AV.tup.injEq, AV.prim.injEq, AV.agg.injEq, AV.frz.injEq, Value.int.injEq, Value.bool.injEq, Value.string.injEq, List.cons.injEq, decide_true, decide_false, List.take_zero, List.take_nil, List.take_succ_cons, Nat.reduceBEq, Nat.reduceEqDiff, Nat.reduceMul, Nat.reduceLT, Nat.reduceLeDiff, Int.reduceNeg, BEq.rfl, beq_self_eq_true, tabl, cellsOf, fldA, ldA, stA, entAt, partA, takeN, over, leafOk, List.all_cons, List.all_nil, Value.oneCell', List.drop_zero, List.drop_succ_cons, List.drop_nil, List.length_map, idxA, intN_cast, intN_zero, aBin_agg, aggB_eql, aggB_neq, aBin_nil, nilB_eql, nilB_neq, nilA, cellsEq, cellEq_int, cellEq_str, cellEq_bool, apA_eq, apB_one, apB_all, entAt_mid, put_new, put_mid, take_two, fillA, elemsA, pure1, pure2, List.replicate_succ, List.replicate_zero, reps, aConv_int, convI_some, aConv_str, RX_makeSlice, RX_makeSlice0, RX_copy, RX_appendS, RX_nilCheck, RX_min, RX_max, cvA_int, cvA_str, minA_int, maxA_int, aBin_refNil, aBin_fptrNil, aBin_nilNil, ptrNil_eql, ptrNil_neq, fz3_tup, fz3_agg, fz3_prim, fz3_frz, fz3_ref, fz3_fn, fz3_sref, fz2_agg, fz2_prim, fz2_frz, fz2_ref, fz2_fn, fz2_sref, fz1_prim, fz1_frz, fz1_ref, fz1_fn, fz1_sref, fz1_old, fzB_some, chkA, finM_BR, ext_mv, apB1_frz, apM_false, apM_true, tys, Tryd.results63, KX_draw, KX_drawQ, callP_eq, callM_true, digA, hmk, d3]
  refine loop1 (fun x st => st.T.length = 40 ∧ (x.1 ≤ (dig A).length) ∧ (Short A B x.1 x.2.1 x.2.2) ∧ getT st.T 0 = digA (dig A) ∧ getT st.T 1 = .int (B : Nat) ∧ getT st.T 6 = .sref 0 0 0 (dig A).length 1 ∧ getT st.T 7 = .int x.2.1 ∧ getT st.T 8 = .int ((x.1 : Int) - 1) ∧ st.S = [⟨0, x.2.2.map numC⟩]) (fun x => x.1) (fun x => .tup [digA (dig (A / B)), digA (dig (A % B))]) ((dig A).length, 0, List.replicate (dig A).length 0) ?_ ?_
  case refine_2 => exact ⟨rfl, Nat.le_refl _, hst, rfl, rfl, rfl, rfl, rfl, rfl⟩
  rintro ⟨m, r, out⟩ ⟨T, S', tk', n'⟩ ⟨hl, hm, hp, e0, e1, e6, e7, e8, eS⟩ IH
  simp only at hm hp e0 e1 e6 e7 e8 eS
  subst eS
  obtain ⟨g, hg, hT⟩ := tab_of hl
  rw [hg] at e0 e1 e6 e7 e8
  subst hT
  clear hg hl
  have hlen := hp.len
  by_cases h0 : m = 0
  · have d2 : decide ((m : Int) - 1 ≥ 0) = false := by simp; omega
    subst h0
    obtain ⟨q1, q2⟩ := hp.done
    have hr0 := hp.r0
    have hT := fun tk k => big_trim_own [⟨0, out.map numC⟩] tk k out 0 0 (by omega) rfl
    rw [hlen] at hT
    have hT2 := fun tk k => big_trim [⟨0, out.map numC⟩] tk k [r] .tight (by simp)
    rw [trim_one hr0.1 (by omega), q2] at hT2
    have hfz := fz_num (m := 0) (id := 0) (ep := 0) (S := [⟨0, out.map numC⟩]) (Nat.le_refl _) rfl (trim_len out)
    rw [← trim_is_take, q1] at hfz
    rw [q1] at hT
    simp only [List.map_cons, List.map_nil, digC, digA] at hT2
    simp (maxSteps := 1000000) +contextual (disch := first | with_reducible assumption | exact ⟨rfl⟩ | (refine _root_.id ?_; kernel_rfl) | omega) only [KX_seq, KX_skip, KX_exit, KX_ret, KX_if, KX_block, KX_region, CX_seq, CX_block, CX_loop, CX_exit_seq, CX_exit_block, CX_exit_loop, CX_ret, CX_ret_nil, CX_normal_nil, NX_some, NS_some, BR_true, BR_false, BR_not, fin1_BR, finS_BR, RX_nil, RX_guard, RX_move, RX_assign, RX_pick, RX_bin, RX_un, RX_conv, RX_extract, RX_field, RX_indexAddr, RX_fieldAddr, RX_index, RX_build, RX_buildSlice, RX_slice, RX_makeFunc, RX_load, RX_store, RX_alloc, RX_box, RX_append, RX_len, RX_call, RX_callV, wantD_some, wantV_bool, wantV_undef, DX_zero, DX_succ, asB_bool, nth, put, putT, getT, opv_tmp, opv_const, opv_func, cst_int, cst_bool, cst_string, cst_nil, cst_ptr, pickA_true, pickA_false, pickA_bool, extA_tup, fldV_agg, bldA_some, litA_some, callV_fn, aBin_int, aBin_str, aBin_bool, binInt, binStr, binBool, aUn, outA, resA, mapO, resA1, oneOf, fin1_some, finS_some, w1, w2, w3, bots, lenV_str, lenV_frz, lenV_sref, List.map_cons, List.map_nil, List.cons_append, List.nil_append, List.length_cons, List.length_nil, List.toList_toArray, Option.map_some, Option.map_none, Option.bind_some, Option.bind_none, Option.isSome_some, beq_true, beq_false, Bool.true_and, Bool.false_and, Bool.and_true, Bool.and_false, Bool.true_or, Bool.or_true, Bool.false_or, Bool.or_false, Bool.not_true, Bool.not_false, cond_true, cond_false, if_true, if_false, ite_true, ite_false, reduceIte, reduceCtorEq, Bool.false_eq_true, true_implies, false_implies, implies_true, and_true, true_and, Nat.reduceAdd, Nat.reduceSub, AV.int, AV.bool, AV.str, Nat.zero_add, fin1_NX_not, fin1_NX_if, fin1_NS_not, fin1_NS_if, finS_NX_not, finS_NX_if, finS_NS_not, finS_NS_if, Option.some.injEq, AV.tup.injEq, AV.prim.injEq, AV.agg.injEq, AV.frz.injEq, Value.int.injEq, Value.bool.injEq, Value.string.injEq, List.cons.injEq, decide_true, decide_false, List.take_zero, List.take_nil, List.take_succ_cons, Nat.reduceBEq, Nat.reduceEqDiff, Nat.reduceMul, Nat.reduceLT, Nat.reduceLeDiff, Int.reduceNeg, BEq.rfl, beq_self_eq_true, tabl, cellsOf, fldA, ldA, stA, entAt, partA, takeN, over, leafOk, List.all_cons, List.all_nil, Value.oneCell', List.drop_zero, List.drop_succ_cons, List.drop_nil, List.length_map, idxA, intN_cast, intN_zero, aBin_agg, aggB_eql, aggB_neq, aBin_nil, nilB_eql, nilB_neq, nilA, cellsEq, cellEq_int, cellEq_str, cellEq_bool, apA_eq, apB_one, apB_all, entAt_mid, put_new, put_mid, take_two, fillA, elemsA, pure1, pure2, List.replicate_succ, List.replicate_zero, reps, aConv_int, convI_some, aConv_str, RX_makeSlice, RX_makeSlice0, RX_copy, RX_appendS, RX_nilCheck, RX_min, RX_max, cvA_int, cvA_str, minA_int, maxA_int, aBin_refNil, aBin_fptrNil, aBin_nilNil, ptrNil_eql, ptrNil_neq, fz3_tup, fz3_agg, fz3_prim, fz3_frz, fz3_ref, fz3_fn, fz3_sref, fz2_agg, fz2_prim, fz2_frz, fz2_ref, fz2_fn, fz2_sref, fz1_prim, fz1_frz, fz1_ref, fz1_fn, fz1_sref, fz1_old, fzB_some, chkA, finM_BR, ext_mv, apB1_frz, apM_false, apM_true, tys, Tryd.results63, KX_draw, KX_drawQ, callP_eq, callM_true, digA, e0, e1, e6, e7, e8, d2, hT, hT2, hfz]
  · have d2 : decide ((m : Int) - 1 ≥ 0) = true := by simp; omega
    have hi : (m : Int) - 1 = ((m - 1 : Nat) : Int) := by omega
    obtain ⟨x, hx⟩ := nth_some (show m - 1 < (dig A).length by omega)
    have hx' := nth_dig hx
    have hxk := of_okD (okD_dig A) hx
    obtain ⟨o, ho⟩ := nth_some (show m - 1 < out.length by omega)
    obtain ⟨hq, g1, g2, g3, g4⟩ := hp.step h0 hm hx
    have hr0 := hp.r0
    have hpw := top_idx (n := m - 1) (by omega)
    have hz' : ¬ ((B : Int) = 0) := by omega
    have hw1 : IntKind.i64.wrap (r * 10000) = r * 10000 := wrap_of (by unfold i64; omega)
    have hw2 : IntKind.i64.wrap (r * 10000 + x) = r * 10000 + x := wrap_of (by unfold i64; omega)
    have hw3 : IntKind.i64.wrap ((r * 10000 + x).tdiv B) = (r * 10000 + x).tdiv B := wrap_of (by unfold i64; omega)
    have hw4 : IntKind.i64.wrap ((r * 10000 + x).tmod B) = (r * 10000 + x).tmod B := wrap_of (by unfold i64; omega)
    have hov := over_num (v := (r * 10000 + x).tdiv B) ho
    have hin : m - 1 < (dig A).length := by omega
    rw [hi] at e8 d2
    simp (maxSteps := 1000000) +contextual (disch := first | with_reducible assumption | exact ⟨rfl⟩ | (refine _root_.id ?_; kernel_rfl) | omega) only [KX_seq, KX_skip, KX_exit, KX_ret, KX_if, KX_block, KX_region, CX_seq, CX_block, CX_loop, CX_exit_seq, CX_exit_block, CX_exit_loop, CX_ret, CX_ret_nil, CX_normal_nil, NX_some, NS_some, BR_true, BR_false, BR_not, fin1_BR, finS_BR, RX_nil, RX_guard, RX_move, RX_assign, RX_pick, RX_bin, RX_un, RX_conv, RX_extract, RX_field, RX_indexAddr, RX_fieldAddr, RX_index, RX_build, RX_buildSlice, RX_slice, RX_makeFunc, RX_load, RX_store, RX_alloc, RX_box, RX_append, RX_len, RX_call, RX_callV, wantD_some, wantV_bool, wantV_undef, DX_zero, DX_succ, asB_bool, nth, put, putT, getT, opv_tmp, opv_const, opv_func, cst_int, cst_bool, cst_string, cst_nil, cst_ptr, pickA_true, pickA_false, pickA_bool, extA_tup, fldV_agg, bldA_some, litA_some, callV_fn, aBin_int, aBin_str, aBin_bool, binInt, binStr, binBool, aUn, outA, resA, mapO, resA1, oneOf, fin1_some, finS_some, w1, w2, w3, bots, lenV_str, lenV_frz, lenV_sref, List.map_cons, List.map_nil, List.cons_append, List.nil_append, List.length_cons, List.length_nil, List.toList_toArray, Option.map_some, Option.map_none, Option.bind_some, Option.bind_none, Option.isSome_some, beq_true, beq_false, Bool.true_and, Bool.false_and, Bool.and_true, Bool.and_false, Bool.true_or, Bool.or_true, Bool.false_or, Bool.or_false, Bool.not_true, Bool.not_false, cond_true, cond_false, if_true, if_false, ite_true, ite_false, reduceIte, reduceCtorEq, Bool.false_eq_true, true_implies, false_implies, implies_true, and_true, true_and, Nat.reduceAdd, Nat.reduceSub, AV.int, AV.bool, AV.str, Nat.zero_add, fin1_NX_not, fin1_NX_if, fin1_NS_not, fin1_NS_if, finS_NX_not, finS_NX_if, finS_NS_not, finS_NS_if, Option.some.injEq, AV.tup.injEq, AV.prim.injEq, AV.agg.injEq, AV.frz.injEq, Value.int.injEq, Value.bool.injEq, Value.string.injEq, List.cons.injEq, decide_true, decide_false, List.take_zero, List.take_nil, List.take_succ_cons, Nat.reduceBEq, Nat.reduceEqDiff, Nat.reduceMul, Nat.reduceLT, Nat.reduceLeDiff, Int.reduceNeg, BEq.rfl, beq_self_eq_true, tabl, cellsOf, fldA, ldA, stA, entAt, partA, takeN, over, leafOk, List.all_cons, List.all_nil, Value.oneCell', List.drop_zero, List.drop_succ_cons, List.drop_nil, List.length_map, idxA, intN_cast, intN_zero, aBin_agg, aggB_eql, aggB_neq, aBin_nil, nilB_eql, nilB_neq, nilA, cellsEq, cellEq_int, cellEq_str, cellEq_bool, apA_eq, apB_one, apB_all, entAt_mid, put_new, put_mid, take_two, fillA, elemsA, pure1, pure2, List.replicate_succ, List.replicate_zero, reps, aConv_int, convI_some, aConv_str, RX_makeSlice, RX_makeSlice0, RX_copy, RX_appendS, RX_nilCheck, RX_min, RX_max, cvA_int, cvA_str, minA_int, maxA_int, aBin_refNil, aBin_fptrNil, aBin_nilNil, ptrNil_eql, ptrNil_neq, fz3_tup, fz3_agg, fz3_prim, fz3_frz, fz3_ref, fz3_fn, fz3_sref, fz2_agg, fz2_prim, fz2_frz, fz2_ref, fz2_fn, fz2_sref, fz1_prim, fz1_frz, fz1_ref, fz1_fn, fz1_sref, fz1_old, fzB_some, chkA, finM_BR, ext_mv, apB1_frz, apM_false, apM_true, tys, Tryd.results63, KX_draw, KX_drawQ, callP_eq, callM_true, digA, e0, e1, e6, e7, e8, d2, hx', hpw, hz', hw1, hw2, hw3, hw4, hov, hin, Nat.mul_one]
    exact IH (m - 1, (r * 10000 + x).tmod B, out.set (m - 1) ((r * 10000 + x).tdiv B)) _ (by first | omega | (simp only; omega)) ⟨rfl, by first | omega | (dsimp only; omega), hq, (by first | rfl | simp only [getT, List.map_append, List.map_cons, List.map_nil, digC, digA]), (by first | rfl | simp only [getT, List.map_append, List.map_cons, List.map_nil, digC, digA]), (by first | rfl | simp only [getT, List.map_append, List.map_cons, List.map_nil, digC, digA]), (by first | rfl | simp only [getT, List.map_append, List.map_cons, List.map_nil, digC, digA]), (by first | rfl | simp only [getT, List.map_append, List.map_cons, List.map_nil, digC, digA]), (by first | rfl | simp only [getT, List.map_append, List.map_cons, List.map_nil, digC, digA])⟩
end
end Go.Proofs.YtokncdoejnchfaaDoor
