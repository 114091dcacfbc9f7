/-
  The law LinearSolutions, walked.
-/
import Derived.Test.YtkghgdkkholieaaE7
import Derived.Test.YtkghgdkkholieaaE4
namespace Go.Proofs.Ytkghgdkkholieaa
open Go

theorem eqL_refl : ∀ l : List (ByteArray × Int), eqL l l = true
  | [] => rfl
  | c :: r => by simp [eqL, eqC, sEq, eqL_refl r]
theorem sameF_refl (l : List (ByteArray × Int)) (n : Int) : sameF l n l n = true := by simp [sameF, eqL_refl]
/-- what is left of the walk -/
theorem sol_fin (v u : Int) (eq : Bool) (te : Bool → Bool) (hti : (u ≤ 0 ∧ (te eq = false ∨ u = 0)) ↔ (v ≤ 0 ∧ (eq = false ∨ v = 0))) : (decide (v ≤ 0) = true →
      (eq = true →
          (decide (u ≤ 0) = true →
              (te true = true → ((v == 0) == (u == 0)) = false → False) ∧
                (te true = false → (v == 0) = false → False)) ∧
            (decide (u ≤ 0) = false → (v == 0) = true → False)) ∧
        (eq = false →
          (decide (u ≤ 0) = true → te false = true → (true == (u == 0)) = false → False) ∧
            (decide (u ≤ 0) = false → False))) ∧
    (decide (v ≤ 0) = false →
      decide (u ≤ 0) = true →
        (te eq = true → (false == (u == 0)) = false → False) ∧
          (te eq = false → False)) := by
  have e1 : (v == 0) = decide (v = 0) := rfl
  have e2 : (u == 0) = decide (u = 0) := rfl
  rw [e1, e2]
  cases eq
  · generalize te true = a
    generalize te false = b at *
    rcases Int.lt_trichotomy v 0 with hv | hv | hv <;> rcases Int.lt_trichotomy u 0 with hu | hu | hu <;> cases b <;> simp at hti ⊢ <;> omega
  · generalize te false = a
    generalize te true = b at *
    rcases Int.lt_trichotomy v 0 with hv | hv | hv <;> rcases Int.lt_trichotomy u 0 with hu | hu | hu <;> cases b <;> simp at hti ⊢ <;> omega
def ptXY (x y : Int) : List (ByteArray × Int) := [(⟨#[120]⟩, x), (⟨#[121]⟩, y)]
theorem ptXY_bound {x y : Int} (hx : -128 ≤ x ∧ x ≤ 127) (hy : -128 ≤ y ∧ y ≤ 127) (s : ByteArray) : -128 ≤ findS s (ptXY x y) ∧ findS s (ptXY x y) ≤ 128 := by
  simp only [ptXY, findS]
  split
  · omega
  · split
    · omega
    · omega

theorem near_cf : ∀ {cs : List (ByteArray × Int)}, nearF cs = true → ∀ c ∈ cs, -1000 ≤ c.2 ∧ c.2 ≤ 1000
  | [], _, c, hc => by simp at hc
  | d :: r, h, c, hc => by
    simp only [nearF, decide_eq_true_eq] at h
    split at h
    · simp at h
    · split at h
      · simp at h
      · rcases List.mem_cons.1 hc with rfl | hc
        · omega
        · exact near_cf h c hc
section
variable (S : List Ent) (tk : List Nat) (k : Nat)
set_option maxRecDepth 100000 in
set_option maxHeartbeats 4000000 in
theorem L11_LinearSolutions (cs : List (ByteArray × Int)) (n : Int) (eq : Bool) (x y : Int) (hx : -128 ≤ x ∧ x ≤ 127) (hy : -128 ≤ y ∧ y ≤ 127) : cL Try.prog 5 [rowA cs n eq, .prim (.int .i8 x), .prim (.int .i8 y)] S tk k = some (.bool true, S, tk, k) := by
  have hS := fun S tk k => L11_small S tk k cs n
  simp only [linA, coefsA] at hS
  refine call_pure Try.func5 rfl (by decide +kernel) (by decide +kernel) Try.ntmps5 rfl rfl _ _ _ rfl ?_; rw [RK_KX]
  by_cases hsm : smallFrom 0 cs = true
  · have hlen : cs.length ≤ 1048576 := by
      rcases small_len hsm with h | h
      · omega
      · subst h; simp
    have hN := fun S tk k => L11_near S tk k cs n hlen
    simp only [linA, coefsA] at hN
    cases hne : (nearF cs && (checkF cs n == 0) && decide (n ≥ -1000) && decide (n ≤ 1000)) with
    | false =>
      rw [hne] at hN
      simp (maxSteps := 1000000) +contextual (disch := first | with_reducible assumption | (refine _root_.id ?_; kernel_rfl) | omega) only [KX_seq, KX_skip, KX_exit, KX_ret, KX_if, KX_block, KX_region, CX_seq, CX_block, CX_loop, CX_exit_seq, CX_exit_block, CX_exit_loop, CX_ret, CX_ret_nil, CX_normal_nil, NX_some, NS_some, BR_true, BR_false, BR_not, fin1_BR, finS_BR, RX_nil, RX_guard, RX_move, RX_assign, RX_pick, RX_bin, RX_un, RX_conv, RX_extract, RX_field, RX_indexAddr, RX_fieldAddr, RX_index, RX_build, RX_buildSlice, RX_slice, RX_makeFunc, RX_load, RX_store, RX_alloc, RX_box, RX_append, RX_len, RX_call, RX_callV, wantD_some, wantV_bool, wantV_undef, DX_zero, DX_succ, asB_bool, nth, put, putT, getT, opv_tmp, opv_const, opv_func, cst_int, cst_bool, cst_string, cst_nil, cst_ptr, pickA_true, pickA_false, pickA_bool, extA_tup, fldV_agg, bldA_some, litA_some, callV_fn, aBin_int, aBin_str, aBin_bool, binInt, binStr, binBool, aUn, outA, resA, mapO, resA1, oneOf, fin1_some, finS_some, w1, w2, w3, bots, lenV_str, lenV_frz, lenV_sref, List.map_cons, List.map_nil, List.cons_append, List.nil_append, List.length_cons, List.length_nil, List.toList_toArray, Option.map_some, Option.map_none, Option.bind_some, Option.bind_none, Option.isSome_some, beq_true, beq_false, Bool.true_and, Bool.false_and, Bool.and_true, Bool.and_false, Bool.true_or, Bool.or_true, Bool.false_or, Bool.or_false, Bool.not_true, Bool.not_false, cond_true, cond_false, if_true, if_false, ite_true, ite_false, reduceIte, reduceCtorEq, Bool.false_eq_true, true_implies, false_implies, implies_true, and_true, true_and, Nat.reduceAdd, Nat.reduceSub, AV.int, AV.bool, AV.str, Nat.zero_add, fin1_NX_not, fin1_NX_if, fin1_NS_not, fin1_NS_if, finS_NX_not, finS_NX_if, finS_NS_not, finS_NS_if, Option.some.injEq, AV.tup.injEq, AV.prim.injEq, AV.agg.injEq, AV.frz.injEq, Value.int.injEq, Value.bool.injEq, Value.string.injEq, List.cons.injEq, decide_true, decide_false, List.take_zero, List.take_nil, List.take_succ_cons, Nat.reduceBEq, Nat.reduceEqDiff, Nat.reduceMul, Nat.reduceLT, Nat.reduceLeDiff, Int.reduceNeg, BEq.rfl, beq_self_eq_true, tabl, cellsOf, fldA, ldA, stA, entAt, partA, takeN, over, leafOk, List.all_cons, List.all_nil, Value.oneCell', List.drop_zero, List.drop_succ_cons, List.drop_nil, List.length_map, idxA, intN_cast, intN_zero, aBin_agg, aggB_eql, aggB_neq, aBin_nil, nilB_eql, nilB_neq, nilA, cellsEq, cellEq_int, cellEq_str, cellEq_bool, apA_eq, apB_one, apB_all, entAt_mid, put_new, put_mid, take_two, fillA, elemsA, pure1, pure2, List.replicate_succ, List.replicate_zero, reps, aConv_int, convI_some, aConv_str, tys, Try.results5, KX_draw, callP_eq, rowA, coefsA, hS, hsm, hN, L11_awake]
    | true =>
      rw [hne] at hN
      have hnr : Near cs n := by
        simp only [Bool.and_eq_true, beq_iff_eq, decide_eq_true_eq] at hne
        refine ⟨hne.1.1.2, near_cf hne.1.1.1, hne.1.2, hne.2⟩
      have hpt := ptXY_bound hx hy
      have hwx : IntKind.i64.wrap x = x := wrap_of (by unfold i64; omega)
      have hwy : IntKind.i64.wrap y = y := wrap_of (by unfold i64; omega)
      obtain ⟨hT, hti⟩ := tight_near (pt := ptXY x y) hnr eq
      obtain ⟨hF, hs, hf1, hf2, hff⟩ := form_near (pt := ptXY x y) hnr
      have val : ∀ {ds m}, Near ds m → ∀ S tk k, cL Try.prog 16 [linA ds m, .frz [[.prim (.string ⟨#[120]⟩), .prim (.int .i64 x)], [.prim (.string ⟨#[121]⟩), .prim (.int .i64 y)]] .tight] S tk k = some (.tup [.int (m + lv (ptXY x y) ds), .bool true], S, tk, k) := by
        intro ds m h S tk k
        have hl := (check_ok h.ok).2.2
        refine (cL_w2 (args := [linA ds m, .frz [[.prim (.string ⟨#[120]⟩), .prim (.int .i64 x)], [.prim (.string ⟨#[121]⟩), .prim (.int .i64 y)]] .tight]) (args' := [linA ds m, coefsA (ptXY x y)]) rfl rfl).trans ?_
        rw [linear_Value S tk k ds m (ptXY x y) (by omega) (by simp [ptXY]), h.value hpt]
      have hV1 := val hnr
      have hV2 := val hT
      have hV3 := val hF
      have hTi := fun S tk k => linear_Tight S tk k cs n eq hlen
      have hFo := fun S tk k => linear_Form S tk k cs n hlen
      have hl2 : (formF cs n).1.1.length ≤ 1048576 := by have := (check_ok hF.ok).2.2; omega
      have hFo2 := fun S tk k => linear_Form S tk k (formF cs n).1.1 (formF cs n).1.2 hl2
      rw [hff] at hFo2
      have hSa := fun S tk k => R11_Same S tk k (formF cs n).1.1 (formF cs n).1.1 (formF cs n).1.2 (formF cs n).1.2 hl2
      rw [sameF_refl] at hSa
      have hmb : IntKind.i64.wrap (((formF cs n).1.2 + lv (ptXY x y) (formF cs n).1.1) * (formF cs n).2) = ((formF cs n).1.2 + lv (ptXY x y) (formF cs n).1.1) * (formF cs n).2 := by
        have h1 := lv_bound hpt (formF cs n).1.1 hF.cf
        have h2 := hF.kn
        have h3 := (check_ok hF.ok).2.2
        rw [wrap_of]
        rcases hs with h | h <;> rw [h] <;> unfold i64 <;> omega
      simp only [rowA, linA, coefsA] at hV1 hV2 hV3 hTi hFo hFo2 hSa
      generalize n + lv (ptXY x y) cs = v at *
      generalize (tightF cs n eq).2.1 + lv (ptXY x y) (tightF cs n eq).1 = u at *
      generalize (formF cs n).1.2 + lv (ptXY x y) (formF cs n).1.1 = m at *
      have hd1 : decide (v > 0) = decide (m * (formF cs n).2 > 0) := by simp only [hf1]
      have hd2 : decide (v < 0) = decide (m * (formF cs n).2 < 0) := by simp only [hf2]
      simp (maxSteps := 1000000) +contextual (disch := first | with_reducible assumption | (refine _root_.id ?_; kernel_rfl) | omega) only [KX_seq, KX_skip, KX_exit, KX_ret, KX_if, KX_block, KX_region, CX_seq, CX_block, CX_loop, CX_exit_seq, CX_exit_block, CX_exit_loop, CX_ret, CX_ret_nil, CX_normal_nil, NX_some, NS_some, BR_true, BR_false, BR_not, fin1_BR, finS_BR, RX_nil, RX_guard, RX_move, RX_assign, RX_pick, RX_bin, RX_un, RX_conv, RX_extract, RX_field, RX_indexAddr, RX_fieldAddr, RX_index, RX_build, RX_buildSlice, RX_slice, RX_makeFunc, RX_load, RX_store, RX_alloc, RX_box, RX_append, RX_len, RX_call, RX_callV, wantD_some, wantV_bool, wantV_undef, DX_zero, DX_succ, asB_bool, nth, put, putT, getT, opv_tmp, opv_const, opv_func, cst_int, cst_bool, cst_string, cst_nil, cst_ptr, pickA_true, pickA_false, pickA_bool, extA_tup, fldV_agg, bldA_some, litA_some, callV_fn, aBin_int, aBin_str, aBin_bool, binInt, binStr, binBool, aUn, outA, resA, mapO, resA1, oneOf, fin1_some, finS_some, w1, w2, w3, bots, lenV_str, lenV_frz, lenV_sref, List.map_cons, List.map_nil, List.cons_append, List.nil_append, List.length_cons, List.length_nil, List.toList_toArray, Option.map_some, Option.map_none, Option.bind_some, Option.bind_none, Option.isSome_some, beq_true, beq_false, Bool.true_and, Bool.false_and, Bool.and_true, Bool.and_false, Bool.true_or, Bool.or_true, Bool.false_or, Bool.or_false, Bool.not_true, Bool.not_false, cond_true, cond_false, if_true, if_false, ite_true, ite_false, reduceIte, reduceCtorEq, Bool.false_eq_true, true_implies, false_implies, implies_true, and_true, true_and, Nat.reduceAdd, Nat.reduceSub, AV.int, AV.bool, AV.str, Nat.zero_add, fin1_NX_not, fin1_NX_if, fin1_NS_not, fin1_NS_if, finS_NX_not, finS_NX_if, finS_NS_not, finS_NS_if, Option.some.injEq, AV.tup.injEq, AV.prim.injEq, AV.agg.injEq, AV.frz.injEq, Value.int.injEq, Value.bool.injEq, Value.string.injEq, List.cons.injEq, decide_true, decide_false, List.take_zero, List.take_nil, List.take_succ_cons, Nat.reduceBEq, Nat.reduceEqDiff, Nat.reduceMul, Nat.reduceLT, Nat.reduceLeDiff, Int.reduceNeg, BEq.rfl, beq_self_eq_true, tabl, cellsOf, fldA, ldA, stA, entAt, partA, takeN, over, leafOk, List.all_cons, List.all_nil, Value.oneCell', List.drop_zero, List.drop_succ_cons, List.drop_nil, List.length_map, idxA, intN_cast, intN_zero, aBin_agg, aggB_eql, aggB_neq, aBin_nil, nilB_eql, nilB_neq, nilA, cellsEq, cellEq_int, cellEq_str, cellEq_bool, apA_eq, apB_one, apB_all, entAt_mid, put_new, put_mid, take_two, fillA, elemsA, pure1, pure2, List.replicate_succ, List.replicate_zero, reps, aConv_int, convI_some, aConv_str, tys, Try.results5, KX_draw, callP_eq, rowA, coefsA, hS, hsm, hN, L11_awake, hwx, hwy, hd1, hd2, hV1, hV2, hV3, hTi, hFo, hFo2, hSa, hmb]
      exact sol_fin v u eq (fun e => (tightF cs n e).2.2) hti
  · have hsm' : smallFrom 0 cs = false := by simpa using hsm
    simp (maxSteps := 1000000) +contextual (disch := first | with_reducible assumption | (refine _root_.id ?_; kernel_rfl) | omega) only [KX_seq, KX_skip, KX_exit, KX_ret, KX_if, KX_block, KX_region, CX_seq, CX_block, CX_loop, CX_exit_seq, CX_exit_block, CX_exit_loop, CX_ret, CX_ret_nil, CX_normal_nil, NX_some, NS_some, BR_true, BR_false, BR_not, fin1_BR, finS_BR, RX_nil, RX_guard, RX_move, RX_assign, RX_pick, RX_bin, RX_un, RX_conv, RX_extract, RX_field, RX_indexAddr, RX_fieldAddr, RX_index, RX_build, RX_buildSlice, RX_slice, RX_makeFunc, RX_load, RX_store, RX_alloc, RX_box, RX_append, RX_len, RX_call, RX_callV, wantD_some, wantV_bool, wantV_undef, DX_zero, DX_succ, asB_bool, nth, put, putT, getT, opv_tmp, opv_const, opv_func, cst_int, cst_bool, cst_string, cst_nil, cst_ptr, pickA_true, pickA_false, pickA_bool, extA_tup, fldV_agg, bldA_some, litA_some, callV_fn, aBin_int, aBin_str, aBin_bool, binInt, binStr, binBool, aUn, outA, resA, mapO, resA1, oneOf, fin1_some, finS_some, w1, w2, w3, bots, lenV_str, lenV_frz, lenV_sref, List.map_cons, List.map_nil, List.cons_append, List.nil_append, List.length_cons, List.length_nil, List.toList_toArray, Option.map_some, Option.map_none, Option.bind_some, Option.bind_none, Option.isSome_some, beq_true, beq_false, Bool.true_and, Bool.false_and, Bool.and_true, Bool.and_false, Bool.true_or, Bool.or_true, Bool.false_or, Bool.or_false, Bool.not_true, Bool.not_false, cond_true, cond_false, if_true, if_false, ite_true, ite_false, reduceIte, reduceCtorEq, Bool.false_eq_true, true_implies, false_implies, implies_true, and_true, true_and, Nat.reduceAdd, Nat.reduceSub, AV.int, AV.bool, AV.str, Nat.zero_add, fin1_NX_not, fin1_NX_if, fin1_NS_not, fin1_NS_if, finS_NX_not, finS_NX_if, finS_NS_not, finS_NS_if, Option.some.injEq, AV.tup.injEq, AV.prim.injEq, AV.agg.injEq, AV.frz.injEq, Value.int.injEq, Value.bool.injEq, Value.string.injEq, List.cons.injEq, decide_true, decide_false, List.take_zero, List.take_nil, List.take_succ_cons, Nat.reduceBEq, Nat.reduceEqDiff, Nat.reduceMul, Nat.reduceLT, Nat.reduceLeDiff, Int.reduceNeg, BEq.rfl, beq_self_eq_true, tabl, cellsOf, fldA, ldA, stA, entAt, partA, takeN, over, leafOk, List.all_cons, List.all_nil, Value.oneCell', List.drop_zero, List.drop_succ_cons, List.drop_nil, List.length_map, idxA, intN_cast, intN_zero, aBin_agg, aggB_eql, aggB_neq, aBin_nil, nilB_eql, nilB_neq, nilA, cellsEq, cellEq_int, cellEq_str, cellEq_bool, apA_eq, apB_one, apB_all, entAt_mid, put_new, put_mid, take_two, fillA, elemsA, pure1, pure2, List.replicate_succ, List.replicate_zero, reps, aConv_int, convI_some, aConv_str, tys, Try.results5, KX_draw, callP_eq, rowA, coefsA, hS, hsm', L11_awake]
end
end Go.Proofs.Ytkghgdkkholieaa
