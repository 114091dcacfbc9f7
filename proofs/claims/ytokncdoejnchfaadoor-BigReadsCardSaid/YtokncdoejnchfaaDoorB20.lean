/-
  Texts of numbers, walked.
-/
import Derived.Test.YtokncdoejnchfaaDoorBTxt
namespace Go.Proofs.YtokncdoejnchfaaDoor
open Go

abbrev AV.B (l : List UInt8) : AV := .prim (.string (Go.Proofs.YtokncdoejnchfaaDoor.B l))
theorem c_nil : (⟨#[]⟩ : ByteArray) = B [] := rfl
theorem c_45 : (⟨#[45]⟩ : ByteArray) = B [45] := rfl
theorem c_48 : (⟨#[48]⟩ : ByteArray) = B [48] := rfl
theorem dig_slice {P : Program} {t : TypeId} (ht : isStr P t = true) {a : Nat} (h : a < 10) : sliceA P t (.prim (.string ⟨#[48, 49, 50, 51, 52, 53, 54, 55, 56, 57]⟩)) (some (.prim (.int .i64 (a : Nat)))) (some (.prim (.int .i64 ((a + 1 : Nat) : Int)))) none = some (.str (B [UInt8.ofNat (48 + a)])) := by
  unfold sliceA
  simp only [ht, if_true]
  match a, h with
  | 0, _ => rfl
  | 1, _ => rfl
  | 2, _ => rfl
  | 3, _ => rfl
  | 4, _ => rfl
  | 5, _ => rfl
  | 6, _ => rfl
  | 7, _ => rfl
  | 8, _ => rfl
  | 9, _ => rfl
theorem bound_at {len k d : Nat} (h : k ≤ len) : bound len (some (.prim (.int .i64 (k : Nat)))) d = some k := by
  unfold bound; simp only [intN_cast]; rw [if_pos h]
theorem sl_from {P : Program} {t : TypeId} (ht : isStr P t = true) {s : List UInt8} {k : Nat} (h : k ≤ s.length) : sliceA P t (.prim (.string (B s))) (some (.prim (.int .i64 (k : Nat)))) none none = some (.str (B (s.drop k))) := by
  have e : (B s).extract k (B s).size = B (s.drop k) := by rw [B_extract, B_size, List.take_of_length_le (Nat.le_refl _)]
  have h' : k ≤ (B s).size := h
  have e1 : bound (B s).size none (B s).size = some (B s).size := rfl
  simp only [sliceA, ht, if_true, e1, bound_at h', e]
theorem sl_one {P : Program} {t : TypeId} (ht : isStr P t = true) {b : UInt8} {s : List UInt8} : sliceA P t (.prim (.string (B (b :: s)))) (some (.prim (.int .i64 1))) none none = some (.str (B s)) := sl_from ht (s := b :: s) (k := 1) (by simp)
theorem sl_to {P : Program} {t : TypeId} (ht : isStr P t = true) {s : List UInt8} {k : Nat} (h : k ≤ s.length) : sliceA P t (.prim (.string (B s))) none (some (.prim (.int .i64 (k : Nat)))) none = some (.str (B (s.take k))) := by
  have h' : k ≤ (B s).size := h
  have e1 : bound k none 0 = some 0 := rfl
  simp only [sliceA, ht, if_true, bound_at h', e1, B_extract, List.drop_zero]
theorem sl_both {P : Program} {t : TypeId} (ht : isStr P t = true) {s : List UInt8} {k e : Nat} (h : k ≤ e) (he : e ≤ s.length) : sliceA P t (.prim (.string (B s))) (some (.prim (.int .i64 (k : Nat)))) (some (.prim (.int .i64 (e : Nat)))) none = some (.str (B ((s.take e).drop k))) := by
  have h' : e ≤ (B s).size := he
  simp only [sliceA, ht, if_true, bound_at h', bound_at h, B_extract]
theorem strIdx_B (s : List UInt8) (k : Nat) : strIdx true (.prim (.string (B s))) (some k) = (nth s k).map fun b => .prim (.int .u8 b.toNat) := by
  unfold strIdx; simp only [if_true]; rw [B_get]
theorem u8_add {n : Nat} {i : Int} (h0 : 0 ≤ i) (h1 : i < 10) : IntKind.i64.wrap (i + 1) = ((i.toNat + 1 : Nat) : Int) := by rw [wrap_of (by unfold i64; omega)]; omega
section
variable (S : List Ent) (tk : List Nat) (k : Nat)
theorem isStr9 : isStr Tryd.prog 9 = true := by kernel_rfl
set_option maxRecDepth 100000 in
theorem R02_four (n : Nat) (hn : n < 10000) : cL Tryd.prog 56 [.int (n : Nat)] S tk k = some (.B (fourF n), S, tk, k) := by
  have q1 : IntKind.i64.wrap ((n : Int).tdiv 1000) = ((n / 1000 % 10 : Nat) : Int) := by
    rw [Int.tdiv_eq_ediv_of_nonneg (by omega), wrap_of (by unfold i64; omega)]; omega
  have q2 : IntKind.i64.wrap ((n : Int).tdiv 100) = ((n / 100 : Nat) : Int) := by
    rw [Int.tdiv_eq_ediv_of_nonneg (by omega), wrap_of (by unfold i64; omega)]; omega
  have q3 : IntKind.i64.wrap ((n : Int).tdiv 10) = ((n / 10 : Nat) : Int) := by
    rw [Int.tdiv_eq_ediv_of_nonneg (by omega), wrap_of (by unfold i64; omega)]; omega
  have m2 : ((n / 100 : Nat) : Int).tmod 10 = ((n / 100 % 10 : Nat) : Int) := by rw [Int.tmod_eq_emod_of_nonneg (by omega)]; omega
  have m3 : ((n / 10 : Nat) : Int).tmod 10 = ((n / 10 % 10 : Nat) : Int) := by rw [Int.tmod_eq_emod_of_nonneg (by omega)]; omega
  have m4 : ((n : Nat) : Int).tmod 10 = ((n % 10 : Nat) : Int) := by rw [Int.tmod_eq_emod_of_nonneg (by omega)]; omega
  have k1 : n / 1000 % 10 < 10 := Nat.mod_lt _ (by decide)
  have k2 : n / 100 % 10 < 10 := Nat.mod_lt _ (by decide)
  have k3 : n / 10 % 10 < 10 := Nat.mod_lt _ (by decide)
  have k4 : n % 10 < 10 := Nat.mod_lt _ (by decide)
  have hF : fourF n = [UInt8.ofNat (48 + n / 1000 % 10), UInt8.ofNat (48 + n / 100 % 10), UInt8.ofNat (48 + n / 10 % 10), UInt8.ofNat (48 + n % 10)] := rfl
  rw [hF]
  generalize n / 1000 % 10 = a1 at *
  generalize n / 100 % 10 = a2 at *
  generalize n / 10 % 10 = a3 at *
  generalize n % 10 = a4 at *
  have p1 := wrap_add (i := a1) (by omega)
  have p2 := wrap_add (i := a2) (by omega)
  have p3 := wrap_add (i := a3) (by omega)
  have p4 := wrap_add (i := a4) (by omega)
  have s1 := dig_slice isStr9 k1
  have s2 := dig_slice isStr9 k2
  have s3 := dig_slice isStr9 k3
  have s4 := dig_slice isStr9 k4
  generalize UInt8.ofNat (48 + a1) = b1 at *
  generalize UInt8.ofNat (48 + a2) = b2 at *
  generalize UInt8.ofNat (48 + a3) = b3 at *
  generalize UInt8.ofNat (48 + a4) = b4 at *
  have z1 : (B [b1]).size + (B [b2]).size ≤ 2 ^ 62 := by show 1 + 1 ≤ 2 ^ 62; decide
  have z2 : (B [b1, b2]).size + (B [b3]).size ≤ 2 ^ 62 := by show 2 + 1 ≤ 2 ^ 62; decide
  have z3 : (B [b1, b2, b3]).size + (B [b4]).size ≤ 2 ^ 62 := by show 3 + 1 ≤ 2 ^ 62; decide
  have h1 : ¬ ((1000 : Int) = 0) := by decide
  have h2 : ¬ ((100 : Int) = 0) := by decide
  have h3 : ¬ ((10 : Int) = 0) := by decide
  refine call_pure Tryd.func56 rfl rfl (by decide +kernel) (by decide +kernel) Tryd.ntmps56 rfl rfl _ _ _ rfl ?_; rw [RK_KX]
  simp (maxSteps := 1000000) +contextual (disch := first | with_reducible assumption | exact ⟨rfl⟩ | (refine _root_.id ?_; kernel_rfl) | omega) only [KX_seq, KX_skip, KX_exit, KX_ret, KX_if, KX_block, KX_region, CX_seq, CX_block, CX_loop, CX_exit_seq, CX_exit_block, CX_exit_loop, CX_ret, CX_ret_nil, CX_normal_nil, NX_some, NS_some, BR_true, BR_false, BR_not, fin1_BR, finS_BR, RX_nil, RX_guard, RX_move, RX_assign, RX_pick, RX_bin, RX_un, RX_conv, RX_extract, RX_field, RX_indexAddr, RX_fieldAddr, RX_index, RX_build, RX_buildSlice, RX_slice, RX_makeFunc, RX_load, RX_store, RX_alloc, RX_box, RX_append, RX_len, RX_call, RX_callV, wantD_some, wantV_bool, wantV_undef, DX_zero, DX_succ, asB_bool, nth, put, putT, getT, opv_tmp, opv_const, opv_func, cst_int, cst_bool, cst_string, cst_nil, cst_ptr, pickA_true, pickA_false, pickA_bool, extA_tup, fldV_agg, bldA_some, litA_some, callV_fn, aBin_int, aBin_str, aBin_bool, binInt, binStr, binBool, aUn, outA, resA, mapO, resA1, oneOf, fin1_some, finS_some, w1, w2, w3, bots, lenV_str, lenV_frz, lenV_sref, List.map_cons, List.map_nil, List.cons_append, List.nil_append, List.length_cons, List.length_nil, List.toList_toArray, Option.map_some, Option.map_none, Option.bind_some, Option.bind_none, Option.isSome_some, beq_true, beq_false, Bool.true_and, Bool.false_and, Bool.and_true, Bool.and_false, Bool.true_or, Bool.or_true, Bool.false_or, Bool.or_false, Bool.not_true, Bool.not_false, cond_true, cond_false, if_true, if_false, ite_true, ite_false, reduceIte, reduceCtorEq, Bool.false_eq_true, true_implies, false_implies, implies_true, and_true, true_and, Nat.reduceAdd, Nat.reduceSub, AV.int, AV.bool, AV.str, Nat.zero_add, fin1_NX_not, fin1_NX_if, fin1_NS_not, fin1_NS_if, finS_NX_not, finS_NX_if, finS_NS_not, finS_NS_if, Option.some.injEq, AV.tup.injEq, AV.prim.injEq, AV.agg.injEq, AV.frz.injEq, Value.int.injEq, Value.bool.injEq, Value.string.injEq, List.cons.injEq, decide_true, decide_false, List.take_zero, List.take_nil, List.take_succ_cons, Nat.reduceBEq, Nat.reduceEqDiff, Nat.reduceMul, Nat.reduceLT, Nat.reduceLeDiff, Int.reduceNeg, BEq.rfl, beq_self_eq_true, tabl, cellsOf, fldA, ldA, stA, entAt, partA, takeN, over, leafOk, List.all_cons, List.all_nil, Value.oneCell', List.drop_zero, List.drop_succ_cons, List.drop_nil, List.length_map, idxA, intN_cast, intN_zero, aBin_agg, aggB_eql, aggB_neq, aBin_nil, nilB_eql, nilB_neq, nilA, cellsEq, cellEq_int, cellEq_str, cellEq_bool, apA_eq, apB_one, apB_all, entAt_mid, put_new, put_mid, take_two, fillA, elemsA, pure1, pure2, List.replicate_succ, List.replicate_zero, reps, aConv_int, convI_some, aConv_str, RX_makeSlice, RX_makeSlice0, RX_copy, RX_appendS, RX_nilCheck, RX_min, RX_max, cvA_int, cvA_str, minA_int, maxA_int, aBin_refNil, aBin_fptrNil, aBin_nilNil, ptrNil_eql, ptrNil_neq, fz3_tup, fz3_agg, fz3_prim, fz3_frz, fz3_ref, fz3_fn, fz3_sref, fz2_agg, fz2_prim, fz2_frz, fz2_ref, fz2_fn, fz2_sref, fz1_prim, fz1_frz, fz1_ref, fz1_fn, fz1_sref, fz1_old, fzB_some, chkA, finM_BR, ext_mv, apB1_frz, apM_false, apM_true, tys, Tryd.results56, KX_draw, KX_drawQ, callP_eq, callM_true, q1, q2, q3, m2, m3, m4, p1, p2, p3, p4, s1, s2, s3, s4, z1, z2, z3, h1, h2, h3, B_app]
/-- what is left when zeros in front are cut off -/
theorem strip_done {s : List UInt8} {N : Nat} (ha : allT s) (hv : valT s = N) (hs : s ≠ []) (h : s.length ≤ 1 ∨ nth s 0 ≠ some 48) : s = dec N := by
  refine can_eq ⟨ha, hs, fun e => ?_⟩ (dec_facts N).1 (by rw [(dec_facts N).2, hv])
  rcases h with h | h
  · cases s with
    | nil => exact absurd rfl hs
    | cons b l =>
      have : l = [] := List.eq_nil_of_length_eq_zero (by simpa using h)
      subst this
      simp only [nth, Option.some.injEq] at e
      rw [e]
  · exact absurd e h
theorem u8_is {b : UInt8} {n : Nat} (hn : n < 256) : (((b.toNat : Nat) : Int) == ((n : Nat) : Int)) = decide (b = UInt8.ofNat n) := by
  have h : (UInt8.ofNat n).toNat = n := by rw [UInt8.toNat_ofNat']; omega
  by_cases e : b = UInt8.ofNat n
  · rw [e, h]; simp
  · have : b.toNat ≠ n := fun h' => e (UInt8.toNat_inj.1 (by rw [h, h']))
    simp [e, this]
    omega
set_option maxRecDepth 100000 in
theorem R02_Text (p : Bool) (l : List Int) (hl : l.length ≤ 1000000) : cL Tryd.prog 23 [bigA p l] S tk k = some (.B (txt (V p l)), S, tk, k) := by
  have hD := fun S tk k => R02_digits S tk k p l .unk hl
  have hN1 := fun S tk k => R02_negative S tk k p l .unk hl
  have ha := V_len p l
  have hng := V_neg p l
  generalize V p l = z at *
  generalize (validF p l && p) = neg at *
  obtain ⟨N, hN⟩ : ∃ N, N = z.natAbs := ⟨_, rfl⟩
  rw [← hN] at hD ha
  simp only [digA] at hD hN1
  have hz : txt z = if neg = true then 45 :: dec N else dec N := by
    unfold txt
    rw [← hN]
    cases neg with
    | true => simp only [if_true] at hng ⊢; rw [if_pos (by omega)]
    | false => simp only [Bool.false_eq_true, if_false] at hng ⊢; rw [if_neg (by omega)]
  rw [hz]
  have d3 := top_idx (n := (dig N).length) (by omega)
  refine call_pure Tryd.func23 rfl rfl (by decide +kernel) (by decide +kernel) Tryd.ntmps23 rfl rfl _ _ _ rfl ?_; rw [RK_KX]
  simp (maxSteps := 1000000) +contextual (disch := first | with_reducible assumption | exact ⟨rfl⟩ | (refine _root_.id ?_; kernel_rfl) | omega) only [KX_seq, KX_skip, KX_exit, KX_ret, KX_if, KX_block, KX_region, CX_seq, CX_block, CX_loop, CX_exit_seq, CX_exit_block, CX_exit_loop, CX_ret, CX_ret_nil, CX_normal_nil, NX_some, NS_some, BR_true, BR_false, BR_not, fin1_BR, finS_BR, RX_nil, RX_guard, RX_move, RX_assign, RX_pick, RX_bin, RX_un, RX_conv, RX_extract, RX_field, RX_indexAddr, RX_fieldAddr, RX_index, RX_build, RX_buildSlice, RX_slice, RX_makeFunc, RX_load, RX_store, RX_alloc, RX_box, RX_append, RX_len, RX_call, RX_callV, wantD_some, wantV_bool, wantV_undef, DX_zero, DX_succ, asB_bool, nth, put, putT, getT, opv_tmp, opv_const, opv_func, cst_int, cst_bool, cst_string, cst_nil, cst_ptr, pickA_true, pickA_false, pickA_bool, extA_tup, fldV_agg, bldA_some, litA_some, callV_fn, aBin_int, aBin_str, aBin_bool, binInt, binStr, binBool, aUn, outA, resA, mapO, resA1, oneOf, fin1_some, finS_some, w1, w2, w3, bots, lenV_str, lenV_frz, lenV_sref, List.map_cons, List.map_nil, List.cons_append, List.nil_append, List.length_cons, List.length_nil, List.toList_toArray, Option.map_some, Option.map_none, Option.bind_some, Option.bind_none, Option.isSome_some, beq_true, beq_false, Bool.true_and, Bool.false_and, Bool.and_true, Bool.and_false, Bool.true_or, Bool.or_true, Bool.false_or, Bool.or_false, Bool.not_true, Bool.not_false, cond_true, cond_false, if_true, if_false, ite_true, ite_false, reduceIte, reduceCtorEq, Bool.false_eq_true, true_implies, false_implies, implies_true, and_true, true_and, Nat.reduceAdd, Nat.reduceSub, AV.int, AV.bool, AV.str, Nat.zero_add, fin1_NX_not, fin1_NX_if, fin1_NS_not, fin1_NS_if, finS_NX_not, finS_NX_if, finS_NS_not, finS_NS_if, Option.some.injEq, AV.tup.injEq, AV.prim.injEq, AV.agg.injEq, AV.frz.injEq, Value.int.injEq, Value.bool.injEq, Value.string.injEq, List.cons.injEq, decide_true, decide_false, List.take_zero, List.take_nil, List.take_succ_cons, Nat.reduceBEq, Nat.reduceEqDiff, Nat.reduceMul, Nat.reduceLT, Nat.reduceLeDiff, Int.reduceNeg, BEq.rfl, beq_self_eq_true, tabl, cellsOf, fldA, ldA, stA, entAt, partA, takeN, over, leafOk, List.all_cons, List.all_nil, Value.oneCell', List.drop_zero, List.drop_succ_cons, List.drop_nil, List.length_map, idxA, intN_cast, intN_zero, aBin_agg, aggB_eql, aggB_neq, aBin_nil, nilB_eql, nilB_neq, nilA, cellsEq, cellEq_int, cellEq_str, cellEq_bool, apA_eq, apB_one, apB_all, entAt_mid, put_new, put_mid, take_two, fillA, elemsA, pure1, pure2, List.replicate_succ, List.replicate_zero, reps, aConv_int, convI_some, aConv_str, RX_makeSlice, RX_makeSlice0, RX_copy, RX_appendS, RX_nilCheck, RX_min, RX_max, cvA_int, cvA_str, minA_int, maxA_int, aBin_refNil, aBin_fptrNil, aBin_nilNil, ptrNil_eql, ptrNil_neq, fz3_tup, fz3_agg, fz3_prim, fz3_frz, fz3_ref, fz3_fn, fz3_sref, fz2_agg, fz2_prim, fz2_frz, fz2_ref, fz2_fn, fz2_sref, fz1_prim, fz1_frz, fz1_ref, fz1_fn, fz1_sref, fz1_old, fzB_some, chkA, finM_BR, ext_mv, apB1_frz, apM_false, apM_true, tys, Tryd.results23, KX_draw, KX_drawQ, callP_eq, callM_true, bigA, digA, hD, d3, c_nil]
  refine loop1 (fun x st => st.T.length = 39 ∧ (x.1 ≤ (dig N).length) ∧ (x.2 = foursT ((dig N).drop x.1)) ∧ getT st.T 1 = .ref 0 0 0 ∧ getT st.T 3 = digA (dig N) ∧ getT st.T 4 = .B x.2 ∧ getT st.T 5 = .int ((x.1 : Int) - 1) ∧ st.S = [⟨0, [.bool p, digA l]⟩]) (fun x => x.1) (fun x => .B (if neg = true then 45 :: dec N else dec N)) ((dig N).length, []) ?_ ?_
  case refine_2 => exact ⟨rfl, Nat.le_refl _, by rw [List.drop_length]; rfl, rfl, rfl, rfl, rfl, rfl⟩
  rintro ⟨m, s⟩ ⟨T, S', tk', n'⟩ ⟨hl, hm, hs, e1, e3, e4, e5, eS⟩ IH
  simp only at hm hs e1 e3 e4 e5 eS
  subst eS
  obtain ⟨g, hg, hT⟩ := tab_of hl
  rw [hg] at e1 e3 e4 e5
  subst hT
  clear hg hl
  by_cases h0 : m = 0
  · have d2 : decide ((m : Int) - 1 ≥ 0) = false := by simp; omega
    subst h0
    rw [List.drop_zero] at hs
    subst hs
    have hfl := fours_len (dig N)
    have hfa := fours_all (dig N)
    have hfv := fours_val (okD_dig N)
    rw [val_dig] at hfv
    have hfn : foursT (dig N) = [] → N = 0 := fun h => by
      rw [h] at hfl
      exact dig_nil.1 (List.length_eq_zero_iff.1 (by simp at hfl; omega))
    simp (maxSteps := 1000000) +contextual (disch := first | with_reducible assumption | exact ⟨rfl⟩ | (refine _root_.id ?_; kernel_rfl) | omega) only [KX_seq, KX_skip, KX_exit, KX_ret, KX_if, KX_block, KX_region, CX_seq, CX_block, CX_loop, CX_exit_seq, CX_exit_block, CX_exit_loop, CX_ret, CX_ret_nil, CX_normal_nil, NX_some, NS_some, BR_true, BR_false, BR_not, fin1_BR, finS_BR, RX_nil, RX_guard, RX_move, RX_assign, RX_pick, RX_bin, RX_un, RX_conv, RX_extract, RX_field, RX_indexAddr, RX_fieldAddr, RX_index, RX_build, RX_buildSlice, RX_slice, RX_makeFunc, RX_load, RX_store, RX_alloc, RX_box, RX_append, RX_len, RX_call, RX_callV, wantD_some, wantV_bool, wantV_undef, DX_zero, DX_succ, asB_bool, nth, put, putT, getT, opv_tmp, opv_const, opv_func, cst_int, cst_bool, cst_string, cst_nil, cst_ptr, pickA_true, pickA_false, pickA_bool, extA_tup, fldV_agg, bldA_some, litA_some, callV_fn, aBin_int, aBin_str, aBin_bool, binInt, binStr, binBool, aUn, outA, resA, mapO, resA1, oneOf, fin1_some, finS_some, w1, w2, w3, bots, lenV_str, lenV_frz, lenV_sref, List.map_cons, List.map_nil, List.cons_append, List.nil_append, List.length_cons, List.length_nil, List.toList_toArray, Option.map_some, Option.map_none, Option.bind_some, Option.bind_none, Option.isSome_some, beq_true, beq_false, Bool.true_and, Bool.false_and, Bool.and_true, Bool.and_false, Bool.true_or, Bool.or_true, Bool.false_or, Bool.or_false, Bool.not_true, Bool.not_false, cond_true, cond_false, if_true, if_false, ite_true, ite_false, reduceIte, reduceCtorEq, Bool.false_eq_true, true_implies, false_implies, implies_true, and_true, true_and, Nat.reduceAdd, Nat.reduceSub, AV.int, AV.bool, AV.str, Nat.zero_add, fin1_NX_not, fin1_NX_if, fin1_NS_not, fin1_NS_if, finS_NX_not, finS_NX_if, finS_NS_not, finS_NS_if, Option.some.injEq, AV.tup.injEq, AV.prim.injEq, AV.agg.injEq, AV.frz.injEq, Value.int.injEq, Value.bool.injEq, Value.string.injEq, List.cons.injEq, decide_true, decide_false, List.take_zero, List.take_nil, List.take_succ_cons, Nat.reduceBEq, Nat.reduceEqDiff, Nat.reduceMul, Nat.reduceLT, Nat.reduceLeDiff, Int.reduceNeg, BEq.rfl, beq_self_eq_true, tabl, cellsOf, fldA, ldA, stA, entAt, partA, takeN, over, leafOk, List.all_cons, List.all_nil, Value.oneCell', List.drop_zero, List.drop_succ_cons, List.drop_nil, List.length_map, idxA, intN_cast, intN_zero, aBin_agg, aggB_eql, aggB_neq, aBin_nil, nilB_eql, nilB_neq, nilA, cellsEq, cellEq_int, cellEq_str, cellEq_bool, apA_eq, apB_one, apB_all, entAt_mid, put_new, put_mid, take_two, fillA, elemsA, pure1, pure2, List.replicate_succ, List.replicate_zero, reps, aConv_int, convI_some, aConv_str, RX_makeSlice, RX_makeSlice0, RX_copy, RX_appendS, RX_nilCheck, RX_min, RX_max, cvA_int, cvA_str, minA_int, maxA_int, aBin_refNil, aBin_fptrNil, aBin_nilNil, ptrNil_eql, ptrNil_neq, fz3_tup, fz3_agg, fz3_prim, fz3_frz, fz3_ref, fz3_fn, fz3_sref, fz2_agg, fz2_prim, fz2_frz, fz2_ref, fz2_fn, fz2_sref, fz1_prim, fz1_frz, fz1_ref, fz1_fn, fz1_sref, fz1_old, fzB_some, chkA, finM_BR, ext_mv, apB1_frz, apM_false, apM_true, tys, Tryd.results23, KX_draw, KX_drawQ, callP_eq, callM_true, e1, e3, e4, e5, d2, digA]
    clear IH
    refine loop1 (fun x st => st.T.length = 39 ∧ (x.length ≤ 800) ∧ (allT x) ∧ (valT x = N) ∧ (x = [] → N = 0) ∧ getT st.T 1 = .ref 0 0 0 ∧ getT st.T 4 = .B x ∧ st.S = [⟨0, [.bool p, digA l]⟩]) (fun x => x.length) (fun x => .B (if neg = true then 45 :: dec N else dec N)) (foursT (dig N)) ?_ ?_
    case refine_2 => exact ⟨rfl, by omega, hfa, by exact Int.ofNat.inj hfv, hfn, rfl, rfl, rfl⟩
    rintro s ⟨T, S', tk', n'⟩ ⟨hl, h1, h2, h3, h4, e1, e4, eS⟩ IH
    subst eS
    obtain ⟨g, hg, hT⟩ := tab_of hl
    rw [hg] at e1 e4
    subst hT
    clear hg hl
    cases s with
    | nil =>
      have hN0 := h4 rfl
      have hneg : neg = false := by
        cases neg with
        | false => rfl
        | true => simp only [if_true] at hng; omega
      rw [hneg, hN0, dec_zero]
      have d5 : decide (((B []).size : Int) > 1) = false := rfl
      have d6 : sEq (B []) (B []) = true := by rw [B_eq]; rfl
      simp (maxSteps := 1000000) +contextual (disch := first | with_reducible assumption | exact ⟨rfl⟩ | (refine _root_.id ?_; kernel_rfl) | omega) only [KX_seq, KX_skip, KX_exit, KX_ret, KX_if, KX_block, KX_region, CX_seq, CX_block, CX_loop, CX_exit_seq, CX_exit_block, CX_exit_loop, CX_ret, CX_ret_nil, CX_normal_nil, NX_some, NS_some, BR_true, BR_false, BR_not, fin1_BR, finS_BR, RX_nil, RX_guard, RX_move, RX_assign, RX_pick, RX_bin, RX_un, RX_conv, RX_extract, RX_field, RX_indexAddr, RX_fieldAddr, RX_index, RX_build, RX_buildSlice, RX_slice, RX_makeFunc, RX_load, RX_store, RX_alloc, RX_box, RX_append, RX_len, RX_call, RX_callV, wantD_some, wantV_bool, wantV_undef, DX_zero, DX_succ, asB_bool, nth, put, putT, getT, opv_tmp, opv_const, opv_func, cst_int, cst_bool, cst_string, cst_nil, cst_ptr, pickA_true, pickA_false, pickA_bool, extA_tup, fldV_agg, bldA_some, litA_some, callV_fn, aBin_int, aBin_str, aBin_bool, binInt, binStr, binBool, aUn, outA, resA, mapO, resA1, oneOf, fin1_some, finS_some, w1, w2, w3, bots, lenV_str, lenV_frz, lenV_sref, List.map_cons, List.map_nil, List.cons_append, List.nil_append, List.length_cons, List.length_nil, List.toList_toArray, Option.map_some, Option.map_none, Option.bind_some, Option.bind_none, Option.isSome_some, beq_true, beq_false, Bool.true_and, Bool.false_and, Bool.and_true, Bool.and_false, Bool.true_or, Bool.or_true, Bool.false_or, Bool.or_false, Bool.not_true, Bool.not_false, cond_true, cond_false, if_true, if_false, ite_true, ite_false, reduceIte, reduceCtorEq, Bool.false_eq_true, true_implies, false_implies, implies_true, and_true, true_and, Nat.reduceAdd, Nat.reduceSub, AV.int, AV.bool, AV.str, Nat.zero_add, fin1_NX_not, fin1_NX_if, fin1_NS_not, fin1_NS_if, finS_NX_not, finS_NX_if, finS_NS_not, finS_NS_if, Option.some.injEq, AV.tup.injEq, AV.prim.injEq, AV.agg.injEq, AV.frz.injEq, Value.int.injEq, Value.bool.injEq, Value.string.injEq, List.cons.injEq, decide_true, decide_false, List.take_zero, List.take_nil, List.take_succ_cons, Nat.reduceBEq, Nat.reduceEqDiff, Nat.reduceMul, Nat.reduceLT, Nat.reduceLeDiff, Int.reduceNeg, BEq.rfl, beq_self_eq_true, tabl, cellsOf, fldA, ldA, stA, entAt, partA, takeN, over, leafOk, List.all_cons, List.all_nil, Value.oneCell', List.drop_zero, List.drop_succ_cons, List.drop_nil, List.length_map, idxA, intN_cast, intN_zero, aBin_agg, aggB_eql, aggB_neq, aBin_nil, nilB_eql, nilB_neq, nilA, cellsEq, cellEq_int, cellEq_str, cellEq_bool, apA_eq, apB_one, apB_all, entAt_mid, put_new, put_mid, take_two, fillA, elemsA, pure1, pure2, List.replicate_succ, List.replicate_zero, reps, aConv_int, convI_some, aConv_str, RX_makeSlice, RX_makeSlice0, RX_copy, RX_appendS, RX_nilCheck, RX_min, RX_max, cvA_int, cvA_str, minA_int, maxA_int, aBin_refNil, aBin_fptrNil, aBin_nilNil, ptrNil_eql, ptrNil_neq, fz3_tup, fz3_agg, fz3_prim, fz3_frz, fz3_ref, fz3_fn, fz3_sref, fz2_agg, fz2_prim, fz2_frz, fz2_ref, fz2_fn, fz2_sref, fz1_prim, fz1_frz, fz1_ref, fz1_fn, fz1_sref, fz1_old, fzB_some, chkA, finM_BR, ext_mv, apB1_frz, apM_false, apM_true, tys, Tryd.results23, KX_draw, KX_drawQ, callP_eq, callM_true, e1, e4, d5, d6, c_nil, c_48]
    | cons b t =>
      have d6 : sEq (B (b :: t)) (B []) = false := by rw [B_eq]; simp
      have hz0 : (45 :: (b :: t)).length ≤ 900 := by simp at h1 ⊢; omega
      have z1 : (B [45]).size + (B (b :: t)).size ≤ 2 ^ 62 := by
        show 1 + (b :: t).length ≤ 2 ^ 62
        omega
      have hg : (B (b :: t))[0]? = some b := B_get _ _
      have hb48 := u8_is (b := b) (n := 48) (by decide)
      have e48 : (UInt8.ofNat 48) = 48 := rfl
      rw [e48] at hb48
      have hfin : (t = [] ∨ b ≠ 48) → b :: t = dec N := fun h => by
        refine strip_done h2 h3 (by simp) ?_
        rcases h with h | h
        · left; simp [h]
        · right; simpa [nth] using h
      by_cases ht : t = []
      · have d5 : decide (((B (b :: t)).size : Int) > 1) = false := by rw [B_size, ht]; rfl
        have hf := hfin (.inl ht)
        cases neg with
        | true =>
          simp (maxSteps := 1000000) +contextual (disch := first | with_reducible assumption | exact ⟨rfl⟩ | (refine _root_.id ?_; kernel_rfl) | omega) only [KX_seq, KX_skip, KX_exit, KX_ret, KX_if, KX_block, KX_region, CX_seq, CX_block, CX_loop, CX_exit_seq, CX_exit_block, CX_exit_loop, CX_ret, CX_ret_nil, CX_normal_nil, NX_some, NS_some, BR_true, BR_false, BR_not, fin1_BR, finS_BR, RX_nil, RX_guard, RX_move, RX_assign, RX_pick, RX_bin, RX_un, RX_conv, RX_extract, RX_field, RX_indexAddr, RX_fieldAddr, RX_index, RX_build, RX_buildSlice, RX_slice, RX_makeFunc, RX_load, RX_store, RX_alloc, RX_box, RX_append, RX_len, RX_call, RX_callV, wantD_some, wantV_bool, wantV_undef, DX_zero, DX_succ, asB_bool, nth, put, putT, getT, opv_tmp, opv_const, opv_func, cst_int, cst_bool, cst_string, cst_nil, cst_ptr, pickA_true, pickA_false, pickA_bool, extA_tup, fldV_agg, bldA_some, litA_some, callV_fn, aBin_int, aBin_str, aBin_bool, binInt, binStr, binBool, aUn, outA, resA, mapO, resA1, oneOf, fin1_some, finS_some, w1, w2, w3, bots, lenV_str, lenV_frz, lenV_sref, List.map_cons, List.map_nil, List.cons_append, List.nil_append, List.length_cons, List.length_nil, List.toList_toArray, Option.map_some, Option.map_none, Option.bind_some, Option.bind_none, Option.isSome_some, beq_true, beq_false, Bool.true_and, Bool.false_and, Bool.and_true, Bool.and_false, Bool.true_or, Bool.or_true, Bool.false_or, Bool.or_false, Bool.not_true, Bool.not_false, cond_true, cond_false, if_true, if_false, ite_true, ite_false, reduceIte, reduceCtorEq, Bool.false_eq_true, true_implies, false_implies, implies_true, and_true, true_and, Nat.reduceAdd, Nat.reduceSub, AV.int, AV.bool, AV.str, Nat.zero_add, fin1_NX_not, fin1_NX_if, fin1_NS_not, fin1_NS_if, finS_NX_not, finS_NX_if, finS_NS_not, finS_NS_if, Option.some.injEq, AV.tup.injEq, AV.prim.injEq, AV.agg.injEq, AV.frz.injEq, Value.int.injEq, Value.bool.injEq, Value.string.injEq, List.cons.injEq, decide_true, decide_false, List.take_zero, List.take_nil, List.take_succ_cons, Nat.reduceBEq, Nat.reduceEqDiff, Nat.reduceMul, Nat.reduceLT, Nat.reduceLeDiff, Int.reduceNeg, BEq.rfl, beq_self_eq_true, tabl, cellsOf, fldA, ldA, stA, entAt, partA, takeN, over, leafOk, List.all_cons, List.all_nil, Value.oneCell', List.drop_zero, List.drop_succ_cons, List.drop_nil, List.length_map, idxA, intN_cast, intN_zero, aBin_agg, aggB_eql, aggB_neq, aBin_nil, nilB_eql, nilB_neq, nilA, cellsEq, cellEq_int, cellEq_str, cellEq_bool, apA_eq, apB_one, apB_all, entAt_mid, put_new, put_mid, take_two, fillA, elemsA, pure1, pure2, List.replicate_succ, List.replicate_zero, reps, aConv_int, convI_some, aConv_str, RX_makeSlice, RX_makeSlice0, RX_copy, RX_appendS, RX_nilCheck, RX_min, RX_max, cvA_int, cvA_str, minA_int, maxA_int, aBin_refNil, aBin_fptrNil, aBin_nilNil, ptrNil_eql, ptrNil_neq, fz3_tup, fz3_agg, fz3_prim, fz3_frz, fz3_ref, fz3_fn, fz3_sref, fz2_agg, fz2_prim, fz2_frz, fz2_ref, fz2_fn, fz2_sref, fz1_prim, fz1_frz, fz1_ref, fz1_fn, fz1_sref, fz1_old, fzB_some, chkA, finM_BR, ext_mv, apB1_frz, apM_false, apM_true, tys, Tryd.results23, KX_draw, KX_drawQ, callP_eq, callM_true, e1, e4, d5, d6, c_nil, c_45, hN1, z1, B_app, digA]
          rw [hf]
        | false =>
          simp (maxSteps := 1000000) +contextual (disch := first | with_reducible assumption | exact ⟨rfl⟩ | (refine _root_.id ?_; kernel_rfl) | omega) only [KX_seq, KX_skip, KX_exit, KX_ret, KX_if, KX_block, KX_region, CX_seq, CX_block, CX_loop, CX_exit_seq, CX_exit_block, CX_exit_loop, CX_ret, CX_ret_nil, CX_normal_nil, NX_some, NS_some, BR_true, BR_false, BR_not, fin1_BR, finS_BR, RX_nil, RX_guard, RX_move, RX_assign, RX_pick, RX_bin, RX_un, RX_conv, RX_extract, RX_field, RX_indexAddr, RX_fieldAddr, RX_index, RX_build, RX_buildSlice, RX_slice, RX_makeFunc, RX_load, RX_store, RX_alloc, RX_box, RX_append, RX_len, RX_call, RX_callV, wantD_some, wantV_bool, wantV_undef, DX_zero, DX_succ, asB_bool, nth, put, putT, getT, opv_tmp, opv_const, opv_func, cst_int, cst_bool, cst_string, cst_nil, cst_ptr, pickA_true, pickA_false, pickA_bool, extA_tup, fldV_agg, bldA_some, litA_some, callV_fn, aBin_int, aBin_str, aBin_bool, binInt, binStr, binBool, aUn, outA, resA, mapO, resA1, oneOf, fin1_some, finS_some, w1, w2, w3, bots, lenV_str, lenV_frz, lenV_sref, List.map_cons, List.map_nil, List.cons_append, List.nil_append, List.length_cons, List.length_nil, List.toList_toArray, Option.map_some, Option.map_none, Option.bind_some, Option.bind_none, Option.isSome_some, beq_true, beq_false, Bool.true_and, Bool.false_and, Bool.and_true, Bool.and_false, Bool.true_or, Bool.or_true, Bool.false_or, Bool.or_false, Bool.not_true, Bool.not_false, cond_true, cond_false, if_true, if_false, ite_true, ite_false, reduceIte, reduceCtorEq, Bool.false_eq_true, true_implies, false_implies, implies_true, and_true, true_and, Nat.reduceAdd, Nat.reduceSub, AV.int, AV.bool, AV.str, Nat.zero_add, fin1_NX_not, fin1_NX_if, fin1_NS_not, fin1_NS_if, finS_NX_not, finS_NX_if, finS_NS_not, finS_NS_if, Option.some.injEq, AV.tup.injEq, AV.prim.injEq, AV.agg.injEq, AV.frz.injEq, Value.int.injEq, Value.bool.injEq, Value.string.injEq, List.cons.injEq, decide_true, decide_false, List.take_zero, List.take_nil, List.take_succ_cons, Nat.reduceBEq, Nat.reduceEqDiff, Nat.reduceMul, Nat.reduceLT, Nat.reduceLeDiff, Int.reduceNeg, BEq.rfl, beq_self_eq_true, tabl, cellsOf, fldA, ldA, stA, entAt, partA, takeN, over, leafOk, List.all_cons, List.all_nil, Value.oneCell', List.drop_zero, List.drop_succ_cons, List.drop_nil, List.length_map, idxA, intN_cast, intN_zero, aBin_agg, aggB_eql, aggB_neq, aBin_nil, nilB_eql, nilB_neq, nilA, cellsEq, cellEq_int, cellEq_str, cellEq_bool, apA_eq, apB_one, apB_all, entAt_mid, put_new, put_mid, take_two, fillA, elemsA, pure1, pure2, List.replicate_succ, List.replicate_zero, reps, aConv_int, convI_some, aConv_str, RX_makeSlice, RX_makeSlice0, RX_copy, RX_appendS, RX_nilCheck, RX_min, RX_max, cvA_int, cvA_str, minA_int, maxA_int, aBin_refNil, aBin_fptrNil, aBin_nilNil, ptrNil_eql, ptrNil_neq, fz3_tup, fz3_agg, fz3_prim, fz3_frz, fz3_ref, fz3_fn, fz3_sref, fz2_agg, fz2_prim, fz2_frz, fz2_ref, fz2_fn, fz2_sref, fz1_prim, fz1_frz, fz1_ref, fz1_fn, fz1_sref, fz1_old, fzB_some, chkA, finM_BR, ext_mv, apB1_frz, apM_false, apM_true, tys, Tryd.results23, KX_draw, KX_drawQ, callP_eq, callM_true, e1, e4, d5, d6, c_nil, c_45, hN1, z1, B_app, digA]
          rw [hf]
      · have d5 : decide (((B (b :: t)).size : Int) > 1) = true := by
          rw [B_size]
          have : t.length ≠ 0 := fun h => ht (List.length_eq_zero_iff.1 h)
          simp; omega
        by_cases hb : b = 48
        · have d7 : (((b.toNat : Nat) : Int) == 48) = true := by rw [hb]; rfl
          have hsl := sl_one (P := Tryd.prog) isStr9 (b := b) (s := t)
          have hmu : t.length < (b :: t).length := by simp
          have hv2 : valT t = N := by
            rw [← h3, hb, valT]
            have : dv 48 = 0 := rfl
            rw [this]; omega
          simp (maxSteps := 1000000) +contextual (disch := first | with_reducible assumption | exact ⟨rfl⟩ | (refine _root_.id ?_; kernel_rfl) | omega) only [KX_seq, KX_skip, KX_exit, KX_ret, KX_if, KX_block, KX_region, CX_seq, CX_block, CX_loop, CX_exit_seq, CX_exit_block, CX_exit_loop, CX_ret, CX_ret_nil, CX_normal_nil, NX_some, NS_some, BR_true, BR_false, BR_not, fin1_BR, finS_BR, RX_nil, RX_guard, RX_move, RX_assign, RX_pick, RX_bin, RX_un, RX_conv, RX_extract, RX_field, RX_indexAddr, RX_fieldAddr, RX_index, RX_build, RX_buildSlice, RX_slice, RX_makeFunc, RX_load, RX_store, RX_alloc, RX_box, RX_append, RX_len, RX_call, RX_callV, wantD_some, wantV_bool, wantV_undef, DX_zero, DX_succ, asB_bool, nth, put, putT, getT, opv_tmp, opv_const, opv_func, cst_int, cst_bool, cst_string, cst_nil, cst_ptr, pickA_true, pickA_false, pickA_bool, extA_tup, fldV_agg, bldA_some, litA_some, callV_fn, aBin_int, aBin_str, aBin_bool, binInt, binStr, binBool, aUn, outA, resA, mapO, resA1, oneOf, fin1_some, finS_some, w1, w2, w3, bots, lenV_str, lenV_frz, lenV_sref, List.map_cons, List.map_nil, List.cons_append, List.nil_append, List.length_cons, List.length_nil, List.toList_toArray, Option.map_some, Option.map_none, Option.bind_some, Option.bind_none, Option.isSome_some, beq_true, beq_false, Bool.true_and, Bool.false_and, Bool.and_true, Bool.and_false, Bool.true_or, Bool.or_true, Bool.false_or, Bool.or_false, Bool.not_true, Bool.not_false, cond_true, cond_false, if_true, if_false, ite_true, ite_false, reduceIte, reduceCtorEq, Bool.false_eq_true, true_implies, false_implies, implies_true, and_true, true_and, Nat.reduceAdd, Nat.reduceSub, AV.int, AV.bool, AV.str, Nat.zero_add, fin1_NX_not, fin1_NX_if, fin1_NS_not, fin1_NS_if, finS_NX_not, finS_NX_if, finS_NS_not, finS_NS_if, Option.some.injEq, AV.tup.injEq, AV.prim.injEq, AV.agg.injEq, AV.frz.injEq, Value.int.injEq, Value.bool.injEq, Value.string.injEq, List.cons.injEq, decide_true, decide_false, List.take_zero, List.take_nil, List.take_succ_cons, Nat.reduceBEq, Nat.reduceEqDiff, Nat.reduceMul, Nat.reduceLT, Nat.reduceLeDiff, Int.reduceNeg, BEq.rfl, beq_self_eq_true, tabl, cellsOf, fldA, ldA, stA, entAt, partA, takeN, over, leafOk, List.all_cons, List.all_nil, Value.oneCell', List.drop_zero, List.drop_succ_cons, List.drop_nil, List.length_map, idxA, intN_cast, intN_zero, aBin_agg, aggB_eql, aggB_neq, aBin_nil, nilB_eql, nilB_neq, nilA, cellsEq, cellEq_int, cellEq_str, cellEq_bool, apA_eq, apB_one, apB_all, entAt_mid, put_new, put_mid, take_two, fillA, elemsA, pure1, pure2, List.replicate_succ, List.replicate_zero, reps, aConv_int, convI_some, aConv_str, RX_makeSlice, RX_makeSlice0, RX_copy, RX_appendS, RX_nilCheck, RX_min, RX_max, cvA_int, cvA_str, minA_int, maxA_int, aBin_refNil, aBin_fptrNil, aBin_nilNil, ptrNil_eql, ptrNil_neq, fz3_tup, fz3_agg, fz3_prim, fz3_frz, fz3_ref, fz3_fn, fz3_sref, fz2_agg, fz2_prim, fz2_frz, fz2_ref, fz2_fn, fz2_sref, fz1_prim, fz1_frz, fz1_ref, fz1_fn, fz1_sref, fz1_old, fzB_some, chkA, finM_BR, ext_mv, apB1_frz, apM_false, apM_true, tys, Tryd.results23, KX_draw, KX_drawQ, callP_eq, callM_true, e1, e4, d5, d7, strIdx_B, hsl, isStr9]
          exact IH (t) _ (by first | omega | (simp only; omega)) ⟨rfl, by simp at h1; omega, fun x hx => h2 x (by simp [hx]), hv2, fun h => absurd h ht, (by first | rfl | simp only [getT, List.map_append, List.map_cons, List.map_nil, digC, digA, and_self]), (by first | rfl | simp only [getT, List.map_append, List.map_cons, List.map_nil, digC, digA, and_self]), (by first | rfl | simp only [getT, List.map_append, List.map_cons, List.map_nil, digC, digA, and_self])⟩
        · have d7 : (((b.toNat : Nat) : Int) == 48) = false := hb48.trans (by simp [hb])
          have hf := hfin (.inr hb)
          cases neg with
          | true =>
            simp (maxSteps := 1000000) +contextual (disch := first | with_reducible assumption | exact ⟨rfl⟩ | (refine _root_.id ?_; kernel_rfl) | omega) only [KX_seq, KX_skip, KX_exit, KX_ret, KX_if, KX_block, KX_region, CX_seq, CX_block, CX_loop, CX_exit_seq, CX_exit_block, CX_exit_loop, CX_ret, CX_ret_nil, CX_normal_nil, NX_some, NS_some, BR_true, BR_false, BR_not, fin1_BR, finS_BR, RX_nil, RX_guard, RX_move, RX_assign, RX_pick, RX_bin, RX_un, RX_conv, RX_extract, RX_field, RX_indexAddr, RX_fieldAddr, RX_index, RX_build, RX_buildSlice, RX_slice, RX_makeFunc, RX_load, RX_store, RX_alloc, RX_box, RX_append, RX_len, RX_call, RX_callV, wantD_some, wantV_bool, wantV_undef, DX_zero, DX_succ, asB_bool, nth, put, putT, getT, opv_tmp, opv_const, opv_func, cst_int, cst_bool, cst_string, cst_nil, cst_ptr, pickA_true, pickA_false, pickA_bool, extA_tup, fldV_agg, bldA_some, litA_some, callV_fn, aBin_int, aBin_str, aBin_bool, binInt, binStr, binBool, aUn, outA, resA, mapO, resA1, oneOf, fin1_some, finS_some, w1, w2, w3, bots, lenV_str, lenV_frz, lenV_sref, List.map_cons, List.map_nil, List.cons_append, List.nil_append, List.length_cons, List.length_nil, List.toList_toArray, Option.map_some, Option.map_none, Option.bind_some, Option.bind_none, Option.isSome_some, beq_true, beq_false, Bool.true_and, Bool.false_and, Bool.and_true, Bool.and_false, Bool.true_or, Bool.or_true, Bool.false_or, Bool.or_false, Bool.not_true, Bool.not_false, cond_true, cond_false, if_true, if_false, ite_true, ite_false, reduceIte, reduceCtorEq, Bool.false_eq_true, true_implies, false_implies, implies_true, and_true, true_and, Nat.reduceAdd, Nat.reduceSub, AV.int, AV.bool, AV.str, Nat.zero_add, fin1_NX_not, fin1_NX_if, fin1_NS_not, fin1_NS_if, finS_NX_not, finS_NX_if, finS_NS_not, finS_NS_if, Option.some.injEq, AV.tup.injEq, AV.prim.injEq, AV.agg.injEq, AV.frz.injEq, Value.int.injEq, Value.bool.injEq, Value.string.injEq, List.cons.injEq, decide_true, decide_false, List.take_zero, List.take_nil, List.take_succ_cons, Nat.reduceBEq, Nat.reduceEqDiff, Nat.reduceMul, Nat.reduceLT, Nat.reduceLeDiff, Int.reduceNeg, BEq.rfl, beq_self_eq_true, tabl, cellsOf, fldA, ldA, stA, entAt, partA, takeN, over, leafOk, List.all_cons, List.all_nil, Value.oneCell', List.drop_zero, List.drop_succ_cons, List.drop_nil, List.length_map, idxA, intN_cast, intN_zero, aBin_agg, aggB_eql, aggB_neq, aBin_nil, nilB_eql, nilB_neq, nilA, cellsEq, cellEq_int, cellEq_str, cellEq_bool, apA_eq, apB_one, apB_all, entAt_mid, put_new, put_mid, take_two, fillA, elemsA, pure1, pure2, List.replicate_succ, List.replicate_zero, reps, aConv_int, convI_some, aConv_str, RX_makeSlice, RX_makeSlice0, RX_copy, RX_appendS, RX_nilCheck, RX_min, RX_max, cvA_int, cvA_str, minA_int, maxA_int, aBin_refNil, aBin_fptrNil, aBin_nilNil, ptrNil_eql, ptrNil_neq, fz3_tup, fz3_agg, fz3_prim, fz3_frz, fz3_ref, fz3_fn, fz3_sref, fz2_agg, fz2_prim, fz2_frz, fz2_ref, fz2_fn, fz2_sref, fz1_prim, fz1_frz, fz1_ref, fz1_fn, fz1_sref, fz1_old, fzB_some, chkA, finM_BR, ext_mv, apB1_frz, apM_false, apM_true, tys, Tryd.results23, KX_draw, KX_drawQ, callP_eq, callM_true, e1, e4, d5, d6, d7, strIdx_B, isStr9, c_nil, c_45, hN1, z1, B_app, digA]
            rw [hf]
          | false =>
            simp (maxSteps := 1000000) +contextual (disch := first | with_reducible assumption | exact ⟨rfl⟩ | (refine _root_.id ?_; kernel_rfl) | omega) only [KX_seq, KX_skip, KX_exit, KX_ret, KX_if, KX_block, KX_region, CX_seq, CX_block, CX_loop, CX_exit_seq, CX_exit_block, CX_exit_loop, CX_ret, CX_ret_nil, CX_normal_nil, NX_some, NS_some, BR_true, BR_false, BR_not, fin1_BR, finS_BR, RX_nil, RX_guard, RX_move, RX_assign, RX_pick, RX_bin, RX_un, RX_conv, RX_extract, RX_field, RX_indexAddr, RX_fieldAddr, RX_index, RX_build, RX_buildSlice, RX_slice, RX_makeFunc, RX_load, RX_store, RX_alloc, RX_box, RX_append, RX_len, RX_call, RX_callV, wantD_some, wantV_bool, wantV_undef, DX_zero, DX_succ, asB_bool, nth, put, putT, getT, opv_tmp, opv_const, opv_func, cst_int, cst_bool, cst_string, cst_nil, cst_ptr, pickA_true, pickA_false, pickA_bool, extA_tup, fldV_agg, bldA_some, litA_some, callV_fn, aBin_int, aBin_str, aBin_bool, binInt, binStr, binBool, aUn, outA, resA, mapO, resA1, oneOf, fin1_some, finS_some, w1, w2, w3, bots, lenV_str, lenV_frz, lenV_sref, List.map_cons, List.map_nil, List.cons_append, List.nil_append, List.length_cons, List.length_nil, List.toList_toArray, Option.map_some, Option.map_none, Option.bind_some, Option.bind_none, Option.isSome_some, beq_true, beq_false, Bool.true_and, Bool.false_and, Bool.and_true, Bool.and_false, Bool.true_or, Bool.or_true, Bool.false_or, Bool.or_false, Bool.not_true, Bool.not_false, cond_true, cond_false, if_true, if_false, ite_true, ite_false, reduceIte, reduceCtorEq, Bool.false_eq_true, true_implies, false_implies, implies_true, and_true, true_and, Nat.reduceAdd, Nat.reduceSub, AV.int, AV.bool, AV.str, Nat.zero_add, fin1_NX_not, fin1_NX_if, fin1_NS_not, fin1_NS_if, finS_NX_not, finS_NX_if, finS_NS_not, finS_NS_if, Option.some.injEq, AV.tup.injEq, AV.prim.injEq, AV.agg.injEq, AV.frz.injEq, Value.int.injEq, Value.bool.injEq, Value.string.injEq, List.cons.injEq, decide_true, decide_false, List.take_zero, List.take_nil, List.take_succ_cons, Nat.reduceBEq, Nat.reduceEqDiff, Nat.reduceMul, Nat.reduceLT, Nat.reduceLeDiff, Int.reduceNeg, BEq.rfl, beq_self_eq_true, tabl, cellsOf, fldA, ldA, stA, entAt, partA, takeN, over, leafOk, List.all_cons, List.all_nil, Value.oneCell', List.drop_zero, List.drop_succ_cons, List.drop_nil, List.length_map, idxA, intN_cast, intN_zero, aBin_agg, aggB_eql, aggB_neq, aBin_nil, nilB_eql, nilB_neq, nilA, cellsEq, cellEq_int, cellEq_str, cellEq_bool, apA_eq, apB_one, apB_all, entAt_mid, put_new, put_mid, take_two, fillA, elemsA, pure1, pure2, List.replicate_succ, List.replicate_zero, reps, aConv_int, convI_some, aConv_str, RX_makeSlice, RX_makeSlice0, RX_copy, RX_appendS, RX_nilCheck, RX_min, RX_max, cvA_int, cvA_str, minA_int, maxA_int, aBin_refNil, aBin_fptrNil, aBin_nilNil, ptrNil_eql, ptrNil_neq, fz3_tup, fz3_agg, fz3_prim, fz3_frz, fz3_ref, fz3_fn, fz3_sref, fz2_agg, fz2_prim, fz2_frz, fz2_ref, fz2_fn, fz2_sref, fz1_prim, fz1_frz, fz1_ref, fz1_fn, fz1_sref, fz1_old, fzB_some, chkA, finM_BR, ext_mv, apB1_frz, apM_false, apM_true, tys, Tryd.results23, KX_draw, KX_drawQ, callP_eq, callM_true, e1, e4, d5, d6, d7, strIdx_B, isStr9, c_nil, c_45, hN1, z1, B_app, digA]
            rw [hf]
  · have d2 : decide ((m : Int) - 1 ≥ 0) = true := by simp; omega
    have hi : (m : Int) - 1 = ((m - 1 : Nat) : Int) := by omega
    obtain ⟨x, hx⟩ := nth_some (show m - 1 < (dig N).length by omega)
    have hx' := nth_dig hx
    have hxk := of_okD (okD_dig N) hx
    have hxn : x = ((x.toNat : Nat) : Int) := by omega
    have hp := top_idx (n := m - 1) (by omega)
    have hdr := nth_drop hx
    have hm1 : m - 1 + 1 = m := by omega
    rw [hm1] at hdr
    have hF := fun S tk k => R02_four S tk k x.toNat (by omega)
    rw [← hxn] at hF
    have hfc := fours_cons x ((dig N).drop m)
    have hfl := fours_len ((dig N).drop m)
    rw [List.length_drop] at hfl
    have z1 : (B (foursT ((dig N).drop m))).size + (B (fourF x.toNat)).size ≤ 2 ^ 62 := by
      rw [B_size, B_size, four_len]
      omega
    rw [hi] at e5 d2
    subst hs
    simp (maxSteps := 1000000) +contextual (disch := first | with_reducible assumption | exact ⟨rfl⟩ | (refine _root_.id ?_; kernel_rfl) | omega) only [KX_seq, KX_skip, KX_exit, KX_ret, KX_if, KX_block, KX_region, CX_seq, CX_block, CX_loop, CX_exit_seq, CX_exit_block, CX_exit_loop, CX_ret, CX_ret_nil, CX_normal_nil, NX_some, NS_some, BR_true, BR_false, BR_not, fin1_BR, finS_BR, RX_nil, RX_guard, RX_move, RX_assign, RX_pick, RX_bin, RX_un, RX_conv, RX_extract, RX_field, RX_indexAddr, RX_fieldAddr, RX_index, RX_build, RX_buildSlice, RX_slice, RX_makeFunc, RX_load, RX_store, RX_alloc, RX_box, RX_append, RX_len, RX_call, RX_callV, wantD_some, wantV_bool, wantV_undef, DX_zero, DX_succ, asB_bool, nth, put, putT, getT, opv_tmp, opv_const, opv_func, cst_int, cst_bool, cst_string, cst_nil, cst_ptr, pickA_true, pickA_false, pickA_bool, extA_tup, fldV_agg, bldA_some, litA_some, callV_fn, aBin_int, aBin_str, aBin_bool, binInt, binStr, binBool, aUn, outA, resA, mapO, resA1, oneOf, fin1_some, finS_some, w1, w2, w3, bots, lenV_str, lenV_frz, lenV_sref, List.map_cons, List.map_nil, List.cons_append, List.nil_append, List.length_cons, List.length_nil, List.toList_toArray, Option.map_some, Option.map_none, Option.bind_some, Option.bind_none, Option.isSome_some, beq_true, beq_false, Bool.true_and, Bool.false_and, Bool.and_true, Bool.and_false, Bool.true_or, Bool.or_true, Bool.false_or, Bool.or_false, Bool.not_true, Bool.not_false, cond_true, cond_false, if_true, if_false, ite_true, ite_false, reduceIte, reduceCtorEq, Bool.false_eq_true, true_implies, false_implies, implies_true, and_true, true_and, Nat.reduceAdd, Nat.reduceSub, AV.int, AV.bool, AV.str, Nat.zero_add, fin1_NX_not, fin1_NX_if, fin1_NS_not, fin1_NS_if, finS_NX_not, finS_NX_if, finS_NS_not, finS_NS_if, Option.some.injEq, AV.tup.injEq, AV.prim.injEq, AV.agg.injEq, AV.frz.injEq, Value.int.injEq, Value.bool.injEq, Value.string.injEq, List.cons.injEq, decide_true, decide_false, List.take_zero, List.take_nil, List.take_succ_cons, Nat.reduceBEq, Nat.reduceEqDiff, Nat.reduceMul, Nat.reduceLT, Nat.reduceLeDiff, Int.reduceNeg, BEq.rfl, beq_self_eq_true, tabl, cellsOf, fldA, ldA, stA, entAt, partA, takeN, over, leafOk, List.all_cons, List.all_nil, Value.oneCell', List.drop_zero, List.drop_succ_cons, List.drop_nil, List.length_map, idxA, intN_cast, intN_zero, aBin_agg, aggB_eql, aggB_neq, aBin_nil, nilB_eql, nilB_neq, nilA, cellsEq, cellEq_int, cellEq_str, cellEq_bool, apA_eq, apB_one, apB_all, entAt_mid, put_new, put_mid, take_two, fillA, elemsA, pure1, pure2, List.replicate_succ, List.replicate_zero, reps, aConv_int, convI_some, aConv_str, RX_makeSlice, RX_makeSlice0, RX_copy, RX_appendS, RX_nilCheck, RX_min, RX_max, cvA_int, cvA_str, minA_int, maxA_int, aBin_refNil, aBin_fptrNil, aBin_nilNil, ptrNil_eql, ptrNil_neq, fz3_tup, fz3_agg, fz3_prim, fz3_frz, fz3_ref, fz3_fn, fz3_sref, fz2_agg, fz2_prim, fz2_frz, fz2_ref, fz2_fn, fz2_sref, fz1_prim, fz1_frz, fz1_ref, fz1_fn, fz1_sref, fz1_old, fzB_some, chkA, finM_BR, ext_mv, apB1_frz, apM_false, apM_true, tys, Tryd.results23, KX_draw, KX_drawQ, callP_eq, callM_true, e1, e3, e4, e5, d2, digA, hx', hp, hF, z1, B_app]
    exact IH (m - 1, foursT ((dig N).drop m) ++ fourF x.toNat) _ (by first | omega | (simp only; omega)) ⟨rfl, by first | omega | (dsimp only; omega), by rw [hdr, hfc], (by first | rfl | simp only [getT, List.map_append, List.map_cons, List.map_nil, digC, digA, and_self]), (by first | rfl | simp only [getT, List.map_append, List.map_cons, List.map_nil, digC, digA, and_self]), (by first | rfl | simp only [getT, List.map_append, List.map_cons, List.map_nil, digC, digA, and_self])⟩
end
end Go.Proofs.YtokncdoejnchfaaDoor
