/-
  What the functions of the numbers compute: sums of digits.
-/
import Derived.Test.YtokncdoejnchfaaDoorB3
namespace Go.Proofs.YtokncdoejnchfaaDoor
open Go

theorem put_end {S : List Ent} {e e' : Ent} : put (S ++ [e]) S.length e' = S ++ [e'] := put_new
theorem set_same {l : List Int} {i j : Nat} {x v : Int} (h : nth (l.set i v) j = some x) : (j = i ∧ x = v) ∨ (j ≠ i ∧ nth l j = some x) := by
  rw [← put_set] at h
  by_cases e : i = j
  · subst e; exact .inl ⟨rfl, nth_put_same h⟩
  · rw [nth_put_other e] at h; exact .inr ⟨fun h => e h.symm, h⟩
theorem nth_set_same {l : List Int} {i : Nat} {v : Int} (h : i < l.length) : nth (l.set i v) i = some v := by
  rw [nth_get, List.getElem?_set_self h]
theorem nth_set_other {l : List Int} {i j : Nat} {v : Int} (h : i ≠ j) : nth (l.set i v) j = nth l j := by
  rw [nth_get, nth_get, List.getElem?_set_ne h]
theorem okD_of {l : List Int} (h : ∀ j x, nth l j = some x → 0 ≤ x ∧ x < 10000) : okD l := fun d hd => by
  obtain ⟨j, hj⟩ := List.mem_iff_getElem?.1 hd
  exact h j d (by rw [nth_get]; exact hj)
theorem of_okD {l : List Int} (h : okD l) {j : Nat} {x : Int} (hx : nth l j = some x) : 0 ≤ x ∧ x < 10000 := h x (by rw [nth_get] at hx; exact List.mem_of_getElem? hx)
/-- a list put ahead of zeros -/
def padL (l : List Int) (n : Nat) : List Int := l ++ List.replicate (n - l.length) 0
theorem padL_len {l : List Int} {n : Nat} (h : l.length ≤ n) : (padL l n).length = n := by simp [padL]; omega
theorem padL_val (l : List Int) (n : Nat) : val (padL l n) = val l := by rw [padL, val_append, val_replicate]; omega
theorem padL_at {l : List Int} {n j : Nat} {x : Int} (h : nth (padL l n) j = some x) : nth l j = some x ∨ (l.length ≤ j ∧ x = 0) := by
  rw [nth_get, padL] at h
  by_cases hj : j < l.length
  · rw [List.getElem?_append_left hj] at h; left; rw [nth_get]; exact h
  · rw [List.getElem?_append_right (by omega)] at h
    right
    refine ⟨by omega, ?_⟩
    have := List.mem_of_getElem? h
    exact (List.mem_replicate.1 this).2
theorem zeros_num (n : Nat) : (List.replicate n [(.prim (.int .i64 0) : AV)]).flatten = (List.replicate n (0 : Int)).map numC := by
  rw [flat_one, List.map_replicate]; rfl
theorem over_prefix : ∀ (vs cs : List AV), vs.length ≤ cs.length → over cs 0 vs = some (vs ++ cs.drop vs.length)
  | [], cs, _ => by cases cs <;> rfl
  | v :: vs, c :: cs, h => by simp only [over, over_prefix vs cs (by simpa using h), Option.map_some, List.cons_append, List.length_cons, List.drop_succ_cons]
  | _ :: _, [], h => by simp at h
theorem over_pad {l : List Int} {n : Nat} (h : l.length ≤ n) : over ((List.replicate n (0 : Int)).map numC) 0 (l.map numC) = some ((padL l n).map numC) := by
  rw [over_prefix _ _ (by simpa using h)]
  congr 1
  rw [padL, List.map_append]
  congr 1
  simp [← List.map_drop]
theorem flat_dig (l : List Int) : (l.map digC).flatten = l.map numC := by
  induction l with
  | nil => rfl
  | cons x l ih => simp only [List.map_cons, List.flatten_cons, ih]; rfl
theorem leaf_num (l : List Int) : (l.map numC).all leafOk = true := by
  rw [List.all_map, List.all_eq_true]; intro x _; rfl
def zeroC (n : Nat) : List AV := (List.replicate n (0 : Int)).map numC
/-- make([]int, n) -/
theorem mk_num {P : Program} {t : TypeId} {n : Nat} (hz : (elemOf P t).bind (zeroOf P) = some [.prim (.int .i64 0)]) (hs : (elemOf P t).bind (szOf P) = some 1) (hb : (elemOf P t).bind (bytesOf P) = some 8) (hn : n ≤ 1048576) :
    mkA P t (.prim (.int .i64 (n : Int))) (.prim (.int .i64 (n : Int))) = some (n, 1, zeroC n) := by
  unfold mkA
  rw [hz, hs, hb, intN_cast]
  simp only [mkB]
  rw [if_pos ⟨Nat.le_refl _, hn, by omega, rfl⟩, zeros_num]; rfl
/-- copy of digits into zeros -/
theorem cp_num {P : Program} {t : TypeId} {n id ep : Nat} {l : List Int} {c : Cap} {S : List Ent} (hs : (elemOf P t).bind (szOf P) = some 1) (hl : l.length ≤ n) (h : entAt S id ep = some (zeroC n)) :
    cpA P t (.sref id ep 0 n 1) (.frz (l.map digC) c) S = some (l.length, put S id ⟨ep, (padL l n).map numC⟩) := by
  unfold cpA
  simp only [lenA, List.length_map, hs, if_true, srcA, rowsOk_dig, h]
  have hm : min l.length n = l.length := by omega
  unfold zeroC
  rw [hm, List.take_of_length_le (by simp), flat_dig]
  simp only [leaf_num, if_true, over_pad hl]
theorem trim_is_take : ∀ l : List Int, trimL l = l.take (trimL l).length
  | [] => rfl
  | d :: l => by
    rw [trimL]
    split
    · rfl
    · simp only [List.length_cons, List.take_succ_cons]
      rw [← trim_is_take l]
theorem pow_pos4 (n : Nat) : (0 : Int) < 10000 ^ n := Int.pow_pos (by omega)
/-- the state after the digits have been added one by one -/
structure Plus1 (a b la i : Nat) (out : List Int) : Prop where
  len : out.length = la + 1
  val : val out + 10000 ^ i * val ((dig b).drop i) = (a + b : Nat)
  ok : ∀ j x, nth out j = some x → 0 ≤ x ∧ (j < i → x ≤ 19998) ∧ (i ≤ j → x < 10000) ∧ (j = la → x = 0)
theorem Plus1.start {a b : Nat} : Plus1 a b (dig a).length 0 (padL (dig a) ((dig a).length + 1)) := by
  refine ⟨padL_len (by omega), ?_, fun j x hx => ?_⟩
  · rw [padL_val, val_dig, List.drop_zero, val_dig]; simp
  · rcases padL_at hx with h | ⟨h, rfl⟩
    · have := of_okD (okD_dig a) h
      have hl := nth_lt h
      exact ⟨this.1, by omega, fun _ => this.2, fun e => by omega⟩
    · exact ⟨by omega, by omega, by omega, fun _ => rfl⟩
theorem Plus1.step {a b la i : Nat} {out : List Int} {x d : Int} (h : Plus1 a b la i out) (hb : i < la) (hx : nth out i = some x) (hd : nth (dig b) i = some d) : Plus1 a b la (i + 1) (out.set i (x + d)) := by
  have hdk := of_okD (okD_dig b) hd
  refine ⟨by rw [List.length_set]; exact h.len, ?_, fun j y hy => ?_⟩
  · have hv := h.val
    rw [nth_drop hd, Go.Proofs.YtokncdoejnchfaaDoor.val] at hv
    rw [val_set hx, ← hv, Int.pow_succ, Int.mul_add]
    have e1 : x + d - x = d := by omega
    rw [e1, Int.mul_comm d, Int.mul_assoc]; omega
  · rcases set_same hy with ⟨rfl, rfl⟩ | ⟨hne, hy⟩
    · have := h.ok _ x hx
      exact ⟨by omega, by omega, by omega, by omega⟩
    · have := h.ok j y hy
      exact ⟨this.1, fun hj => this.2.1 (by omega), fun hj => this.2.2.1 (by omega), this.2.2.2⟩
/-- .. and while the carries are taken on -/
structure Plus2 (v la i : Nat) (out : List Int) : Prop where
  len : out.length = la + 1
  val : val out = v
  ok : ∀ j x, nth out j = some x → 0 ≤ x ∧ (j < i → x < 10000) ∧ (j = i → x ≤ 19999) ∧ (i < j → x ≤ 19998) ∧ (j = la → x ≤ 1 ∧ (i < la → x = 0))
theorem Plus2.start {a b la : Nat} {out : List Int} (h : Plus1 a b la (dig b).length out) : Plus2 (a + b) la 0 out := by
  refine ⟨h.len, ?_, fun j x hx => ?_⟩
  · have := h.val
    rw [List.drop_length, Go.Proofs.YtokncdoejnchfaaDoor.val] at this; omega
  · have := h.ok j x hx
    refine ⟨this.1, by omega, fun _ => ?_, fun _ => ?_, fun e => ⟨by have := this.2.2.2 e; omega, fun _ => this.2.2.2 e⟩⟩
    · rcases Nat.lt_or_ge j (dig b).length with hj | hj
      · have := this.2.1 hj; omega
      · have := this.2.2.1 hj; omega
    · rcases Nat.lt_or_ge j (dig b).length with hj | hj
      · exact this.2.1 hj
      · have := this.2.2.1 hj; omega
theorem Plus2.small {v la i : Nat} {out : List Int} {x : Int} (h : Plus2 v la i out) (hi : i < la) (hx : nth out i = some x) (h1 : x < 10000) : Plus2 v la (i + 1) out := by
  refine ⟨h.len, h.val, fun j y hy => ?_⟩
  have := h.ok j y hy
  refine ⟨this.1, fun hj => ?_, fun hj => by have := this.2.2.2.1 (by omega); omega, fun hj => this.2.2.2.1 (by omega), fun e => ⟨(this.2.2.2.2 e).1, fun _ => (this.2.2.2.2 e).2 hi⟩⟩
  by_cases e : j = i
  · subst e; rw [hx] at hy; simp only [Option.some.injEq] at hy; omega
  · exact this.2.1 (by omega)
theorem Plus2.big {v la i : Nat} {out : List Int} {x y : Int} (h : Plus2 v la i out) (hi : i < la) (hx : nth out i = some x) (h1 : 10000 ≤ x) (hy : nth (out.set i (x - 10000)) (i + 1) = some y) : Plus2 v la (i + 1) ((out.set i (x - 10000)).set (i + 1) (y + 1)) := by
  refine ⟨by rw [List.length_set, List.length_set]; exact h.len, ?_, fun j z hz => ?_⟩
  · rw [val_set hy, val_set hx, ← h.val, Int.pow_succ]
    have e1 : x - 10000 - x = -10000 := by omega
    have e2 : y + 1 - y = 1 := by omega
    rw [e1, e2, Int.one_mul, Int.mul_comm (10000 ^ i) 10000, Int.neg_mul]; omega
  · have hyo : nth out (i + 1) = some y := by
      rcases set_same hy with ⟨e, -⟩ | ⟨-, hy⟩
      · omega
      · exact hy
    have hk := h.ok i x hx
    have hky := h.ok (i + 1) y hyo
    rcases set_same hz with ⟨rfl, rfl⟩ | ⟨hne, hz⟩
    · refine ⟨by omega, by omega, fun _ => by have := hky.2.2.2.1 (by omega); omega, by omega, fun e => ?_⟩
      have := (hky.2.2.2.2 e).2 hi
      exact ⟨by omega, by omega⟩
    · rcases set_same hz with ⟨rfl, rfl⟩ | ⟨hne2, hz⟩
      · exact ⟨by omega, fun _ => by omega, by omega, by omega, by omega⟩
      · have := h.ok j z hz
        exact ⟨this.1, fun hj => this.2.1 (by omega), fun hj => by omega, fun hj => this.2.2.2.1 (by omega), fun e => ⟨(this.2.2.2.2 e).1, fun _ => (this.2.2.2.2 e).2 hi⟩⟩
theorem Plus2.done {v la : Nat} {out : List Int} (h : Plus2 v la la out) : trimL out = dig v := by
  have hk : okD out := okD_of fun j x hx => by
    have := h.ok j x hx
    have hl := nth_lt hx
    rw [h.len] at hl
    refine ⟨this.1, ?_⟩
    rcases Nat.lt_or_ge j la with hj | hj
    · exact this.2.1 hj
    · have := (this.2.2.2.2 (by omega)).1; omega
  rw [trim_dig hk, h.val]; congr 1
section
variable (S : List Ent) (tk : List Nat) (k : Nat)
theorem big_plus (a b : Nat) (ha : (dig a).length ≤ 100000) (hb : (dig b).length ≤ 100000) : cL Tryd.prog 46 [digA (dig a), digA (dig b)] S tk k = some (digA (dig (a + b)), S, tk, k) := by
  refine call_pure Tryd.func46 rfl rfl (by decide +kernel) (by decide +kernel) Tryd.ntmps46 rfl rfl _ _ _ rfl ?_; rw [RK_KX]
  rcases Nat.lt_or_ge (dig a).length (dig b).length with h | h
  · have d1 : decide (((dig a).length : Int) < ((dig b).length : Int)) = true := by simpa using h
    rw [Nat.add_comm]
    have hw : IntKind.i64.wrap (((dig b).length : Int) + 1) = (((dig b).length + 1 : Nat) : Int) := wrap_add (by omega)
    have hbo : (elemOf Tryd.prog 22).bind (bytesOf Tryd.prog) = some 8 := by kernel_rfl
    have hmk := mk_num (P := Tryd.prog) (t := 22) (n := (dig b).length + 1) (by simp only [tys, Option.bind_some]) (by simp only [tys, Option.bind_some]) hbo (by omega)
    have hcp := cp_num (P := Tryd.prog) (t := 22) (n := (dig b).length + 1) (id := 0) (ep := 0) (l := dig b) (c := .unk) (S := [⟨0, zeroC ((dig b).length + 1)⟩]) (by simp only [tys, Option.bind_some]) (by omega) rfl
    simp (maxSteps := 1000000) +contextual (disch := first | with_reducible assumption | exact ⟨rfl⟩ | (refine _root_.id ?_; kernel_rfl) | omega) only [KX_seq, KX_skip, KX_exit, KX_ret, KX_if, KX_block, KX_region, CX_seq, CX_block, CX_loop, CX_exit_seq, CX_exit_block, CX_exit_loop, CX_ret, CX_ret_nil, CX_normal_nil, NX_some, NS_some, BR_true, BR_false, BR_not, fin1_BR, finS_BR, RX_nil, RX_guard, RX_move, RX_assign, RX_pick, RX_bin, RX_un, RX_conv, RX_extract, RX_field, RX_indexAddr, RX_fieldAddr, RX_index, RX_build, RX_buildSlice, RX_slice, RX_makeFunc, RX_load, RX_store, RX_alloc, RX_box, RX_append, RX_len, RX_call, RX_callV, wantD_some, wantV_bool, wantV_undef, DX_zero, DX_succ, asB_bool, nth, put, putT, getT, opv_tmp, opv_const, opv_func, cst_int, cst_bool, cst_string, cst_nil, cst_ptr, pickA_true, pickA_false, pickA_bool, extA_tup, fldV_agg, bldA_some, litA_some, callV_fn, aBin_int, aBin_str, aBin_bool, binInt, binStr, binBool, aUn, outA, resA, mapO, resA1, oneOf, fin1_some, finS_some, w1, w2, w3, bots, lenV_str, lenV_frz, lenV_sref, List.map_cons, List.map_nil, List.cons_append, List.nil_append, List.length_cons, List.length_nil, List.toList_toArray, Option.map_some, Option.map_none, Option.bind_some, Option.bind_none, Option.isSome_some, beq_true, beq_false, Bool.true_and, Bool.false_and, Bool.and_true, Bool.and_false, Bool.true_or, Bool.or_true, Bool.false_or, Bool.or_false, Bool.not_true, Bool.not_false, cond_true, cond_false, if_true, if_false, ite_true, ite_false, reduceIte, reduceCtorEq, Bool.false_eq_true, true_implies, false_implies, implies_true, and_true, true_and, Nat.reduceAdd, Nat.reduceSub, AV.int, AV.bool, AV.str, Nat.zero_add, fin1_NX_not, fin1_NX_if, fin1_NS_not, fin1_NS_if, finS_NX_not, finS_NX_if, finS_NS_not, finS_NS_if, Option.some.injEq, AV.tup.injEq, AV.prim.injEq, AV.agg.injEq, AV.frz.injEq, Value.int.injEq, Value.bool.injEq, Value.string.injEq, List.cons.injEq, decide_true, decide_false, List.take_zero, List.take_nil, List.take_succ_cons, Nat.reduceBEq, Nat.reduceEqDiff, Nat.reduceMul, Nat.reduceLT, Nat.reduceLeDiff, Int.reduceNeg, BEq.rfl, beq_self_eq_true, tabl, cellsOf, fldA, ldA, stA, entAt, partA, takeN, over, leafOk, List.all_cons, List.all_nil, Value.oneCell', List.drop_zero, List.drop_succ_cons, List.drop_nil, List.length_map, idxA, intN_cast, intN_zero, aBin_agg, aggB_eql, aggB_neq, aBin_nil, nilB_eql, nilB_neq, nilA, cellsEq, cellEq_int, cellEq_str, cellEq_bool, apA_eq, apB_one, apB_all, entAt_mid, put_new, put_mid, take_two, fillA, elemsA, pure1, pure2, List.replicate_succ, List.replicate_zero, reps, aConv_int, convI_some, aConv_str, RX_makeSlice, RX_makeSlice0, RX_copy, RX_appendS, RX_nilCheck, RX_min, RX_max, cvA_int, cvA_str, minA_int, maxA_int, aBin_refNil, aBin_fptrNil, aBin_nilNil, ptrNil_eql, ptrNil_neq, fz3_tup, fz3_agg, fz3_prim, fz3_frz, fz3_ref, fz3_fn, fz3_sref, fz2_agg, fz2_prim, fz2_frz, fz2_ref, fz2_fn, fz2_sref, fz1_prim, fz1_frz, fz1_ref, fz1_fn, fz1_sref, fz1_old, fzB_some, chkA, finM_BR, ext_mv, apB1_frz, apM_false, apM_true, tys, Tryd.results46, KX_draw, KX_drawQ, callP_eq, callM_true, digA, d1, hw, hmk, hcp]
    refine loop1 (fun x st => st.T.length = 64 ∧ (x.1 ≤ (dig a).length) ∧ (Plus1 b a (dig b).length x.1 x.2) ∧ getT st.T 0 = digA (dig b) ∧ getT st.T 5 = .sref 0 0 0 ((dig b).length + 1) 1 ∧ getT st.T 23 = digA (dig a) ∧ getT st.T 24 = .int (dig a).length ∧ getT st.T 25 = .int (x.1 : Nat) ∧ st.S = [⟨0, x.2.map numC⟩]) (fun x => (dig a).length - x.1) (fun x => digA (dig (b + a))) (0, padL (dig b) ((dig b).length + 1)) ?_ ?_
    case refine_2 => exact ⟨rfl, Nat.zero_le _, Plus1.start, rfl, rfl, rfl, rfl, rfl, rfl⟩
    rintro ⟨i, out⟩ ⟨T, S', tk', n'⟩ ⟨hl, hi, hp, e0, e5, e23, e24, e25, eS⟩ IH
    simp only at hi hp e0 e5 e23 e24 e25 eS
    subst eS
    obtain ⟨g, hg, hT⟩ := tab_of hl
    rw [hg] at e0 e5 e23 e24 e25
    subst hT
    clear hg hl
    have hlen := hp.len
    by_cases hlt : i < (dig a).length
    · have d2 : decide ((i : Int) < ((dig a).length : Int)) = true := by simpa using hlt
      obtain ⟨d, hd⟩ := nth_some hlt
      have hd' := nth_dig hd
      have hiw := wrap_add (i := i) (by omega)
      obtain ⟨x, hx⟩ := nth_some (show i < out.length by omega)
      have hx' := nth_num hx
      have hin : i < (dig b).length + 1 := by omega
      have hxd := (hp.ok i x hx).2.2.1 (Nat.le_refl _)
      have hx0 := (hp.ok i x hx).1
      have hdk := of_okD (okD_dig a) hd
      have hws : IntKind.i64.wrap (x + d) = x + d := wrap_of (by unfold i64; omega)
      have hov := over_num (v := x + d) hx
      simp (maxSteps := 1000000) +contextual (disch := first | with_reducible assumption | exact ⟨rfl⟩ | (refine _root_.id ?_; kernel_rfl) | omega) only [KX_seq, KX_skip, KX_exit, KX_ret, KX_if, KX_block, KX_region, CX_seq, CX_block, CX_loop, CX_exit_seq, CX_exit_block, CX_exit_loop, CX_ret, CX_ret_nil, CX_normal_nil, NX_some, NS_some, BR_true, BR_false, BR_not, fin1_BR, finS_BR, RX_nil, RX_guard, RX_move, RX_assign, RX_pick, RX_bin, RX_un, RX_conv, RX_extract, RX_field, RX_indexAddr, RX_fieldAddr, RX_index, RX_build, RX_buildSlice, RX_slice, RX_makeFunc, RX_load, RX_store, RX_alloc, RX_box, RX_append, RX_len, RX_call, RX_callV, wantD_some, wantV_bool, wantV_undef, DX_zero, DX_succ, asB_bool, nth, put, putT, getT, opv_tmp, opv_const, opv_func, cst_int, cst_bool, cst_string, cst_nil, cst_ptr, pickA_true, pickA_false, pickA_bool, extA_tup, fldV_agg, bldA_some, litA_some, callV_fn, aBin_int, aBin_str, aBin_bool, binInt, binStr, binBool, aUn, outA, resA, mapO, resA1, oneOf, fin1_some, finS_some, w1, w2, w3, bots, lenV_str, lenV_frz, lenV_sref, List.map_cons, List.map_nil, List.cons_append, List.nil_append, List.length_cons, List.length_nil, List.toList_toArray, Option.map_some, Option.map_none, Option.bind_some, Option.bind_none, Option.isSome_some, beq_true, beq_false, Bool.true_and, Bool.false_and, Bool.and_true, Bool.and_false, Bool.true_or, Bool.or_true, Bool.false_or, Bool.or_false, Bool.not_true, Bool.not_false, cond_true, cond_false, if_true, if_false, ite_true, ite_false, reduceIte, reduceCtorEq, Bool.false_eq_true, true_implies, false_implies, implies_true, and_true, true_and, Nat.reduceAdd, Nat.reduceSub, AV.int, AV.bool, AV.str, Nat.zero_add, fin1_NX_not, fin1_NX_if, fin1_NS_not, fin1_NS_if, finS_NX_not, finS_NX_if, finS_NS_not, finS_NS_if, Option.some.injEq, AV.tup.injEq, AV.prim.injEq, AV.agg.injEq, AV.frz.injEq, Value.int.injEq, Value.bool.injEq, Value.string.injEq, List.cons.injEq, decide_true, decide_false, List.take_zero, List.take_nil, List.take_succ_cons, Nat.reduceBEq, Nat.reduceEqDiff, Nat.reduceMul, Nat.reduceLT, Nat.reduceLeDiff, Int.reduceNeg, BEq.rfl, beq_self_eq_true, tabl, cellsOf, fldA, ldA, stA, entAt, partA, takeN, over, leafOk, List.all_cons, List.all_nil, Value.oneCell', List.drop_zero, List.drop_succ_cons, List.drop_nil, List.length_map, idxA, intN_cast, intN_zero, aBin_agg, aggB_eql, aggB_neq, aBin_nil, nilB_eql, nilB_neq, nilA, cellsEq, cellEq_int, cellEq_str, cellEq_bool, apA_eq, apB_one, apB_all, entAt_mid, put_new, put_mid, take_two, fillA, elemsA, pure1, pure2, List.replicate_succ, List.replicate_zero, reps, aConv_int, convI_some, aConv_str, RX_makeSlice, RX_makeSlice0, RX_copy, RX_appendS, RX_nilCheck, RX_min, RX_max, cvA_int, cvA_str, minA_int, maxA_int, aBin_refNil, aBin_fptrNil, aBin_nilNil, ptrNil_eql, ptrNil_neq, fz3_tup, fz3_agg, fz3_prim, fz3_frz, fz3_ref, fz3_fn, fz3_sref, fz2_agg, fz2_prim, fz2_frz, fz2_ref, fz2_fn, fz2_sref, fz1_prim, fz1_frz, fz1_ref, fz1_fn, fz1_sref, fz1_old, fzB_some, chkA, finM_BR, ext_mv, apB1_frz, apM_false, apM_true, tys, Tryd.results46, KX_draw, KX_drawQ, callP_eq, callM_true, digA, e0, e5, e23, e24, e25, d2, hd', hiw, hx', hin, hws, hov, Nat.mul_one]
      exact IH (i + 1, out.set i (x + d)) _ (by first | omega | (simp only; omega)) ⟨rfl, by first | omega | (dsimp only; omega), hp.step (by first | omega | (dsimp only; omega)) hx hd, (by first | rfl | simp only [getT, List.map_append, List.map_cons, List.map_nil, digC, digA]), (by first | rfl | simp only [getT, List.map_append, List.map_cons, List.map_nil, digC, digA]), (by first | rfl | simp only [getT, List.map_append, List.map_cons, List.map_nil, digC, digA]), (by first | rfl | simp only [getT, List.map_append, List.map_cons, List.map_nil, digC, digA]), (by first | rfl | simp only [getT, List.map_append, List.map_cons, List.map_nil, digC, digA]), (by first | rfl | simp only [getT, List.map_append, List.map_cons, List.map_nil, digC, digA])⟩
    · have d2 : decide ((i : Int) < ((dig a).length : Int)) = false := by simpa using hlt
      have he : i = (dig a).length := by omega
      subst he
      have hp2 := Plus2.start hp
      clear IH hp
      simp (maxSteps := 1000000) +contextual (disch := first | with_reducible assumption | exact ⟨rfl⟩ | (refine _root_.id ?_; kernel_rfl) | omega) only [KX_seq, KX_skip, KX_exit, KX_ret, KX_if, KX_block, KX_region, CX_seq, CX_block, CX_loop, CX_exit_seq, CX_exit_block, CX_exit_loop, CX_ret, CX_ret_nil, CX_normal_nil, NX_some, NS_some, BR_true, BR_false, BR_not, fin1_BR, finS_BR, RX_nil, RX_guard, RX_move, RX_assign, RX_pick, RX_bin, RX_un, RX_conv, RX_extract, RX_field, RX_indexAddr, RX_fieldAddr, RX_index, RX_build, RX_buildSlice, RX_slice, RX_makeFunc, RX_load, RX_store, RX_alloc, RX_box, RX_append, RX_len, RX_call, RX_callV, wantD_some, wantV_bool, wantV_undef, DX_zero, DX_succ, asB_bool, nth, put, putT, getT, opv_tmp, opv_const, opv_func, cst_int, cst_bool, cst_string, cst_nil, cst_ptr, pickA_true, pickA_false, pickA_bool, extA_tup, fldV_agg, bldA_some, litA_some, callV_fn, aBin_int, aBin_str, aBin_bool, binInt, binStr, binBool, aUn, outA, resA, mapO, resA1, oneOf, fin1_some, finS_some, w1, w2, w3, bots, lenV_str, lenV_frz, lenV_sref, List.map_cons, List.map_nil, List.cons_append, List.nil_append, List.length_cons, List.length_nil, List.toList_toArray, Option.map_some, Option.map_none, Option.bind_some, Option.bind_none, Option.isSome_some, beq_true, beq_false, Bool.true_and, Bool.false_and, Bool.and_true, Bool.and_false, Bool.true_or, Bool.or_true, Bool.false_or, Bool.or_false, Bool.not_true, Bool.not_false, cond_true, cond_false, if_true, if_false, ite_true, ite_false, reduceIte, reduceCtorEq, Bool.false_eq_true, true_implies, false_implies, implies_true, and_true, true_and, Nat.reduceAdd, Nat.reduceSub, AV.int, AV.bool, AV.str, Nat.zero_add, fin1_NX_not, fin1_NX_if, fin1_NS_not, fin1_NS_if, finS_NX_not, finS_NX_if, finS_NS_not, finS_NS_if, Option.some.injEq, AV.tup.injEq, AV.prim.injEq, AV.agg.injEq, AV.frz.injEq, Value.int.injEq, Value.bool.injEq, Value.string.injEq, List.cons.injEq, decide_true, decide_false, List.take_zero, List.take_nil, List.take_succ_cons, Nat.reduceBEq, Nat.reduceEqDiff, Nat.reduceMul, Nat.reduceLT, Nat.reduceLeDiff, Int.reduceNeg, BEq.rfl, beq_self_eq_true, tabl, cellsOf, fldA, ldA, stA, entAt, partA, takeN, over, leafOk, List.all_cons, List.all_nil, Value.oneCell', List.drop_zero, List.drop_succ_cons, List.drop_nil, List.length_map, idxA, intN_cast, intN_zero, aBin_agg, aggB_eql, aggB_neq, aBin_nil, nilB_eql, nilB_neq, nilA, cellsEq, cellEq_int, cellEq_str, cellEq_bool, apA_eq, apB_one, apB_all, entAt_mid, put_new, put_mid, take_two, fillA, elemsA, pure1, pure2, List.replicate_succ, List.replicate_zero, reps, aConv_int, convI_some, aConv_str, RX_makeSlice, RX_makeSlice0, RX_copy, RX_appendS, RX_nilCheck, RX_min, RX_max, cvA_int, cvA_str, minA_int, maxA_int, aBin_refNil, aBin_fptrNil, aBin_nilNil, ptrNil_eql, ptrNil_neq, fz3_tup, fz3_agg, fz3_prim, fz3_frz, fz3_ref, fz3_fn, fz3_sref, fz2_agg, fz2_prim, fz2_frz, fz2_ref, fz2_fn, fz2_sref, fz1_prim, fz1_frz, fz1_ref, fz1_fn, fz1_sref, fz1_old, fzB_some, chkA, finM_BR, ext_mv, apB1_frz, apM_false, apM_true, tys, Tryd.results46, KX_draw, KX_drawQ, callP_eq, callM_true, digA, e0, e5, e23, e24, e25, d2]
      refine loop1 (fun x st => st.T.length = 64 ∧ (x.1 ≤ (dig b).length) ∧ (Plus2 (b + a) (dig b).length x.1 x.2) ∧ getT st.T 5 = .sref 0 0 0 ((dig b).length + 1) 1 ∧ getT st.T 39 = .int (dig b).length ∧ getT st.T 40 = .int (x.1 : Nat) ∧ st.S = [⟨0, x.2.map numC⟩]) (fun x => (dig b).length - x.1) (fun x => digA (dig (b + a))) (0, out) ?_ ?_
      case refine_2 => exact ⟨rfl, Nat.zero_le _, hp2, rfl, rfl, rfl, rfl⟩
      rintro ⟨i, out⟩ ⟨T, S', tk', n'⟩ ⟨hl, hi, hp, e5, e39, e40, eS⟩ IH
      simp only at hi hp e5 e39 e40 eS
      subst eS
      obtain ⟨g, hg, hT⟩ := tab_of hl
      rw [hg] at e5 e39 e40
      subst hT
      clear hg hl
      clear hlen
      have hlen := hp.len
      by_cases hlt : i < (dig b).length
      · have d2 : decide ((i : Int) < ((dig b).length : Int)) = true := by simpa using hlt
        have hiw := wrap_add (i := i) (by omega)
        obtain ⟨x, hx⟩ := nth_some (show i < out.length by omega)
        have hx' := nth_num hx
        have hin : i < (dig b).length + 1 := by omega
        have hin2 : i + 1 < (dig b).length + 1 := by omega
        have hk := hp.ok i x hx
        have hx2 := hk.2.2.1 rfl
        by_cases hbig : 10000 ≤ x
        · have d3 : decide (x ≥ 10000) = true := by simpa using hbig
          obtain ⟨y, hy⟩ := nth_some (show i + 1 < (out.set i (x - 10000)).length by rw [List.length_set]; omega)
          have hy' := nth_num hy
          have hyk := hp.ok (i + 1) y (by
            rcases set_same hy with ⟨e, -⟩ | ⟨-, hy⟩
            · omega
            · exact hy)
          have hy2 := hyk.2.2.2.1 (by omega)
          have hw1 : IntKind.i64.wrap (x - 10000) = x - 10000 := wrap_of (by unfold i64; omega)
          have hw2 : IntKind.i64.wrap (y + 1) = y + 1 := wrap_of (by unfold i64; omega)
          have hov := over_num (v := x - 10000) hx
          have hov2 := over_num (v := y + 1) hy
          simp (maxSteps := 1000000) +contextual (disch := first | with_reducible assumption | exact ⟨rfl⟩ | (refine _root_.id ?_; kernel_rfl) | omega) only [KX_seq, KX_skip, KX_exit, KX_ret, KX_if, KX_block, KX_region, CX_seq, CX_block, CX_loop, CX_exit_seq, CX_exit_block, CX_exit_loop, CX_ret, CX_ret_nil, CX_normal_nil, NX_some, NS_some, BR_true, BR_false, BR_not, fin1_BR, finS_BR, RX_nil, RX_guard, RX_move, RX_assign, RX_pick, RX_bin, RX_un, RX_conv, RX_extract, RX_field, RX_indexAddr, RX_fieldAddr, RX_index, RX_build, RX_buildSlice, RX_slice, RX_makeFunc, RX_load, RX_store, RX_alloc, RX_box, RX_append, RX_len, RX_call, RX_callV, wantD_some, wantV_bool, wantV_undef, DX_zero, DX_succ, asB_bool, nth, put, putT, getT, opv_tmp, opv_const, opv_func, cst_int, cst_bool, cst_string, cst_nil, cst_ptr, pickA_true, pickA_false, pickA_bool, extA_tup, fldV_agg, bldA_some, litA_some, callV_fn, aBin_int, aBin_str, aBin_bool, binInt, binStr, binBool, aUn, outA, resA, mapO, resA1, oneOf, fin1_some, finS_some, w1, w2, w3, bots, lenV_str, lenV_frz, lenV_sref, List.map_cons, List.map_nil, List.cons_append, List.nil_append, List.length_cons, List.length_nil, List.toList_toArray, Option.map_some, Option.map_none, Option.bind_some, Option.bind_none, Option.isSome_some, beq_true, beq_false, Bool.true_and, Bool.false_and, Bool.and_true, Bool.and_false, Bool.true_or, Bool.or_true, Bool.false_or, Bool.or_false, Bool.not_true, Bool.not_false, cond_true, cond_false, if_true, if_false, ite_true, ite_false, reduceIte, reduceCtorEq, Bool.false_eq_true, true_implies, false_implies, implies_true, and_true, true_and, Nat.reduceAdd, Nat.reduceSub, AV.int, AV.bool, AV.str, Nat.zero_add, fin1_NX_not, fin1_NX_if, fin1_NS_not, fin1_NS_if, finS_NX_not, finS_NX_if, finS_NS_not, finS_NS_if, Option.some.injEq, AV.tup.injEq, AV.prim.injEq, AV.agg.injEq, AV.frz.injEq, Value.int.injEq, Value.bool.injEq, Value.string.injEq, List.cons.injEq, decide_true, decide_false, List.take_zero, List.take_nil, List.take_succ_cons, Nat.reduceBEq, Nat.reduceEqDiff, Nat.reduceMul, Nat.reduceLT, Nat.reduceLeDiff, Int.reduceNeg, BEq.rfl, beq_self_eq_true, tabl, cellsOf, fldA, ldA, stA, entAt, partA, takeN, over, leafOk, List.all_cons, List.all_nil, Value.oneCell', List.drop_zero, List.drop_succ_cons, List.drop_nil, List.length_map, idxA, intN_cast, intN_zero, aBin_agg, aggB_eql, aggB_neq, aBin_nil, nilB_eql, nilB_neq, nilA, cellsEq, cellEq_int, cellEq_str, cellEq_bool, apA_eq, apB_one, apB_all, entAt_mid, put_new, put_mid, take_two, fillA, elemsA, pure1, pure2, List.replicate_succ, List.replicate_zero, reps, aConv_int, convI_some, aConv_str, RX_makeSlice, RX_makeSlice0, RX_copy, RX_appendS, RX_nilCheck, RX_min, RX_max, cvA_int, cvA_str, minA_int, maxA_int, aBin_refNil, aBin_fptrNil, aBin_nilNil, ptrNil_eql, ptrNil_neq, fz3_tup, fz3_agg, fz3_prim, fz3_frz, fz3_ref, fz3_fn, fz3_sref, fz2_agg, fz2_prim, fz2_frz, fz2_ref, fz2_fn, fz2_sref, fz1_prim, fz1_frz, fz1_ref, fz1_fn, fz1_sref, fz1_old, fzB_some, chkA, finM_BR, ext_mv, apB1_frz, apM_false, apM_true, tys, Tryd.results46, KX_draw, KX_drawQ, callP_eq, callM_true, digA, e5, e39, e40, d2, d3, hiw, hx', hy', hin, hin2, hw1, hw2, hov, hov2, Nat.mul_one]
          exact IH (i + 1, (out.set i (x - 10000)).set (i + 1) (y + 1)) _ (by first | omega | (simp only; omega)) ⟨rfl, by first | omega | (dsimp only; omega), hp.big hlt hx hbig hy, (by first | rfl | simp only [getT, List.map_append, List.map_cons, List.map_nil, digC, digA]), (by first | rfl | simp only [getT, List.map_append, List.map_cons, List.map_nil, digC, digA]), (by first | rfl | simp only [getT, List.map_append, List.map_cons, List.map_nil, digC, digA]), (by first | rfl | simp only [getT, List.map_append, List.map_cons, List.map_nil, digC, digA])⟩
        · have d3 : decide (x ≥ 10000) = false := by simp; omega
          simp (maxSteps := 1000000) +contextual (disch := first | with_reducible assumption | exact ⟨rfl⟩ | (refine _root_.id ?_; kernel_rfl) | omega) only [KX_seq, KX_skip, KX_exit, KX_ret, KX_if, KX_block, KX_region, CX_seq, CX_block, CX_loop, CX_exit_seq, CX_exit_block, CX_exit_loop, CX_ret, CX_ret_nil, CX_normal_nil, NX_some, NS_some, BR_true, BR_false, BR_not, fin1_BR, finS_BR, RX_nil, RX_guard, RX_move, RX_assign, RX_pick, RX_bin, RX_un, RX_conv, RX_extract, RX_field, RX_indexAddr, RX_fieldAddr, RX_index, RX_build, RX_buildSlice, RX_slice, RX_makeFunc, RX_load, RX_store, RX_alloc, RX_box, RX_append, RX_len, RX_call, RX_callV, wantD_some, wantV_bool, wantV_undef, DX_zero, DX_succ, asB_bool, nth, put, putT, getT, opv_tmp, opv_const, opv_func, cst_int, cst_bool, cst_string, cst_nil, cst_ptr, pickA_true, pickA_false, pickA_bool, extA_tup, fldV_agg, bldA_some, litA_some, callV_fn, aBin_int, aBin_str, aBin_bool, binInt, binStr, binBool, aUn, outA, resA, mapO, resA1, oneOf, fin1_some, finS_some, w1, w2, w3, bots, lenV_str, lenV_frz, lenV_sref, List.map_cons, List.map_nil, List.cons_append, List.nil_append, List.length_cons, List.length_nil, List.toList_toArray, Option.map_some, Option.map_none, Option.bind_some, Option.bind_none, Option.isSome_some, beq_true, beq_false, Bool.true_and, Bool.false_and, Bool.and_true, Bool.and_false, Bool.true_or, Bool.or_true, Bool.false_or, Bool.or_false, Bool.not_true, Bool.not_false, cond_true, cond_false, if_true, if_false, ite_true, ite_false, reduceIte, reduceCtorEq, Bool.false_eq_true, true_implies, false_implies, implies_true, and_true, true_and, Nat.reduceAdd, Nat.reduceSub, AV.int, AV.bool, AV.str, Nat.zero_add, fin1_NX_not, fin1_NX_if, fin1_NS_not, fin1_NS_if, finS_NX_not, finS_NX_if, finS_NS_not, finS_NS_if, Option.some.injEq, AV.tup.injEq, AV.prim.injEq, AV.agg.injEq, AV.frz.injEq, Value.int.injEq, Value.bool.injEq, Value.string.injEq, List.cons.injEq, decide_true, decide_false, List.take_zero, List.take_nil, List.take_succ_cons, Nat.reduceBEq, Nat.reduceEqDiff, Nat.reduceMul, Nat.reduceLT, Nat.reduceLeDiff, Int.reduceNeg, BEq.rfl, beq_self_eq_true, tabl, cellsOf, fldA, ldA, stA, entAt, partA, takeN, over, leafOk, List.all_cons, List.all_nil, Value.oneCell', List.drop_zero, List.drop_succ_cons, List.drop_nil, List.length_map, idxA, intN_cast, intN_zero, aBin_agg, aggB_eql, aggB_neq, aBin_nil, nilB_eql, nilB_neq, nilA, cellsEq, cellEq_int, cellEq_str, cellEq_bool, apA_eq, apB_one, apB_all, entAt_mid, put_new, put_mid, take_two, fillA, elemsA, pure1, pure2, List.replicate_succ, List.replicate_zero, reps, aConv_int, convI_some, aConv_str, RX_makeSlice, RX_makeSlice0, RX_copy, RX_appendS, RX_nilCheck, RX_min, RX_max, cvA_int, cvA_str, minA_int, maxA_int, aBin_refNil, aBin_fptrNil, aBin_nilNil, ptrNil_eql, ptrNil_neq, fz3_tup, fz3_agg, fz3_prim, fz3_frz, fz3_ref, fz3_fn, fz3_sref, fz2_agg, fz2_prim, fz2_frz, fz2_ref, fz2_fn, fz2_sref, fz1_prim, fz1_frz, fz1_ref, fz1_fn, fz1_sref, fz1_old, fzB_some, chkA, finM_BR, ext_mv, apB1_frz, apM_false, apM_true, tys, Tryd.results46, KX_draw, KX_drawQ, callP_eq, callM_true, digA, e5, e39, e40, d2, d3, hiw, hx', hin, Nat.mul_one]
          exact IH (i + 1, out) _ (by first | omega | (simp only; omega)) ⟨rfl, by first | omega | (dsimp only; omega), hp.small hlt hx (by first | omega | (dsimp only; omega)), (by first | rfl | simp only [getT, List.map_append, List.map_cons, List.map_nil, digC, digA]), (by first | rfl | simp only [getT, List.map_append, List.map_cons, List.map_nil, digC, digA]), (by first | rfl | simp only [getT, List.map_append, List.map_cons, List.map_nil, digC, digA]), (by first | rfl | simp only [getT, List.map_append, List.map_cons, List.map_nil, digC, digA])⟩
      · have d2 : decide ((i : Int) < ((dig b).length : Int)) = false := by simpa using hlt
        have he : i = (dig b).length := by omega
        subst he
        have hdone := hp.done
        have hT := fun tk k => big_trim_own [⟨0, out.map numC⟩] tk k out 0 0 (by omega) rfl
        rw [hlen] at hT
        have hfz := fz_num (m := 0) (id := 0) (ep := 0) (S := [⟨0, out.map numC⟩]) (Nat.le_refl _) rfl (trim_len out)
        rw [← trim_is_take, hdone] at hfz
        rw [hdone] at hT
        simp (maxSteps := 1000000) +contextual (disch := first | with_reducible assumption | exact ⟨rfl⟩ | (refine _root_.id ?_; kernel_rfl) | omega) only [KX_seq, KX_skip, KX_exit, KX_ret, KX_if, KX_block, KX_region, CX_seq, CX_block, CX_loop, CX_exit_seq, CX_exit_block, CX_exit_loop, CX_ret, CX_ret_nil, CX_normal_nil, NX_some, NS_some, BR_true, BR_false, BR_not, fin1_BR, finS_BR, RX_nil, RX_guard, RX_move, RX_assign, RX_pick, RX_bin, RX_un, RX_conv, RX_extract, RX_field, RX_indexAddr, RX_fieldAddr, RX_index, RX_build, RX_buildSlice, RX_slice, RX_makeFunc, RX_load, RX_store, RX_alloc, RX_box, RX_append, RX_len, RX_call, RX_callV, wantD_some, wantV_bool, wantV_undef, DX_zero, DX_succ, asB_bool, nth, put, putT, getT, opv_tmp, opv_const, opv_func, cst_int, cst_bool, cst_string, cst_nil, cst_ptr, pickA_true, pickA_false, pickA_bool, extA_tup, fldV_agg, bldA_some, litA_some, callV_fn, aBin_int, aBin_str, aBin_bool, binInt, binStr, binBool, aUn, outA, resA, mapO, resA1, oneOf, fin1_some, finS_some, w1, w2, w3, bots, lenV_str, lenV_frz, lenV_sref, List.map_cons, List.map_nil, List.cons_append, List.nil_append, List.length_cons, List.length_nil, List.toList_toArray, Option.map_some, Option.map_none, Option.bind_some, Option.bind_none, Option.isSome_some, beq_true, beq_false, Bool.true_and, Bool.false_and, Bool.and_true, Bool.and_false, Bool.true_or, Bool.or_true, Bool.false_or, Bool.or_false, Bool.not_true, Bool.not_false, cond_true, cond_false, if_true, if_false, ite_true, ite_false, reduceIte, reduceCtorEq, Bool.false_eq_true, true_implies, false_implies, implies_true, and_true, true_and, Nat.reduceAdd, Nat.reduceSub, AV.int, AV.bool, AV.str, Nat.zero_add, fin1_NX_not, fin1_NX_if, fin1_NS_not, fin1_NS_if, finS_NX_not, finS_NX_if, finS_NS_not, finS_NS_if, Option.some.injEq, AV.tup.injEq, AV.prim.injEq, AV.agg.injEq, AV.frz.injEq, Value.int.injEq, Value.bool.injEq, Value.string.injEq, List.cons.injEq, decide_true, decide_false, List.take_zero, List.take_nil, List.take_succ_cons, Nat.reduceBEq, Nat.reduceEqDiff, Nat.reduceMul, Nat.reduceLT, Nat.reduceLeDiff, Int.reduceNeg, BEq.rfl, beq_self_eq_true, tabl, cellsOf, fldA, ldA, stA, entAt, partA, takeN, over, leafOk, List.all_cons, List.all_nil, Value.oneCell', List.drop_zero, List.drop_succ_cons, List.drop_nil, List.length_map, idxA, intN_cast, intN_zero, aBin_agg, aggB_eql, aggB_neq, aBin_nil, nilB_eql, nilB_neq, nilA, cellsEq, cellEq_int, cellEq_str, cellEq_bool, apA_eq, apB_one, apB_all, entAt_mid, put_new, put_mid, take_two, fillA, elemsA, pure1, pure2, List.replicate_succ, List.replicate_zero, reps, aConv_int, convI_some, aConv_str, RX_makeSlice, RX_makeSlice0, RX_copy, RX_appendS, RX_nilCheck, RX_min, RX_max, cvA_int, cvA_str, minA_int, maxA_int, aBin_refNil, aBin_fptrNil, aBin_nilNil, ptrNil_eql, ptrNil_neq, fz3_tup, fz3_agg, fz3_prim, fz3_frz, fz3_ref, fz3_fn, fz3_sref, fz2_agg, fz2_prim, fz2_frz, fz2_ref, fz2_fn, fz2_sref, fz1_prim, fz1_frz, fz1_ref, fz1_fn, fz1_sref, fz1_old, fzB_some, chkA, finM_BR, ext_mv, apB1_frz, apM_false, apM_true, tys, Tryd.results46, KX_draw, KX_drawQ, callP_eq, callM_true, digA, e5, e39, e40, d2, hT, hfz]
  · have d1 : decide (((dig a).length : Int) < ((dig b).length : Int)) = false := by simp; omega
    have hw : IntKind.i64.wrap (((dig a).length : Int) + 1) = (((dig a).length + 1 : Nat) : Int) := wrap_add (by omega)
    have hbo : (elemOf Tryd.prog 22).bind (bytesOf Tryd.prog) = some 8 := by kernel_rfl
    have hmk := mk_num (P := Tryd.prog) (t := 22) (n := (dig a).length + 1) (by simp only [tys, Option.bind_some]) (by simp only [tys, Option.bind_some]) hbo (by omega)
    have hcp := cp_num (P := Tryd.prog) (t := 22) (n := (dig a).length + 1) (id := 0) (ep := 0) (l := dig a) (c := .unk) (S := [⟨0, zeroC ((dig a).length + 1)⟩]) (by simp only [tys, Option.bind_some]) (by omega) rfl
    simp (maxSteps := 1000000) +contextual (disch := first | with_reducible assumption | exact ⟨rfl⟩ | (refine _root_.id ?_; kernel_rfl) | omega) only [KX_seq, KX_skip, KX_exit, KX_ret, KX_if, KX_block, KX_region, CX_seq, CX_block, CX_loop, CX_exit_seq, CX_exit_block, CX_exit_loop, CX_ret, CX_ret_nil, CX_normal_nil, NX_some, NS_some, BR_true, BR_false, BR_not, fin1_BR, finS_BR, RX_nil, RX_guard, RX_move, RX_assign, RX_pick, RX_bin, RX_un, RX_conv, RX_extract, RX_field, RX_indexAddr, RX_fieldAddr, RX_index, RX_build, RX_buildSlice, RX_slice, RX_makeFunc, RX_load, RX_store, RX_alloc, RX_box, RX_append, RX_len, RX_call, RX_callV, wantD_some, wantV_bool, wantV_undef, DX_zero, DX_succ, asB_bool, nth, put, putT, getT, opv_tmp, opv_const, opv_func, cst_int, cst_bool, cst_string, cst_nil, cst_ptr, pickA_true, pickA_false, pickA_bool, extA_tup, fldV_agg, bldA_some, litA_some, callV_fn, aBin_int, aBin_str, aBin_bool, binInt, binStr, binBool, aUn, outA, resA, mapO, resA1, oneOf, fin1_some, finS_some, w1, w2, w3, bots, lenV_str, lenV_frz, lenV_sref, List.map_cons, List.map_nil, List.cons_append, List.nil_append, List.length_cons, List.length_nil, List.toList_toArray, Option.map_some, Option.map_none, Option.bind_some, Option.bind_none, Option.isSome_some, beq_true, beq_false, Bool.true_and, Bool.false_and, Bool.and_true, Bool.and_false, Bool.true_or, Bool.or_true, Bool.false_or, Bool.or_false, Bool.not_true, Bool.not_false, cond_true, cond_false, if_true, if_false, ite_true, ite_false, reduceIte, reduceCtorEq, Bool.false_eq_true, true_implies, false_implies, implies_true, and_true, true_and, Nat.reduceAdd, Nat.reduceSub, AV.int, AV.bool, AV.str, Nat.zero_add, fin1_NX_not, fin1_NX_if, fin1_NS_not, fin1_NS_if, finS_NX_not, finS_NX_if, finS_NS_not, finS_NS_if, Option.some.injEq, AV.tup.injEq, AV.prim.injEq, AV.agg.injEq, AV.frz.injEq, Value.int.injEq, Value.bool.injEq, Value.string.injEq, List.cons.injEq, decide_true, decide_false, List.take_zero, List.take_nil, List.take_succ_cons, Nat.reduceBEq, Nat.reduceEqDiff, Nat.reduceMul, Nat.reduceLT, Nat.reduceLeDiff, Int.reduceNeg, BEq.rfl, beq_self_eq_true, tabl, cellsOf, fldA, ldA, stA, entAt, partA, takeN, over, leafOk, List.all_cons, List.all_nil, Value.oneCell', List.drop_zero, List.drop_succ_cons, List.drop_nil, List.length_map, idxA, intN_cast, intN_zero, aBin_agg, aggB_eql, aggB_neq, aBin_nil, nilB_eql, nilB_neq, nilA, cellsEq, cellEq_int, cellEq_str, cellEq_bool, apA_eq, apB_one, apB_all, entAt_mid, put_new, put_mid, take_two, fillA, elemsA, pure1, pure2, List.replicate_succ, List.replicate_zero, reps, aConv_int, convI_some, aConv_str, RX_makeSlice, RX_makeSlice0, RX_copy, RX_appendS, RX_nilCheck, RX_min, RX_max, cvA_int, cvA_str, minA_int, maxA_int, aBin_refNil, aBin_fptrNil, aBin_nilNil, ptrNil_eql, ptrNil_neq, fz3_tup, fz3_agg, fz3_prim, fz3_frz, fz3_ref, fz3_fn, fz3_sref, fz2_agg, fz2_prim, fz2_frz, fz2_ref, fz2_fn, fz2_sref, fz1_prim, fz1_frz, fz1_ref, fz1_fn, fz1_sref, fz1_old, fzB_some, chkA, finM_BR, ext_mv, apB1_frz, apM_false, apM_true, tys, Tryd.results46, KX_draw, KX_drawQ, callP_eq, callM_true, digA, d1, hw, hmk, hcp]
    refine loop1 (fun x st => st.T.length = 64 ∧ (x.1 ≤ (dig b).length) ∧ (Plus1 a b (dig a).length x.1 x.2) ∧ getT st.T 0 = digA (dig a) ∧ getT st.T 5 = .sref 0 0 0 ((dig a).length + 1) 1 ∧ getT st.T 23 = digA (dig b) ∧ getT st.T 24 = .int (dig b).length ∧ getT st.T 25 = .int (x.1 : Nat) ∧ st.S = [⟨0, x.2.map numC⟩]) (fun x => (dig b).length - x.1) (fun x => digA (dig (a + b))) (0, padL (dig a) ((dig a).length + 1)) ?_ ?_
    case refine_2 => exact ⟨rfl, Nat.zero_le _, Plus1.start, rfl, rfl, rfl, rfl, rfl, rfl⟩
    rintro ⟨i, out⟩ ⟨T, S', tk', n'⟩ ⟨hl, hi, hp, e0, e5, e23, e24, e25, eS⟩ IH
    simp only at hi hp e0 e5 e23 e24 e25 eS
    subst eS
    obtain ⟨g, hg, hT⟩ := tab_of hl
    rw [hg] at e0 e5 e23 e24 e25
    subst hT
    clear hg hl
    have hlen := hp.len
    by_cases hlt : i < (dig b).length
    · have d2 : decide ((i : Int) < ((dig b).length : Int)) = true := by simpa using hlt
      obtain ⟨d, hd⟩ := nth_some hlt
      have hd' := nth_dig hd
      have hiw := wrap_add (i := i) (by omega)
      obtain ⟨x, hx⟩ := nth_some (show i < out.length by omega)
      have hx' := nth_num hx
      have hin : i < (dig a).length + 1 := by omega
      have hxd := (hp.ok i x hx).2.2.1 (Nat.le_refl _)
      have hx0 := (hp.ok i x hx).1
      have hdk := of_okD (okD_dig b) hd
      have hws : IntKind.i64.wrap (x + d) = x + d := wrap_of (by unfold i64; omega)
      have hov := over_num (v := x + d) hx
      simp (maxSteps := 1000000) +contextual (disch := first | with_reducible assumption | exact ⟨rfl⟩ | (refine _root_.id ?_; kernel_rfl) | omega) only [KX_seq, KX_skip, KX_exit, KX_ret, KX_if, KX_block, KX_region, CX_seq, CX_block, CX_loop, CX_exit_seq, CX_exit_block, CX_exit_loop, CX_ret, CX_ret_nil, CX_normal_nil, NX_some, NS_some, BR_true, BR_false, BR_not, fin1_BR, finS_BR, RX_nil, RX_guard, RX_move, RX_assign, RX_pick, RX_bin, RX_un, RX_conv, RX_extract, RX_field, RX_indexAddr, RX_fieldAddr, RX_index, RX_build, RX_buildSlice, RX_slice, RX_makeFunc, RX_load, RX_store, RX_alloc, RX_box, RX_append, RX_len, RX_call, RX_callV, wantD_some, wantV_bool, wantV_undef, DX_zero, DX_succ, asB_bool, nth, put, putT, getT, opv_tmp, opv_const, opv_func, cst_int, cst_bool, cst_string, cst_nil, cst_ptr, pickA_true, pickA_false, pickA_bool, extA_tup, fldV_agg, bldA_some, litA_some, callV_fn, aBin_int, aBin_str, aBin_bool, binInt, binStr, binBool, aUn, outA, resA, mapO, resA1, oneOf, fin1_some, finS_some, w1, w2, w3, bots, lenV_str, lenV_frz, lenV_sref, List.map_cons, List.map_nil, List.cons_append, List.nil_append, List.length_cons, List.length_nil, List.toList_toArray, Option.map_some, Option.map_none, Option.bind_some, Option.bind_none, Option.isSome_some, beq_true, beq_false, Bool.true_and, Bool.false_and, Bool.and_true, Bool.and_false, Bool.true_or, Bool.or_true, Bool.false_or, Bool.or_false, Bool.not_true, Bool.not_false, cond_true, cond_false, if_true, if_false, ite_true, ite_false, reduceIte, reduceCtorEq, Bool.false_eq_true, true_implies, false_implies, implies_true, and_true, true_and, Nat.reduceAdd, Nat.reduceSub, AV.int, AV.bool, AV.str, Nat.zero_add, fin1_NX_not, fin1_NX_if, fin1_NS_not, fin1_NS_if, finS_NX_not, finS_NX_if, finS_NS_not, finS_NS_if, Option.some.injEq, AV.tup.injEq, AV.prim.injEq, AV.agg.injEq, AV.frz.injEq, Value.int.injEq, Value.bool.injEq, Value.string.injEq, List.cons.injEq, decide_true, decide_false, List.take_zero, List.take_nil, List.take_succ_cons, Nat.reduceBEq, Nat.reduceEqDiff, Nat.reduceMul, Nat.reduceLT, Nat.reduceLeDiff, Int.reduceNeg, BEq.rfl, beq_self_eq_true, tabl, cellsOf, fldA, ldA, stA, entAt, partA, takeN, over, leafOk, List.all_cons, List.all_nil, Value.oneCell', List.drop_zero, List.drop_succ_cons, List.drop_nil, List.length_map, idxA, intN_cast, intN_zero, aBin_agg, aggB_eql, aggB_neq, aBin_nil, nilB_eql, nilB_neq, nilA, cellsEq, cellEq_int, cellEq_str, cellEq_bool, apA_eq, apB_one, apB_all, entAt_mid, put_new, put_mid, take_two, fillA, elemsA, pure1, pure2, List.replicate_succ, List.replicate_zero, reps, aConv_int, convI_some, aConv_str, RX_makeSlice, RX_makeSlice0, RX_copy, RX_appendS, RX_nilCheck, RX_min, RX_max, cvA_int, cvA_str, minA_int, maxA_int, aBin_refNil, aBin_fptrNil, aBin_nilNil, ptrNil_eql, ptrNil_neq, fz3_tup, fz3_agg, fz3_prim, fz3_frz, fz3_ref, fz3_fn, fz3_sref, fz2_agg, fz2_prim, fz2_frz, fz2_ref, fz2_fn, fz2_sref, fz1_prim, fz1_frz, fz1_ref, fz1_fn, fz1_sref, fz1_old, fzB_some, chkA, finM_BR, ext_mv, apB1_frz, apM_false, apM_true, tys, Tryd.results46, KX_draw, KX_drawQ, callP_eq, callM_true, digA, e0, e5, e23, e24, e25, d2, hd', hiw, hx', hin, hws, hov, Nat.mul_one]
      exact IH (i + 1, out.set i (x + d)) _ (by first | omega | (simp only; omega)) ⟨rfl, by first | omega | (dsimp only; omega), hp.step (by first | omega | (dsimp only; omega)) hx hd, (by first | rfl | simp only [getT, List.map_append, List.map_cons, List.map_nil, digC, digA]), (by first | rfl | simp only [getT, List.map_append, List.map_cons, List.map_nil, digC, digA]), (by first | rfl | simp only [getT, List.map_append, List.map_cons, List.map_nil, digC, digA]), (by first | rfl | simp only [getT, List.map_append, List.map_cons, List.map_nil, digC, digA]), (by first | rfl | simp only [getT, List.map_append, List.map_cons, List.map_nil, digC, digA]), (by first | rfl | simp only [getT, List.map_append, List.map_cons, List.map_nil, digC, digA])⟩
    · have d2 : decide ((i : Int) < ((dig b).length : Int)) = false := by simpa using hlt
      have he : i = (dig b).length := by omega
      subst he
      have hp2 := Plus2.start hp
      clear IH hp
      simp (maxSteps := 1000000) +contextual (disch := first | with_reducible assumption | exact ⟨rfl⟩ | (refine _root_.id ?_; kernel_rfl) | omega) only [KX_seq, KX_skip, KX_exit, KX_ret, KX_if, KX_block, KX_region, CX_seq, CX_block, CX_loop, CX_exit_seq, CX_exit_block, CX_exit_loop, CX_ret, CX_ret_nil, CX_normal_nil, NX_some, NS_some, BR_true, BR_false, BR_not, fin1_BR, finS_BR, RX_nil, RX_guard, RX_move, RX_assign, RX_pick, RX_bin, RX_un, RX_conv, RX_extract, RX_field, RX_indexAddr, RX_fieldAddr, RX_index, RX_build, RX_buildSlice, RX_slice, RX_makeFunc, RX_load, RX_store, RX_alloc, RX_box, RX_append, RX_len, RX_call, RX_callV, wantD_some, wantV_bool, wantV_undef, DX_zero, DX_succ, asB_bool, nth, put, putT, getT, opv_tmp, opv_const, opv_func, cst_int, cst_bool, cst_string, cst_nil, cst_ptr, pickA_true, pickA_false, pickA_bool, extA_tup, fldV_agg, bldA_some, litA_some, callV_fn, aBin_int, aBin_str, aBin_bool, binInt, binStr, binBool, aUn, outA, resA, mapO, resA1, oneOf, fin1_some, finS_some, w1, w2, w3, bots, lenV_str, lenV_frz, lenV_sref, List.map_cons, List.map_nil, List.cons_append, List.nil_append, List.length_cons, List.length_nil, List.toList_toArray, Option.map_some, Option.map_none, Option.bind_some, Option.bind_none, Option.isSome_some, beq_true, beq_false, Bool.true_and, Bool.false_and, Bool.and_true, Bool.and_false, Bool.true_or, Bool.or_true, Bool.false_or, Bool.or_false, Bool.not_true, Bool.not_false, cond_true, cond_false, if_true, if_false, ite_true, ite_false, reduceIte, reduceCtorEq, Bool.false_eq_true, true_implies, false_implies, implies_true, and_true, true_and, Nat.reduceAdd, Nat.reduceSub, AV.int, AV.bool, AV.str, Nat.zero_add, fin1_NX_not, fin1_NX_if, fin1_NS_not, fin1_NS_if, finS_NX_not, finS_NX_if, finS_NS_not, finS_NS_if, Option.some.injEq, AV.tup.injEq, AV.prim.injEq, AV.agg.injEq, AV.frz.injEq, Value.int.injEq, Value.bool.injEq, Value.string.injEq, List.cons.injEq, decide_true, decide_false, List.take_zero, List.take_nil, List.take_succ_cons, Nat.reduceBEq, Nat.reduceEqDiff, Nat.reduceMul, Nat.reduceLT, Nat.reduceLeDiff, Int.reduceNeg, BEq.rfl, beq_self_eq_true, tabl, cellsOf, fldA, ldA, stA, entAt, partA, takeN, over, leafOk, List.all_cons, List.all_nil, Value.oneCell', List.drop_zero, List.drop_succ_cons, List.drop_nil, List.length_map, idxA, intN_cast, intN_zero, aBin_agg, aggB_eql, aggB_neq, aBin_nil, nilB_eql, nilB_neq, nilA, cellsEq, cellEq_int, cellEq_str, cellEq_bool, apA_eq, apB_one, apB_all, entAt_mid, put_new, put_mid, take_two, fillA, elemsA, pure1, pure2, List.replicate_succ, List.replicate_zero, reps, aConv_int, convI_some, aConv_str, RX_makeSlice, RX_makeSlice0, RX_copy, RX_appendS, RX_nilCheck, RX_min, RX_max, cvA_int, cvA_str, minA_int, maxA_int, aBin_refNil, aBin_fptrNil, aBin_nilNil, ptrNil_eql, ptrNil_neq, fz3_tup, fz3_agg, fz3_prim, fz3_frz, fz3_ref, fz3_fn, fz3_sref, fz2_agg, fz2_prim, fz2_frz, fz2_ref, fz2_fn, fz2_sref, fz1_prim, fz1_frz, fz1_ref, fz1_fn, fz1_sref, fz1_old, fzB_some, chkA, finM_BR, ext_mv, apB1_frz, apM_false, apM_true, tys, Tryd.results46, KX_draw, KX_drawQ, callP_eq, callM_true, digA, e0, e5, e23, e24, e25, d2]
      refine loop1 (fun x st => st.T.length = 64 ∧ (x.1 ≤ (dig a).length) ∧ (Plus2 (a + b) (dig a).length x.1 x.2) ∧ getT st.T 5 = .sref 0 0 0 ((dig a).length + 1) 1 ∧ getT st.T 39 = .int (dig a).length ∧ getT st.T 40 = .int (x.1 : Nat) ∧ st.S = [⟨0, x.2.map numC⟩]) (fun x => (dig a).length - x.1) (fun x => digA (dig (a + b))) (0, out) ?_ ?_
      case refine_2 => exact ⟨rfl, Nat.zero_le _, hp2, rfl, rfl, rfl, rfl⟩
      rintro ⟨i, out⟩ ⟨T, S', tk', n'⟩ ⟨hl, hi, hp, e5, e39, e40, eS⟩ IH
      simp only at hi hp e5 e39 e40 eS
      subst eS
      obtain ⟨g, hg, hT⟩ := tab_of hl
      rw [hg] at e5 e39 e40
      subst hT
      clear hg hl
      clear hlen
      have hlen := hp.len
      by_cases hlt : i < (dig a).length
      · have d2 : decide ((i : Int) < ((dig a).length : Int)) = true := by simpa using hlt
        have hiw := wrap_add (i := i) (by omega)
        obtain ⟨x, hx⟩ := nth_some (show i < out.length by omega)
        have hx' := nth_num hx
        have hin : i < (dig a).length + 1 := by omega
        have hin2 : i + 1 < (dig a).length + 1 := by omega
        have hk := hp.ok i x hx
        have hx2 := hk.2.2.1 rfl
        by_cases hbig : 10000 ≤ x
        · have d3 : decide (x ≥ 10000) = true := by simpa using hbig
          obtain ⟨y, hy⟩ := nth_some (show i + 1 < (out.set i (x - 10000)).length by rw [List.length_set]; omega)
          have hy' := nth_num hy
          have hyk := hp.ok (i + 1) y (by
            rcases set_same hy with ⟨e, -⟩ | ⟨-, hy⟩
            · omega
            · exact hy)
          have hy2 := hyk.2.2.2.1 (by omega)
          have hw1 : IntKind.i64.wrap (x - 10000) = x - 10000 := wrap_of (by unfold i64; omega)
          have hw2 : IntKind.i64.wrap (y + 1) = y + 1 := wrap_of (by unfold i64; omega)
          have hov := over_num (v := x - 10000) hx
          have hov2 := over_num (v := y + 1) hy
          simp (maxSteps := 1000000) +contextual (disch := first | with_reducible assumption | exact ⟨rfl⟩ | (refine _root_.id ?_; kernel_rfl) | omega) only [KX_seq, KX_skip, KX_exit, KX_ret, KX_if, KX_block, KX_region, CX_seq, CX_block, CX_loop, CX_exit_seq, CX_exit_block, CX_exit_loop, CX_ret, CX_ret_nil, CX_normal_nil, NX_some, NS_some, BR_true, BR_false, BR_not, fin1_BR, finS_BR, RX_nil, RX_guard, RX_move, RX_assign, RX_pick, RX_bin, RX_un, RX_conv, RX_extract, RX_field, RX_indexAddr, RX_fieldAddr, RX_index, RX_build, RX_buildSlice, RX_slice, RX_makeFunc, RX_load, RX_store, RX_alloc, RX_box, RX_append, RX_len, RX_call, RX_callV, wantD_some, wantV_bool, wantV_undef, DX_zero, DX_succ, asB_bool, nth, put, putT, getT, opv_tmp, opv_const, opv_func, cst_int, cst_bool, cst_string, cst_nil, cst_ptr, pickA_true, pickA_false, pickA_bool, extA_tup, fldV_agg, bldA_some, litA_some, callV_fn, aBin_int, aBin_str, aBin_bool, binInt, binStr, binBool, aUn, outA, resA, mapO, resA1, oneOf, fin1_some, finS_some, w1, w2, w3, bots, lenV_str, lenV_frz, lenV_sref, List.map_cons, List.map_nil, List.cons_append, List.nil_append, List.length_cons, List.length_nil, List.toList_toArray, Option.map_some, Option.map_none, Option.bind_some, Option.bind_none, Option.isSome_some, beq_true, beq_false, Bool.true_and, Bool.false_and, Bool.and_true, Bool.and_false, Bool.true_or, Bool.or_true, Bool.false_or, Bool.or_false, Bool.not_true, Bool.not_false, cond_true, cond_false, if_true, if_false, ite_true, ite_false, reduceIte, reduceCtorEq, Bool.false_eq_true, true_implies, false_implies, implies_true, and_true, true_and, Nat.reduceAdd, Nat.reduceSub, AV.int, AV.bool, AV.str, Nat.zero_add, fin1_NX_not, fin1_NX_if, fin1_NS_not, fin1_NS_if, finS_NX_not, finS_NX_if, finS_NS_not, finS_NS_if, Option.some.injEq, AV.tup.injEq, AV.prim.injEq, AV.agg.injEq, AV.frz.injEq, Value.int.injEq, Value.bool.injEq, Value.string.injEq, List.cons.injEq, decide_true, decide_false, List.take_zero, List.take_nil, List.take_succ_cons, Nat.reduceBEq, Nat.reduceEqDiff, Nat.reduceMul, Nat.reduceLT, Nat.reduceLeDiff, Int.reduceNeg, BEq.rfl, beq_self_eq_true, tabl, cellsOf, fldA, ldA, stA, entAt, partA, takeN, over, leafOk, List.all_cons, List.all_nil, Value.oneCell', List.drop_zero, List.drop_succ_cons, List.drop_nil, List.length_map, idxA, intN_cast, intN_zero, aBin_agg, aggB_eql, aggB_neq, aBin_nil, nilB_eql, nilB_neq, nilA, cellsEq, cellEq_int, cellEq_str, cellEq_bool, apA_eq, apB_one, apB_all, entAt_mid, put_new, put_mid, take_two, fillA, elemsA, pure1, pure2, List.replicate_succ, List.replicate_zero, reps, aConv_int, convI_some, aConv_str, RX_makeSlice, RX_makeSlice0, RX_copy, RX_appendS, RX_nilCheck, RX_min, RX_max, cvA_int, cvA_str, minA_int, maxA_int, aBin_refNil, aBin_fptrNil, aBin_nilNil, ptrNil_eql, ptrNil_neq, fz3_tup, fz3_agg, fz3_prim, fz3_frz, fz3_ref, fz3_fn, fz3_sref, fz2_agg, fz2_prim, fz2_frz, fz2_ref, fz2_fn, fz2_sref, fz1_prim, fz1_frz, fz1_ref, fz1_fn, fz1_sref, fz1_old, fzB_some, chkA, finM_BR, ext_mv, apB1_frz, apM_false, apM_true, tys, Tryd.results46, KX_draw, KX_drawQ, callP_eq, callM_true, digA, e5, e39, e40, d2, d3, hiw, hx', hy', hin, hin2, hw1, hw2, hov, hov2, Nat.mul_one]
          exact IH (i + 1, (out.set i (x - 10000)).set (i + 1) (y + 1)) _ (by first | omega | (simp only; omega)) ⟨rfl, by first | omega | (dsimp only; omega), hp.big hlt hx hbig hy, (by first | rfl | simp only [getT, List.map_append, List.map_cons, List.map_nil, digC, digA]), (by first | rfl | simp only [getT, List.map_append, List.map_cons, List.map_nil, digC, digA]), (by first | rfl | simp only [getT, List.map_append, List.map_cons, List.map_nil, digC, digA]), (by first | rfl | simp only [getT, List.map_append, List.map_cons, List.map_nil, digC, digA])⟩
        · have d3 : decide (x ≥ 10000) = false := by simp; omega
          simp (maxSteps := 1000000) +contextual (disch := first | with_reducible assumption | exact ⟨rfl⟩ | (refine _root_.id ?_; kernel_rfl) | omega) only [KX_seq, KX_skip, KX_exit, KX_ret, KX_if, KX_block, KX_region, CX_seq, CX_block, CX_loop, CX_exit_seq, CX_exit_block, CX_exit_loop, CX_ret, CX_ret_nil, CX_normal_nil, NX_some, NS_some, BR_true, BR_false, BR_not, fin1_BR, finS_BR, RX_nil, RX_guard, RX_move, RX_assign, RX_pick, RX_bin, RX_un, RX_conv, RX_extract, RX_field, RX_indexAddr, RX_fieldAddr, RX_index, RX_build, RX_buildSlice, RX_slice, RX_makeFunc, RX_load, RX_store, RX_alloc, RX_box, RX_append, RX_len, RX_call, RX_callV, wantD_some, wantV_bool, wantV_undef, DX_zero, DX_succ, asB_bool, nth, put, putT, getT, opv_tmp, opv_const, opv_func, cst_int, cst_bool, cst_string, cst_nil, cst_ptr, pickA_true, pickA_false, pickA_bool, extA_tup, fldV_agg, bldA_some, litA_some, callV_fn, aBin_int, aBin_str, aBin_bool, binInt, binStr, binBool, aUn, outA, resA, mapO, resA1, oneOf, fin1_some, finS_some, w1, w2, w3, bots, lenV_str, lenV_frz, lenV_sref, List.map_cons, List.map_nil, List.cons_append, List.nil_append, List.length_cons, List.length_nil, List.toList_toArray, Option.map_some, Option.map_none, Option.bind_some, Option.bind_none, Option.isSome_some, beq_true, beq_false, Bool.true_and, Bool.false_and, Bool.and_true, Bool.and_false, Bool.true_or, Bool.or_true, Bool.false_or, Bool.or_false, Bool.not_true, Bool.not_false, cond_true, cond_false, if_true, if_false, ite_true, ite_false, reduceIte, reduceCtorEq, Bool.false_eq_true, true_implies, false_implies, implies_true, and_true, true_and, Nat.reduceAdd, Nat.reduceSub, AV.int, AV.bool, AV.str, Nat.zero_add, fin1_NX_not, fin1_NX_if, fin1_NS_not, fin1_NS_if, finS_NX_not, finS_NX_if, finS_NS_not, finS_NS_if, Option.some.injEq, AV.tup.injEq, AV.prim.injEq, AV.agg.injEq, AV.frz.injEq, Value.int.injEq, Value.bool.injEq, Value.string.injEq, List.cons.injEq, decide_true, decide_false, List.take_zero, List.take_nil, List.take_succ_cons, Nat.reduceBEq, Nat.reduceEqDiff, Nat.reduceMul, Nat.reduceLT, Nat.reduceLeDiff, Int.reduceNeg, BEq.rfl, beq_self_eq_true, tabl, cellsOf, fldA, ldA, stA, entAt, partA, takeN, over, leafOk, List.all_cons, List.all_nil, Value.oneCell', List.drop_zero, List.drop_succ_cons, List.drop_nil, List.length_map, idxA, intN_cast, intN_zero, aBin_agg, aggB_eql, aggB_neq, aBin_nil, nilB_eql, nilB_neq, nilA, cellsEq, cellEq_int, cellEq_str, cellEq_bool, apA_eq, apB_one, apB_all, entAt_mid, put_new, put_mid, take_two, fillA, elemsA, pure1, pure2, List.replicate_succ, List.replicate_zero, reps, aConv_int, convI_some, aConv_str, RX_makeSlice, RX_makeSlice0, RX_copy, RX_appendS, RX_nilCheck, RX_min, RX_max, cvA_int, cvA_str, minA_int, maxA_int, aBin_refNil, aBin_fptrNil, aBin_nilNil, ptrNil_eql, ptrNil_neq, fz3_tup, fz3_agg, fz3_prim, fz3_frz, fz3_ref, fz3_fn, fz3_sref, fz2_agg, fz2_prim, fz2_frz, fz2_ref, fz2_fn, fz2_sref, fz1_prim, fz1_frz, fz1_ref, fz1_fn, fz1_sref, fz1_old, fzB_some, chkA, finM_BR, ext_mv, apB1_frz, apM_false, apM_true, tys, Tryd.results46, KX_draw, KX_drawQ, callP_eq, callM_true, digA, e5, e39, e40, d2, d3, hiw, hx', hin, Nat.mul_one]
          exact IH (i + 1, out) _ (by first | omega | (simp only; omega)) ⟨rfl, by first | omega | (dsimp only; omega), hp.small hlt hx (by first | omega | (dsimp only; omega)), (by first | rfl | simp only [getT, List.map_append, List.map_cons, List.map_nil, digC, digA]), (by first | rfl | simp only [getT, List.map_append, List.map_cons, List.map_nil, digC, digA]), (by first | rfl | simp only [getT, List.map_append, List.map_cons, List.map_nil, digC, digA]), (by first | rfl | simp only [getT, List.map_append, List.map_cons, List.map_nil, digC, digA])⟩
      · have d2 : decide ((i : Int) < ((dig a).length : Int)) = false := by simpa using hlt
        have he : i = (dig a).length := by omega
        subst he
        have hdone := hp.done
        have hT := fun tk k => big_trim_own [⟨0, out.map numC⟩] tk k out 0 0 (by omega) rfl
        rw [hlen] at hT
        have hfz := fz_num (m := 0) (id := 0) (ep := 0) (S := [⟨0, out.map numC⟩]) (Nat.le_refl _) rfl (trim_len out)
        rw [← trim_is_take, hdone] at hfz
        rw [hdone] at hT
        simp (maxSteps := 1000000) +contextual (disch := first | with_reducible assumption | exact ⟨rfl⟩ | (refine _root_.id ?_; kernel_rfl) | omega) only [KX_seq, KX_skip, KX_exit, KX_ret, KX_if, KX_block, KX_region, CX_seq, CX_block, CX_loop, CX_exit_seq, CX_exit_block, CX_exit_loop, CX_ret, CX_ret_nil, CX_normal_nil, NX_some, NS_some, BR_true, BR_false, BR_not, fin1_BR, finS_BR, RX_nil, RX_guard, RX_move, RX_assign, RX_pick, RX_bin, RX_un, RX_conv, RX_extract, RX_field, RX_indexAddr, RX_fieldAddr, RX_index, RX_build, RX_buildSlice, RX_slice, RX_makeFunc, RX_load, RX_store, RX_alloc, RX_box, RX_append, RX_len, RX_call, RX_callV, wantD_some, wantV_bool, wantV_undef, DX_zero, DX_succ, asB_bool, nth, put, putT, getT, opv_tmp, opv_const, opv_func, cst_int, cst_bool, cst_string, cst_nil, cst_ptr, pickA_true, pickA_false, pickA_bool, extA_tup, fldV_agg, bldA_some, litA_some, callV_fn, aBin_int, aBin_str, aBin_bool, binInt, binStr, binBool, aUn, outA, resA, mapO, resA1, oneOf, fin1_some, finS_some, w1, w2, w3, bots, lenV_str, lenV_frz, lenV_sref, List.map_cons, List.map_nil, List.cons_append, List.nil_append, List.length_cons, List.length_nil, List.toList_toArray, Option.map_some, Option.map_none, Option.bind_some, Option.bind_none, Option.isSome_some, beq_true, beq_false, Bool.true_and, Bool.false_and, Bool.and_true, Bool.and_false, Bool.true_or, Bool.or_true, Bool.false_or, Bool.or_false, Bool.not_true, Bool.not_false, cond_true, cond_false, if_true, if_false, ite_true, ite_false, reduceIte, reduceCtorEq, Bool.false_eq_true, true_implies, false_implies, implies_true, and_true, true_and, Nat.reduceAdd, Nat.reduceSub, AV.int, AV.bool, AV.str, Nat.zero_add, fin1_NX_not, fin1_NX_if, fin1_NS_not, fin1_NS_if, finS_NX_not, finS_NX_if, finS_NS_not, finS_NS_if, Option.some.injEq, AV.tup.injEq, AV.prim.injEq, AV.agg.injEq, AV.frz.injEq, Value.int.injEq, Value.bool.injEq, Value.string.injEq, List.cons.injEq, decide_true, decide_false, List.take_zero, List.take_nil, List.take_succ_cons, Nat.reduceBEq, Nat.reduceEqDiff, Nat.reduceMul, Nat.reduceLT, Nat.reduceLeDiff, Int.reduceNeg, BEq.rfl, beq_self_eq_true, tabl, cellsOf, fldA, ldA, stA, entAt, partA, takeN, over, leafOk, List.all_cons, List.all_nil, Value.oneCell', List.drop_zero, List.drop_succ_cons, List.drop_nil, List.length_map, idxA, intN_cast, intN_zero, aBin_agg, aggB_eql, aggB_neq, aBin_nil, nilB_eql, nilB_neq, nilA, cellsEq, cellEq_int, cellEq_str, cellEq_bool, apA_eq, apB_one, apB_all, entAt_mid, put_new, put_mid, take_two, fillA, elemsA, pure1, pure2, List.replicate_succ, List.replicate_zero, reps, aConv_int, convI_some, aConv_str, RX_makeSlice, RX_makeSlice0, RX_copy, RX_appendS, RX_nilCheck, RX_min, RX_max, cvA_int, cvA_str, minA_int, maxA_int, aBin_refNil, aBin_fptrNil, aBin_nilNil, ptrNil_eql, ptrNil_neq, fz3_tup, fz3_agg, fz3_prim, fz3_frz, fz3_ref, fz3_fn, fz3_sref, fz2_agg, fz2_prim, fz2_frz, fz2_ref, fz2_fn, fz2_sref, fz1_prim, fz1_frz, fz1_ref, fz1_fn, fz1_sref, fz1_old, fzB_some, chkA, finM_BR, ext_mv, apB1_frz, apM_false, apM_true, tys, Tryd.results46, KX_draw, KX_drawQ, callP_eq, callM_true, digA, e5, e39, e40, d2, hT, hfz]
end
end Go.Proofs.YtokncdoejnchfaaDoor
