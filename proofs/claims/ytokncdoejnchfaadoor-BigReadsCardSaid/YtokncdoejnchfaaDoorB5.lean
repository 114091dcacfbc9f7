/-
  What the functions of the numbers compute: differences of digits; sums and differences by the reference.
-/
import Derived.Test.YtokncdoejnchfaaDoorB4
namespace Go.Proofs.YtokncdoejnchfaaDoor
open Go

theorem val_lt {l : List Int} (h : okD l) : val l < 10000 ^ l.length := by
  induction l with
  | nil => simp [val]
  | cons d l ih =>
    have h1 := h d (by simp)
    have h2 := ih fun x hx => h x (by simp [hx])
    simp only [val, List.length_cons, Int.pow_succ]; omega
theorem val_top {l : List Int} {i : Nat} {x : Int} (hl : l.length = i + 1) (hx : nth l i = some x) (hk : ∀ j y, j < i → nth l j = some y → 0 ≤ y ∧ y < 10000) (h0 : x < 0) : val l < 0 := by
  have e : l = l.take i ++ [x] := by
    apply List.ext_getElem?
    intro j
    rcases Nat.lt_trichotomy j i with hj | hj | hj
    · rw [List.getElem?_append_left (by simp; omega), List.getElem?_take_of_lt hj]
    · subst hj
      have hlj : (l.take j).length = j := by simp; omega
      rw [List.getElem?_append_right (by omega), hlj, Nat.sub_self, ← nth_get, hx]; rfl
    · rw [List.getElem?_eq_none (by omega), List.getElem?_eq_none (by simp; omega)]
  have hk' : okD (l.take i) := okD_of fun j y hy => by
    have hj := nth_lt hy
    have hj1 : j < i := by rw [List.length_take] at hj; omega
    refine hk j y hj1 ?_
    rw [nth_get] at hy ⊢
    rw [List.getElem?_take_of_lt hj1] at hy; exact hy
  have h1 := val_lt hk'
  have hlen : (l.take i).length = i := by simp; omega
  rw [hlen] at h1
  rw [e, val_append, hlen]
  have hp := pow_pos4 i
  have : (10000 : Int) ^ i * val [x] ≤ 10000 ^ i * (-1) := Int.mul_le_mul_of_nonneg_left (by simp [val]; omega) (by omega)
  omega
structure Minus1 (a b la i : Nat) (out : List Int) : Prop where
  len : out.length = la
  eqv : val out - 10000 ^ i * val ((dig b).drop i) = (a : Int) - b
  ok : ∀ j x, nth out j = some x → -9999 ≤ x ∧ x ≤ 9999 ∧ (i ≤ j → 0 ≤ x)
theorem Minus1.start {a b : Nat} : Minus1 a b (dig a).length 0 (padL (dig a) (dig a).length) := by
  refine ⟨padL_len (by omega), ?_, fun j x hx => ?_⟩
  · rw [padL_val, val_dig, List.drop_zero, val_dig]; simp
  · rcases padL_at hx with h | ⟨h, rfl⟩
    · have := of_okD (okD_dig a) h; exact ⟨by omega, by omega, fun _ => this.1⟩
    · exact ⟨by omega, by omega, fun _ => by omega⟩
theorem Minus1.step {a b la i : Nat} {out : List Int} {x d : Int} (h : Minus1 a b la i out) (hx : nth out i = some x) (hd : nth (dig b) i = some d) : Minus1 a b la (i + 1) (out.set i (x - d)) := by
  have hdk := of_okD (okD_dig b) hd
  refine ⟨by rw [List.length_set]; exact h.len, ?_, fun j y hy => ?_⟩
  · have hv := h.eqv
    rw [nth_drop hd, val] at hv
    rw [val_set hx, ← hv, Int.pow_succ, Int.mul_add]
    have e1 : x - d - x = -d := by omega
    rw [e1, Int.neg_mul, Int.mul_comm d, Int.mul_assoc]; omega
  · rcases set_same hy with ⟨rfl, rfl⟩ | ⟨hne, hy⟩
    · have := h.ok _ x hx
      exact ⟨by have := this.2.2 (Nat.le_refl _); omega, by omega, by omega⟩
    · have := h.ok j y hy
      exact ⟨this.1, this.2.1, fun hj => this.2.2 (by omega)⟩
structure Minus2 (v : Nat) (la i : Nat) (out : List Int) : Prop where
  len : out.length = la
  eqv : val out = v
  ok : ∀ j x, nth out j = some x → x ≤ 9999 ∧ (j < i → 0 ≤ x) ∧ (j = i → -10000 ≤ x) ∧ (i < j → -9999 ≤ x)
theorem Minus2.start {a b la : Nat} {out : List Int} (h : Minus1 a b la (dig b).length out) (hab : b ≤ a) : Minus2 (a - b) la 0 out := by
  refine ⟨h.len, ?_, fun j x hx => ?_⟩
  · have := h.eqv
    rw [List.drop_length, val] at this; omega
  · have := h.ok j x hx; exact ⟨this.2.1, by omega, by omega, by omega⟩
theorem Minus2.small {v la i : Nat} {out : List Int} {x : Int} (h : Minus2 v la i out) (hx : nth out i = some x) (h1 : 0 ≤ x) : Minus2 v la (i + 1) out := by
  refine ⟨h.len, h.eqv, fun j y hy => ?_⟩
  have := h.ok j y hy
  refine ⟨this.1, fun hj => ?_, fun hj => by have := this.2.2.2 (by omega); omega, fun hj => this.2.2.2 (by omega)⟩
  by_cases e : j = i
  · subst e; rw [hx] at hy; simp only [Option.some.injEq] at hy; omega
  · exact this.2.1 (by omega)
theorem Minus2.room {v la i : Nat} {out : List Int} {x : Int} (h : Minus2 v la i out) (hx : nth out i = some x) (h1 : x < 0) : i + 1 < la := by
  have hi := nth_lt hx
  have hl := h.len
  rcases Nat.lt_or_ge (i + 1) la with h2 | h2
  · exact h2
  · exfalso
    have := val_top (l := out) (i := i) (by omega) hx (fun j y hj hy => by have := h.ok j y hy; exact ⟨this.2.1 hj, by omega⟩) h1
    have := h.eqv; omega
theorem Minus2.neg {v la i : Nat} {out : List Int} {x y : Int} (h : Minus2 v la i out) (hx : nth out i = some x) (h1 : x < 0) (hy : nth (out.set i (x + 10000)) (i + 1) = some y) : Minus2 v la (i + 1) ((out.set i (x + 10000)).set (i + 1) (y - 1)) := by
  have hyo : nth out (i + 1) = some y := by
    rcases set_same hy with ⟨e, -⟩ | ⟨-, hy⟩
    · omega
    · exact hy
  have hk := h.ok i x hx
  have hky := h.ok (i + 1) y hyo
  refine ⟨by rw [List.length_set, List.length_set]; exact h.len, ?_, fun j z hz => ?_⟩
  · rw [val_set hy, val_set hx, ← h.eqv, Int.pow_succ]
    have e1 : x + 10000 - x = 10000 := by omega
    have e2 : y - 1 - y = -1 := by omega
    rw [e1, e2, Int.mul_comm (10000 ^ i) 10000]; omega
  · rcases set_same hz with ⟨rfl, rfl⟩ | ⟨hne, hz⟩
    · exact ⟨by omega, by omega, fun _ => by have := hky.2.2.2 (by omega); omega, by omega⟩
    · rcases set_same hz with ⟨rfl, rfl⟩ | ⟨hne2, hz⟩
      · exact ⟨by omega, fun _ => by have := hk.2.2.1 rfl; omega, by omega, by omega⟩
      · have := h.ok j z hz
        exact ⟨this.1, fun hj => this.2.1 (by omega), fun hj => by omega, fun hj => this.2.2.2 (by omega)⟩
theorem Minus2.done {v la : Nat} {out : List Int} (h : Minus2 v la la out) : trimL out = dig v := by
  have hk : okD out := okD_of fun j x hx => by
    have := h.ok j x hx
    have hl := nth_lt hx
    rw [h.len] at hl
    exact ⟨this.2.1 hl, by omega⟩
  rw [trim_dig hk, h.eqv]; congr 1
theorem val_drop (l : List Int) (i : Nat) : val (l.drop i) = (nth l i).getD 0 + 10000 * val (l.drop (i + 1)) := by
  by_cases h : i < l.length
  · obtain ⟨x, hx⟩ := nth_some h
    rw [nth_drop hx, hx]; rfl
  · rw [List.drop_eq_nil_of_le (by omega), List.drop_eq_nil_of_le (by omega), nth_get, List.getElem?_eq_none (by omega)]; rfl
theorem dig_getD (a i : Nat) : 0 ≤ (nth (dig a) i).getD 0 ∧ (nth (dig a) i).getD 0 < 10000 := by
  cases h : nth (dig a) i with
  | none => simp
  | some x => exact of_okD (okD_dig a) h
theorem okD_snoc {l : List Int} {x : Int} (h : okD l) (h0 : 0 ≤ x) (h1 : x < 10000) : okD (l ++ [x]) := fun d hd => by
  rcases List.mem_append.1 hd with hd | hd
  · exact h d hd
  · simp at hd; subst hd; exact ⟨h0, h1⟩
theorem val_snoc (l : List Int) (x : Int) : val (l ++ [x]) = val l + 10000 ^ l.length * x := by rw [val_append]; simp [val]
theorem pow_step (i : Nat) (x r : Int) : (10000 : Int) ^ i * x + 10000 ^ (i + 1) * r = 10000 ^ i * (x + 10000 * r) := by rw [Int.pow_succ, Int.mul_add, Int.mul_assoc]
/-- the reference's sum, digit by digit -/
structure Sum1 (a b i : Nat) (c : Int) (out : List Int) : Prop where
  len : out.length = i
  ok : okD out
  c0 : 0 ≤ c ∧ c ≤ 1
  eqv : val out + 10000 ^ i * (c + val ((dig a).drop i) + val ((dig b).drop i)) = (a + b : Nat)
theorem Sum1.step {a b i : Nat} {c n : Int} {out : List Int} (h : Sum1 a b i c out) (hn : n = (nth (dig a) i).getD 0 + (nth (dig b) i).getD 0 + c) : Sum1 a b (i + 1) (n.tdiv 10000) (out ++ [n.tmod 10000]) ∧ 0 ≤ n ∧ n ≤ 19999 ∧ 0 ≤ n.tmod 10000 ∧ n.tmod 10000 < 10000 := by
  have h1 := dig_getD a i
  have h2 := dig_getD b i
  have h3 := h.c0
  have e1 : n.tdiv 10000 = n / 10000 := Int.tdiv_eq_ediv_of_nonneg (by omega)
  have e2 : n.tmod 10000 = n % 10000 := Int.tmod_eq_emod_of_nonneg (by omega)
  refine ⟨⟨by simp [h.len], okD_snoc h.ok (by omega) (by omega), by omega, ?_⟩, by omega, by omega, by omega, by omega⟩
  have hv := h.eqv
  rw [val_drop (dig a) i, val_drop (dig b) i] at hv
  have : n.tmod 10000 + 10000 * (n.tdiv 10000 + val ((dig a).drop (i + 1)) + val ((dig b).drop (i + 1))) = c + ((nth (dig a) i).getD 0 + 10000 * val ((dig a).drop (i + 1))) + ((nth (dig b) i).getD 0 + 10000 * val ((dig b).drop (i + 1))) := by omega
  rw [val_snoc, h.len, Int.add_assoc, pow_step, this]
  exact hv
theorem Sum1.done {a b i : Nat} {c : Int} {out : List Int} (h : Sum1 a b i c out) (h1 : (dig a).length ≤ i) (h2 : (dig b).length ≤ i) (h3 : c = 0) : trimL out = dig (a + b) := by
  have hv := h.eqv
  rw [List.drop_eq_nil_of_le h1, List.drop_eq_nil_of_le h2, h3] at hv
  simp only [val] at hv
  rw [trim_dig h.ok]
  congr 1; omega
structure Dif1 (a b i : Nat) (c : Int) (out : List Int) : Prop where
  len : out.length = i
  ok : okD out
  c0 : 0 ≤ c ∧ c ≤ 1
  eqv : val out + 10000 ^ i * (val ((dig a).drop i) - val ((dig b).drop i) - c) = (a : Int) - b
theorem Dif1.step {a b i : Nat} {c n d : Int} {out : List Int} (h : Dif1 a b i c out) (hd : nth (dig a) i = some d) (hn : n = d - (nth (dig b) i).getD 0 - c) : (n < 0 → Dif1 a b (i + 1) 1 (out ++ [n + 10000])) ∧ (¬ n < 0 → Dif1 a b (i + 1) 0 (out ++ [n])) ∧ -10000 ≤ n ∧ n < 10000 := by
  have h1 := of_okD (okD_dig a) hd
  have h2 := dig_getD b i
  have h3 := h.c0
  have hv := h.eqv
  rw [val_drop (dig b) i, nth_drop hd, val] at hv
  refine ⟨fun hn0 => ⟨by simp [h.len], okD_snoc h.ok (by omega) (by omega), by omega, ?_⟩, fun hn0 => ⟨by simp [h.len], okD_snoc h.ok (by omega) (by omega), by omega, ?_⟩, by omega, by omega⟩
  · have : n + 10000 + 10000 * (val ((dig a).drop (i + 1)) - val ((dig b).drop (i + 1)) - 1) = d + 10000 * val ((dig a).drop (i + 1)) - ((nth (dig b) i).getD 0 + 10000 * val ((dig b).drop (i + 1))) - c := by omega
    rw [val_snoc, h.len, Int.add_assoc, pow_step, this]
    exact hv
  · have : n + 10000 * (val ((dig a).drop (i + 1)) - val ((dig b).drop (i + 1)) - 0) = d + 10000 * val ((dig a).drop (i + 1)) - ((nth (dig b) i).getD 0 + 10000 * val ((dig b).drop (i + 1))) - c := by omega
    rw [val_snoc, h.len, Int.add_assoc, pow_step, this]
    exact hv
theorem len_mono {a b : Nat} (h : b ≤ a) : (dig b).length ≤ (dig a).length := by
  rw [dig_len]
  have := (dig_len (n := a) (k := (dig a).length)).1 (Nat.le_refl _)
  omega
theorem Dif1.done {a b : Nat} {c : Int} {out : List Int} (h : Dif1 a b (dig a).length c out) (hab : b ≤ a) : trimL out = dig (a - b) := by
  have hv := h.eqv
  have h3 := h.c0
  rw [List.drop_length, List.drop_eq_nil_of_le (len_mono hab)] at hv
  simp only [val] at hv
  have hlt := val_lt h.ok
  rw [h.len] at hlt
  have hp := pow_pos4 (dig a).length
  have hc : c = 0 := by
    rcases Int.lt_or_le c 1 with h1 | h1
    · omega
    · have : c = 1 := by omega
      subst this
      have : (10000 : Int) ^ (dig a).length * (0 - 0 - 1) = -(10000 ^ (dig a).length) := by omega
      omega
  subst hc
  rw [trim_dig h.ok]
  congr 1
  have : (10000 : Int) ^ (dig a).length * (0 - 0 - 0) = 0 := by simp
  omega
section
variable (S : List Ent) (tk : List Nat) (k : Nat)
set_option maxRecDepth 100000 in
theorem big_minus (a b : Nat) (ha : (dig a).length ≤ 100000) (hab : b ≤ a) : cL Tryd.prog 47 [digA (dig a), digA (dig b)] S tk k = some (digA (dig (a - b)), S, tk, k) := by
  refine call_pure Tryd.func47 rfl rfl (by decide +kernel) (by decide +kernel) Tryd.ntmps47 rfl rfl _ _ _ rfl ?_; rw [RK_KX]
  have hba := len_mono hab
  have hbo : (elemOf Tryd.prog 22).bind (bytesOf Tryd.prog) = some 8 := by kernel_rfl
  have hmk := mk_num (P := Tryd.prog) (t := 22) (n := (dig a).length) (by simp only [tys, Option.bind_some]) (by simp only [tys, Option.bind_some]) hbo (by omega)
  have hcp := cp_num (P := Tryd.prog) (t := 22) (n := (dig a).length) (id := 0) (ep := 0) (l := dig a) (c := .unk) (S := [⟨0, zeroC (dig a).length⟩]) (by simp only [tys, Option.bind_some]) (by omega) rfl
  simp (maxSteps := 1000000) +contextual (disch := first | with_reducible assumption | exact ⟨rfl⟩ | (refine _root_.id ?_; kernel_rfl) | omega) only [KX_seq, KX_skip, KX_exit, KX_ret, KX_if, KX_block, KX_region, CX_seq, CX_block, CX_loop, CX_exit_seq, CX_exit_block, CX_exit_loop, CX_ret, CX_ret_nil, CX_normal_nil, NX_some, NS_some, BR_true, BR_false, BR_not, fin1_BR, finS_BR, RX_nil, RX_guard, RX_move, RX_assign, RX_pick, RX_bin, RX_un, RX_conv, RX_extract, RX_field, RX_indexAddr, RX_fieldAddr, RX_index, RX_build, RX_buildSlice, RX_slice, RX_makeFunc, RX_load, RX_store, RX_alloc, RX_box, RX_append, RX_len, RX_call, RX_callV, wantD_some, wantV_bool, wantV_undef, DX_zero, DX_succ, asB_bool, nth, put, putT, getT, opv_tmp, opv_const, opv_func, cst_int, cst_bool, cst_string, cst_nil, cst_ptr, pickA_true, pickA_false, pickA_bool, extA_tup, fldV_agg, bldA_some, litA_some, callV_fn, aBin_int, aBin_str, aBin_bool, binInt, binStr, binBool, aUn, outA, resA, mapO, resA1, oneOf, fin1_some, finS_some, w1, w2, w3, bots, lenV_str, lenV_frz, lenV_sref, List.map_cons, List.map_nil, List.cons_append, List.nil_append, List.length_cons, List.length_nil, List.toList_toArray, Option.map_some, Option.map_none, Option.bind_some, Option.bind_none, Option.isSome_some, beq_true, beq_false, Bool.true_and, Bool.false_and, Bool.and_true, Bool.and_false, Bool.true_or, Bool.or_true, Bool.false_or, Bool.or_false, Bool.not_true, Bool.not_false, cond_true, cond_false, if_true, if_false, ite_true, ite_false, reduceIte, reduceCtorEq, Bool.false_eq_true, true_implies, false_implies, implies_true, and_true, true_and, Nat.reduceAdd, Nat.reduceSub, AV.int, AV.bool, AV.str, Nat.zero_add, fin1_NX_not, fin1_NX_if, fin1_NS_not, fin1_NS_if, finS_NX_not, finS_NX_if, finS_NS_not, finS_NS_if, Option.some.injEq, AV.tup.injEq, AV.prim.injEq, AV.agg.injEq, AV.frz.injEq, Value.int.injEq, Value.bool.injEq, Value.string.injEq, List.cons.injEq, decide_true, decide_false, List.take_zero, List.take_nil, List.take_succ_cons, Nat.reduceBEq, Nat.reduceEqDiff, Nat.reduceMul, Nat.reduceLT, Nat.reduceLeDiff, Int.reduceNeg, BEq.rfl, beq_self_eq_true, tabl, cellsOf, fldA, ldA, stA, entAt, partA, takeN, over, leafOk, List.all_cons, List.all_nil, Value.oneCell', List.drop_zero, List.drop_succ_cons, List.drop_nil, List.length_map, idxA, intN_cast, intN_zero, aBin_agg, aggB_eql, aggB_neq, aBin_nil, nilB_eql, nilB_neq, nilA, cellsEq, cellEq_int, cellEq_str, cellEq_bool, apA_eq, apB_one, apB_all, entAt_mid, put_new, put_mid, take_two, fillA, elemsA, pure1, pure2, List.replicate_succ, List.replicate_zero, reps, aConv_int, convI_some, aConv_str, RX_makeSlice, RX_makeSlice0, RX_copy, RX_appendS, RX_nilCheck, RX_min, RX_max, cvA_int, cvA_str, minA_int, maxA_int, aBin_refNil, aBin_fptrNil, aBin_nilNil, ptrNil_eql, ptrNil_neq, fz3_tup, fz3_agg, fz3_prim, fz3_frz, fz3_ref, fz3_fn, fz3_sref, fz2_agg, fz2_prim, fz2_frz, fz2_ref, fz2_fn, fz2_sref, fz1_prim, fz1_frz, fz1_ref, fz1_fn, fz1_sref, fz1_old, fzB_some, chkA, finM_BR, ext_mv, apB1_frz, apM_false, apM_true, tys, Tryd.results47, KX_draw, KX_drawQ, callP_eq, callM_true, digA, hmk, hcp]
  refine loop1 (fun x st => st.T.length = 56 ∧ (x.1 ≤ (dig b).length) ∧ (Minus1 a b (dig a).length x.1 x.2) ∧ getT st.T 5 = .sref 0 0 0 (dig a).length 1 ∧ getT st.T 15 = digA (dig b) ∧ getT st.T 16 = .int (dig b).length ∧ getT st.T 17 = .int (x.1 : Nat) ∧ st.S = [⟨0, x.2.map numC⟩]) (fun x => (dig b).length - x.1) (fun x => digA (dig (a - b))) (0, padL (dig a) (dig a).length) ?_ ?_
  case refine_2 => exact ⟨rfl, Nat.zero_le _, Minus1.start, rfl, rfl, rfl, rfl, rfl⟩
  rintro ⟨i, out⟩ ⟨T, S', tk', n'⟩ ⟨hl, hi, hp, e5, e15, e16, e17, eS⟩ IH
  simp only at hi hp e5 e15 e16 e17 eS
  subst eS
  obtain ⟨g, hg, hT⟩ := tab_of hl
  rw [hg] at e5 e15 e16 e17
  subst hT
  clear hg hl
  have hlen := hp.len
  by_cases hlt : i < (dig b).length
  · have d2 : decide ((i : Int) < ((dig b).length : Int)) = true := by simpa using hlt
    obtain ⟨d, hd⟩ := nth_some hlt
    have hd' := nth_dig hd
    have hiw := wrap_add (i := i) (by omega)
    obtain ⟨x, hx⟩ := nth_some (show i < out.length by omega)
    have hx' := nth_num hx
    have hin : i < (dig a).length := by omega
    have hxk := hp.ok i x hx
    have hdk := of_okD (okD_dig b) hd
    have hws : IntKind.i64.wrap (x - d) = x - d := wrap_of (by unfold i64; omega)
    have hov := over_num (v := x - d) hx
    simp (maxSteps := 1000000) +contextual (disch := first | with_reducible assumption | exact ⟨rfl⟩ | (refine _root_.id ?_; kernel_rfl) | omega) only [KX_seq, KX_skip, KX_exit, KX_ret, KX_if, KX_block, KX_region, CX_seq, CX_block, CX_loop, CX_exit_seq, CX_exit_block, CX_exit_loop, CX_ret, CX_ret_nil, CX_normal_nil, NX_some, NS_some, BR_true, BR_false, BR_not, fin1_BR, finS_BR, RX_nil, RX_guard, RX_move, RX_assign, RX_pick, RX_bin, RX_un, RX_conv, RX_extract, RX_field, RX_indexAddr, RX_fieldAddr, RX_index, RX_build, RX_buildSlice, RX_slice, RX_makeFunc, RX_load, RX_store, RX_alloc, RX_box, RX_append, RX_len, RX_call, RX_callV, wantD_some, wantV_bool, wantV_undef, DX_zero, DX_succ, asB_bool, nth, put, putT, getT, opv_tmp, opv_const, opv_func, cst_int, cst_bool, cst_string, cst_nil, cst_ptr, pickA_true, pickA_false, pickA_bool, extA_tup, fldV_agg, bldA_some, litA_some, callV_fn, aBin_int, aBin_str, aBin_bool, binInt, binStr, binBool, aUn, outA, resA, mapO, resA1, oneOf, fin1_some, finS_some, w1, w2, w3, bots, lenV_str, lenV_frz, lenV_sref, List.map_cons, List.map_nil, List.cons_append, List.nil_append, List.length_cons, List.length_nil, List.toList_toArray, Option.map_some, Option.map_none, Option.bind_some, Option.bind_none, Option.isSome_some, beq_true, beq_false, Bool.true_and, Bool.false_and, Bool.and_true, Bool.and_false, Bool.true_or, Bool.or_true, Bool.false_or, Bool.or_false, Bool.not_true, Bool.not_false, cond_true, cond_false, if_true, if_false, ite_true, ite_false, reduceIte, reduceCtorEq, Bool.false_eq_true, true_implies, false_implies, implies_true, and_true, true_and, Nat.reduceAdd, Nat.reduceSub, AV.int, AV.bool, AV.str, Nat.zero_add, fin1_NX_not, fin1_NX_if, fin1_NS_not, fin1_NS_if, finS_NX_not, finS_NX_if, finS_NS_not, finS_NS_if, Option.some.injEq, AV.tup.injEq, AV.prim.injEq, AV.agg.injEq, AV.frz.injEq, Value.int.injEq, Value.bool.injEq, Value.string.injEq, List.cons.injEq, decide_true, decide_false, List.take_zero, List.take_nil, List.take_succ_cons, Nat.reduceBEq, Nat.reduceEqDiff, Nat.reduceMul, Nat.reduceLT, Nat.reduceLeDiff, Int.reduceNeg, BEq.rfl, beq_self_eq_true, tabl, cellsOf, fldA, ldA, stA, entAt, partA, takeN, over, leafOk, List.all_cons, List.all_nil, Value.oneCell', List.drop_zero, List.drop_succ_cons, List.drop_nil, List.length_map, idxA, intN_cast, intN_zero, aBin_agg, aggB_eql, aggB_neq, aBin_nil, nilB_eql, nilB_neq, nilA, cellsEq, cellEq_int, cellEq_str, cellEq_bool, apA_eq, apB_one, apB_all, entAt_mid, put_new, put_mid, take_two, fillA, elemsA, pure1, pure2, List.replicate_succ, List.replicate_zero, reps, aConv_int, convI_some, aConv_str, RX_makeSlice, RX_makeSlice0, RX_copy, RX_appendS, RX_nilCheck, RX_min, RX_max, cvA_int, cvA_str, minA_int, maxA_int, aBin_refNil, aBin_fptrNil, aBin_nilNil, ptrNil_eql, ptrNil_neq, fz3_tup, fz3_agg, fz3_prim, fz3_frz, fz3_ref, fz3_fn, fz3_sref, fz2_agg, fz2_prim, fz2_frz, fz2_ref, fz2_fn, fz2_sref, fz1_prim, fz1_frz, fz1_ref, fz1_fn, fz1_sref, fz1_old, fzB_some, chkA, finM_BR, ext_mv, apB1_frz, apM_false, apM_true, tys, Tryd.results47, KX_draw, KX_drawQ, callP_eq, callM_true, digA, e5, e15, e16, e17, d2, hd', hiw, hx', hin, hws, hov, Nat.mul_one]
    exact IH (i + 1, out.set i (x - d)) _ (by first | omega | (simp only; omega)) ⟨rfl, by first | omega | (dsimp only; omega), hp.step hx hd, (by first | rfl | simp only [getT, List.map_append, List.map_cons, List.map_nil, digC, digA]), (by first | rfl | simp only [getT, List.map_append, List.map_cons, List.map_nil, digC, digA]), (by first | rfl | simp only [getT, List.map_append, List.map_cons, List.map_nil, digC, digA]), (by first | rfl | simp only [getT, List.map_append, List.map_cons, List.map_nil, digC, digA]), (by first | rfl | simp only [getT, List.map_append, List.map_cons, List.map_nil, digC, digA])⟩
  · have d2 : decide ((i : Int) < ((dig b).length : Int)) = false := by simpa using hlt
    have he : i = (dig b).length := by omega
    subst he
    have hp2 := Minus2.start hp hab
    clear IH hp
    simp (maxSteps := 1000000) +contextual (disch := first | with_reducible assumption | exact ⟨rfl⟩ | (refine _root_.id ?_; kernel_rfl) | omega) only [KX_seq, KX_skip, KX_exit, KX_ret, KX_if, KX_block, KX_region, CX_seq, CX_block, CX_loop, CX_exit_seq, CX_exit_block, CX_exit_loop, CX_ret, CX_ret_nil, CX_normal_nil, NX_some, NS_some, BR_true, BR_false, BR_not, fin1_BR, finS_BR, RX_nil, RX_guard, RX_move, RX_assign, RX_pick, RX_bin, RX_un, RX_conv, RX_extract, RX_field, RX_indexAddr, RX_fieldAddr, RX_index, RX_build, RX_buildSlice, RX_slice, RX_makeFunc, RX_load, RX_store, RX_alloc, RX_box, RX_append, RX_len, RX_call, RX_callV, wantD_some, wantV_bool, wantV_undef, DX_zero, DX_succ, asB_bool, nth, put, putT, getT, opv_tmp, opv_const, opv_func, cst_int, cst_bool, cst_string, cst_nil, cst_ptr, pickA_true, pickA_false, pickA_bool, extA_tup, fldV_agg, bldA_some, litA_some, callV_fn, aBin_int, aBin_str, aBin_bool, binInt, binStr, binBool, aUn, outA, resA, mapO, resA1, oneOf, fin1_some, finS_some, w1, w2, w3, bots, lenV_str, lenV_frz, lenV_sref, List.map_cons, List.map_nil, List.cons_append, List.nil_append, List.length_cons, List.length_nil, List.toList_toArray, Option.map_some, Option.map_none, Option.bind_some, Option.bind_none, Option.isSome_some, beq_true, beq_false, Bool.true_and, Bool.false_and, Bool.and_true, Bool.and_false, Bool.true_or, Bool.or_true, Bool.false_or, Bool.or_false, Bool.not_true, Bool.not_false, cond_true, cond_false, if_true, if_false, ite_true, ite_false, reduceIte, reduceCtorEq, Bool.false_eq_true, true_implies, false_implies, implies_true, and_true, true_and, Nat.reduceAdd, Nat.reduceSub, AV.int, AV.bool, AV.str, Nat.zero_add, fin1_NX_not, fin1_NX_if, fin1_NS_not, fin1_NS_if, finS_NX_not, finS_NX_if, finS_NS_not, finS_NS_if, Option.some.injEq, AV.tup.injEq, AV.prim.injEq, AV.agg.injEq, AV.frz.injEq, Value.int.injEq, Value.bool.injEq, Value.string.injEq, List.cons.injEq, decide_true, decide_false, List.take_zero, List.take_nil, List.take_succ_cons, Nat.reduceBEq, Nat.reduceEqDiff, Nat.reduceMul, Nat.reduceLT, Nat.reduceLeDiff, Int.reduceNeg, BEq.rfl, beq_self_eq_true, tabl, cellsOf, fldA, ldA, stA, entAt, partA, takeN, over, leafOk, List.all_cons, List.all_nil, Value.oneCell', List.drop_zero, List.drop_succ_cons, List.drop_nil, List.length_map, idxA, intN_cast, intN_zero, aBin_agg, aggB_eql, aggB_neq, aBin_nil, nilB_eql, nilB_neq, nilA, cellsEq, cellEq_int, cellEq_str, cellEq_bool, apA_eq, apB_one, apB_all, entAt_mid, put_new, put_mid, take_two, fillA, elemsA, pure1, pure2, List.replicate_succ, List.replicate_zero, reps, aConv_int, convI_some, aConv_str, RX_makeSlice, RX_makeSlice0, RX_copy, RX_appendS, RX_nilCheck, RX_min, RX_max, cvA_int, cvA_str, minA_int, maxA_int, aBin_refNil, aBin_fptrNil, aBin_nilNil, ptrNil_eql, ptrNil_neq, fz3_tup, fz3_agg, fz3_prim, fz3_frz, fz3_ref, fz3_fn, fz3_sref, fz2_agg, fz2_prim, fz2_frz, fz2_ref, fz2_fn, fz2_sref, fz1_prim, fz1_frz, fz1_ref, fz1_fn, fz1_sref, fz1_old, fzB_some, chkA, finM_BR, ext_mv, apB1_frz, apM_false, apM_true, tys, Tryd.results47, KX_draw, KX_drawQ, callP_eq, callM_true, digA, e5, e15, e16, e17, d2]
    refine loop1 (fun x st => st.T.length = 56 ∧ (x.1 ≤ (dig a).length) ∧ (Minus2 (a - b) (dig a).length x.1 x.2) ∧ getT st.T 5 = .sref 0 0 0 (dig a).length 1 ∧ getT st.T 31 = .int (dig a).length ∧ getT st.T 32 = .int (x.1 : Nat) ∧ st.S = [⟨0, x.2.map numC⟩]) (fun x => (dig a).length - x.1) (fun x => digA (dig (a - b))) (0, out) ?_ ?_
    case refine_2 => exact ⟨rfl, Nat.zero_le _, hp2, rfl, rfl, rfl, rfl⟩
    rintro ⟨i, out⟩ ⟨T, S', tk', n'⟩ ⟨hl, hi, hp, e5, e31, e32, eS⟩ IH
    simp only at hi hp e5 e31 e32 eS
    subst eS
    obtain ⟨g, hg, hT⟩ := tab_of hl
    rw [hg] at e5 e31 e32
    subst hT
    clear hg hl
    clear hlen
    have hlen := hp.len
    by_cases hlt : i < (dig a).length
    · have d2 : decide ((i : Int) < ((dig a).length : Int)) = true := by simpa using hlt
      have hiw := wrap_add (i := i) (by omega)
      obtain ⟨x, hx⟩ := nth_some (show i < out.length by omega)
      have hx' := nth_num hx
      have hk := hp.ok i x hx
      by_cases hneg : x < 0
      · have d3 : decide (x < 0) = true := by simpa using hneg
        have hin2 := hp.room hx hneg
        obtain ⟨y, hy⟩ := nth_some (show i + 1 < (out.set i (x + 10000)).length by rw [List.length_set]; omega)
        have hy' := nth_num hy
        have hyk := hp.ok (i + 1) y (by
          rcases set_same hy with ⟨e, -⟩ | ⟨-, hy⟩
          · omega
          · exact hy)
        have hy2 := hyk.2.2.2 (by omega)
        have hx2 := hk.2.2.1 rfl
        have hw1 : IntKind.i64.wrap (x + 10000) = x + 10000 := wrap_of (by unfold i64; omega)
        have hw2 : IntKind.i64.wrap (y - 1) = y - 1 := wrap_of (by unfold i64; omega)
        have hov := over_num (v := x + 10000) hx
        have hov2 := over_num (v := y - 1) hy
        simp (maxSteps := 1000000) +contextual (disch := first | with_reducible assumption | exact ⟨rfl⟩ | (refine _root_.id ?_; kernel_rfl) | omega) only [KX_seq, KX_skip, KX_exit, KX_ret, KX_if, KX_block, KX_region, CX_seq, CX_block, CX_loop, CX_exit_seq, CX_exit_block, CX_exit_loop, CX_ret, CX_ret_nil, CX_normal_nil, NX_some, NS_some, BR_true, BR_false, BR_not, fin1_BR, finS_BR, RX_nil, RX_guard, RX_move, RX_assign, RX_pick, RX_bin, RX_un, RX_conv, RX_extract, RX_field, RX_indexAddr, RX_fieldAddr, RX_index, RX_build, RX_buildSlice, RX_slice, RX_makeFunc, RX_load, RX_store, RX_alloc, RX_box, RX_append, RX_len, RX_call, RX_callV, wantD_some, wantV_bool, wantV_undef, DX_zero, DX_succ, asB_bool, nth, put, putT, getT, opv_tmp, opv_const, opv_func, cst_int, cst_bool, cst_string, cst_nil, cst_ptr, pickA_true, pickA_false, pickA_bool, extA_tup, fldV_agg, bldA_some, litA_some, callV_fn, aBin_int, aBin_str, aBin_bool, binInt, binStr, binBool, aUn, outA, resA, mapO, resA1, oneOf, fin1_some, finS_some, w1, w2, w3, bots, lenV_str, lenV_frz, lenV_sref, List.map_cons, List.map_nil, List.cons_append, List.nil_append, List.length_cons, List.length_nil, List.toList_toArray, Option.map_some, Option.map_none, Option.bind_some, Option.bind_none, Option.isSome_some, beq_true, beq_false, Bool.true_and, Bool.false_and, Bool.and_true, Bool.and_false, Bool.true_or, Bool.or_true, Bool.false_or, Bool.or_false, Bool.not_true, Bool.not_false, cond_true, cond_false, if_true, if_false, ite_true, ite_false, reduceIte, reduceCtorEq, Bool.false_eq_true, true_implies, false_implies, implies_true, and_true, true_and, Nat.reduceAdd, Nat.reduceSub, AV.int, AV.bool, AV.str, Nat.zero_add, fin1_NX_not, fin1_NX_if, fin1_NS_not, fin1_NS_if, finS_NX_not, finS_NX_if, finS_NS_not, finS_NS_if, Option.some.injEq, AV.tup.injEq, AV.prim.injEq, AV.agg.injEq, AV.frz.injEq, Value.int.injEq, Value.bool.injEq, Value.string.injEq, List.cons.injEq, decide_true, decide_false, List.take_zero, List.take_nil, List.take_succ_cons, Nat.reduceBEq, Nat.reduceEqDiff, Nat.reduceMul, Nat.reduceLT, Nat.reduceLeDiff, Int.reduceNeg, BEq.rfl, beq_self_eq_true, tabl, cellsOf, fldA, ldA, stA, entAt, partA, takeN, over, leafOk, List.all_cons, List.all_nil, Value.oneCell', List.drop_zero, List.drop_succ_cons, List.drop_nil, List.length_map, idxA, intN_cast, intN_zero, aBin_agg, aggB_eql, aggB_neq, aBin_nil, nilB_eql, nilB_neq, nilA, cellsEq, cellEq_int, cellEq_str, cellEq_bool, apA_eq, apB_one, apB_all, entAt_mid, put_new, put_mid, take_two, fillA, elemsA, pure1, pure2, List.replicate_succ, List.replicate_zero, reps, aConv_int, convI_some, aConv_str, RX_makeSlice, RX_makeSlice0, RX_copy, RX_appendS, RX_nilCheck, RX_min, RX_max, cvA_int, cvA_str, minA_int, maxA_int, aBin_refNil, aBin_fptrNil, aBin_nilNil, ptrNil_eql, ptrNil_neq, fz3_tup, fz3_agg, fz3_prim, fz3_frz, fz3_ref, fz3_fn, fz3_sref, fz2_agg, fz2_prim, fz2_frz, fz2_ref, fz2_fn, fz2_sref, fz1_prim, fz1_frz, fz1_ref, fz1_fn, fz1_sref, fz1_old, fzB_some, chkA, finM_BR, ext_mv, apB1_frz, apM_false, apM_true, tys, Tryd.results47, KX_draw, KX_drawQ, callP_eq, callM_true, digA, e5, e31, e32, d2, d3, hiw, hx', hy', hlt, hin2, hw1, hw2, hov, hov2, Nat.mul_one]
        exact IH (i + 1, (out.set i (x + 10000)).set (i + 1) (y - 1)) _ (by first | omega | (simp only; omega)) ⟨rfl, by first | omega | (dsimp only; omega), hp.neg hx hneg hy, (by first | rfl | simp only [getT, List.map_append, List.map_cons, List.map_nil, digC, digA]), (by first | rfl | simp only [getT, List.map_append, List.map_cons, List.map_nil, digC, digA]), (by first | rfl | simp only [getT, List.map_append, List.map_cons, List.map_nil, digC, digA]), (by first | rfl | simp only [getT, List.map_append, List.map_cons, List.map_nil, digC, digA])⟩
      · have d3 : decide (x < 0) = false := by simp; omega
        simp (maxSteps := 1000000) +contextual (disch := first | with_reducible assumption | exact ⟨rfl⟩ | (refine _root_.id ?_; kernel_rfl) | omega) only [KX_seq, KX_skip, KX_exit, KX_ret, KX_if, KX_block, KX_region, CX_seq, CX_block, CX_loop, CX_exit_seq, CX_exit_block, CX_exit_loop, CX_ret, CX_ret_nil, CX_normal_nil, NX_some, NS_some, BR_true, BR_false, BR_not, fin1_BR, finS_BR, RX_nil, RX_guard, RX_move, RX_assign, RX_pick, RX_bin, RX_un, RX_conv, RX_extract, RX_field, RX_indexAddr, RX_fieldAddr, RX_index, RX_build, RX_buildSlice, RX_slice, RX_makeFunc, RX_load, RX_store, RX_alloc, RX_box, RX_append, RX_len, RX_call, RX_callV, wantD_some, wantV_bool, wantV_undef, DX_zero, DX_succ, asB_bool, nth, put, putT, getT, opv_tmp, opv_const, opv_func, cst_int, cst_bool, cst_string, cst_nil, cst_ptr, pickA_true, pickA_false, pickA_bool, extA_tup, fldV_agg, bldA_some, litA_some, callV_fn, aBin_int, aBin_str, aBin_bool, binInt, binStr, binBool, aUn, outA, resA, mapO, resA1, oneOf, fin1_some, finS_some, w1, w2, w3, bots, lenV_str, lenV_frz, lenV_sref, List.map_cons, List.map_nil, List.cons_append, List.nil_append, List.length_cons, List.length_nil, List.toList_toArray, Option.map_some, Option.map_none, Option.bind_some, Option.bind_none, Option.isSome_some, beq_true, beq_false, Bool.true_and, Bool.false_and, Bool.and_true, Bool.and_false, Bool.true_or, Bool.or_true, Bool.false_or, Bool.or_false, Bool.not_true, Bool.not_false, cond_true, cond_false, if_true, if_false, ite_true, ite_false, reduceIte, reduceCtorEq, Bool.false_eq_true, true_implies, false_implies, implies_true, and_true, true_and, Nat.reduceAdd, Nat.reduceSub, AV.int, AV.bool, AV.str, Nat.zero_add, fin1_NX_not, fin1_NX_if, fin1_NS_not, fin1_NS_if, finS_NX_not, finS_NX_if, finS_NS_not, finS_NS_if, Option.some.injEq, AV.tup.injEq, AV.prim.injEq, AV.agg.injEq, AV.frz.injEq, Value.int.injEq, Value.bool.injEq, Value.string.injEq, List.cons.injEq, decide_true, decide_false, List.take_zero, List.take_nil, List.take_succ_cons, Nat.reduceBEq, Nat.reduceEqDiff, Nat.reduceMul, Nat.reduceLT, Nat.reduceLeDiff, Int.reduceNeg, BEq.rfl, beq_self_eq_true, tabl, cellsOf, fldA, ldA, stA, entAt, partA, takeN, over, leafOk, List.all_cons, List.all_nil, Value.oneCell', List.drop_zero, List.drop_succ_cons, List.drop_nil, List.length_map, idxA, intN_cast, intN_zero, aBin_agg, aggB_eql, aggB_neq, aBin_nil, nilB_eql, nilB_neq, nilA, cellsEq, cellEq_int, cellEq_str, cellEq_bool, apA_eq, apB_one, apB_all, entAt_mid, put_new, put_mid, take_two, fillA, elemsA, pure1, pure2, List.replicate_succ, List.replicate_zero, reps, aConv_int, convI_some, aConv_str, RX_makeSlice, RX_makeSlice0, RX_copy, RX_appendS, RX_nilCheck, RX_min, RX_max, cvA_int, cvA_str, minA_int, maxA_int, aBin_refNil, aBin_fptrNil, aBin_nilNil, ptrNil_eql, ptrNil_neq, fz3_tup, fz3_agg, fz3_prim, fz3_frz, fz3_ref, fz3_fn, fz3_sref, fz2_agg, fz2_prim, fz2_frz, fz2_ref, fz2_fn, fz2_sref, fz1_prim, fz1_frz, fz1_ref, fz1_fn, fz1_sref, fz1_old, fzB_some, chkA, finM_BR, ext_mv, apB1_frz, apM_false, apM_true, tys, Tryd.results47, KX_draw, KX_drawQ, callP_eq, callM_true, digA, e5, e31, e32, d2, d3, hiw, hx', hlt, Nat.mul_one]
        exact IH (i + 1, out) _ (by first | omega | (simp only; omega)) ⟨rfl, by first | omega | (dsimp only; omega), hp.small hx (by first | omega | (dsimp only; omega)), (by first | rfl | simp only [getT, List.map_append, List.map_cons, List.map_nil, digC, digA]), (by first | rfl | simp only [getT, List.map_append, List.map_cons, List.map_nil, digC, digA]), (by first | rfl | simp only [getT, List.map_append, List.map_cons, List.map_nil, digC, digA]), (by first | rfl | simp only [getT, List.map_append, List.map_cons, List.map_nil, digC, digA])⟩
    · have d2 : decide ((i : Int) < ((dig a).length : Int)) = false := by simpa using hlt
      have he : i = (dig a).length := by omega
      subst he
      have hdone := hp.done
      have hT := fun tk k => big_trim_own [⟨0, out.map numC⟩] tk k out 0 0 (by omega) rfl
      rw [hlen] at hT
      have hfz := fz_num (m := 0) (id := 0) (ep := 0) (S := [⟨0, out.map numC⟩]) (Nat.le_refl _) rfl (trim_len out)
      rw [← trim_is_take, hdone] at hfz
      rw [hdone] at hT
      simp (maxSteps := 1000000) +contextual (disch := first | with_reducible assumption | exact ⟨rfl⟩ | (refine _root_.id ?_; kernel_rfl) | omega) only [KX_seq, KX_skip, KX_exit, KX_ret, KX_if, KX_block, KX_region, CX_seq, CX_block, CX_loop, CX_exit_seq, CX_exit_block, CX_exit_loop, CX_ret, CX_ret_nil, CX_normal_nil, NX_some, NS_some, BR_true, BR_false, BR_not, fin1_BR, finS_BR, RX_nil, RX_guard, RX_move, RX_assign, RX_pick, RX_bin, RX_un, RX_conv, RX_extract, RX_field, RX_indexAddr, RX_fieldAddr, RX_index, RX_build, RX_buildSlice, RX_slice, RX_makeFunc, RX_load, RX_store, RX_alloc, RX_box, RX_append, RX_len, RX_call, RX_callV, wantD_some, wantV_bool, wantV_undef, DX_zero, DX_succ, asB_bool, nth, put, putT, getT, opv_tmp, opv_const, opv_func, cst_int, cst_bool, cst_string, cst_nil, cst_ptr, pickA_true, pickA_false, pickA_bool, extA_tup, fldV_agg, bldA_some, litA_some, callV_fn, aBin_int, aBin_str, aBin_bool, binInt, binStr, binBool, aUn, outA, resA, mapO, resA1, oneOf, fin1_some, finS_some, w1, w2, w3, bots, lenV_str, lenV_frz, lenV_sref, List.map_cons, List.map_nil, List.cons_append, List.nil_append, List.length_cons, List.length_nil, List.toList_toArray, Option.map_some, Option.map_none, Option.bind_some, Option.bind_none, Option.isSome_some, beq_true, beq_false, Bool.true_and, Bool.false_and, Bool.and_true, Bool.and_false, Bool.true_or, Bool.or_true, Bool.false_or, Bool.or_false, Bool.not_true, Bool.not_false, cond_true, cond_false, if_true, if_false, ite_true, ite_false, reduceIte, reduceCtorEq, Bool.false_eq_true, true_implies, false_implies, implies_true, and_true, true_and, Nat.reduceAdd, Nat.reduceSub, AV.int, AV.bool, AV.str, Nat.zero_add, fin1_NX_not, fin1_NX_if, fin1_NS_not, fin1_NS_if, finS_NX_not, finS_NX_if, finS_NS_not, finS_NS_if, Option.some.injEq, AV.tup.injEq, AV.prim.injEq, AV.agg.injEq, AV.frz.injEq, Value.int.injEq, Value.bool.injEq, Value.string.injEq, List.cons.injEq, decide_true, decide_false, List.take_zero, List.take_nil, List.take_succ_cons, Nat.reduceBEq, Nat.reduceEqDiff, Nat.reduceMul, Nat.reduceLT, Nat.reduceLeDiff, Int.reduceNeg, BEq.rfl, beq_self_eq_true, tabl, cellsOf, fldA, ldA, stA, entAt, partA, takeN, over, leafOk, List.all_cons, List.all_nil, Value.oneCell', List.drop_zero, List.drop_succ_cons, List.drop_nil, List.length_map, idxA, intN_cast, intN_zero, aBin_agg, aggB_eql, aggB_neq, aBin_nil, nilB_eql, nilB_neq, nilA, cellsEq, cellEq_int, cellEq_str, cellEq_bool, apA_eq, apB_one, apB_all, entAt_mid, put_new, put_mid, take_two, fillA, elemsA, pure1, pure2, List.replicate_succ, List.replicate_zero, reps, aConv_int, convI_some, aConv_str, RX_makeSlice, RX_makeSlice0, RX_copy, RX_appendS, RX_nilCheck, RX_min, RX_max, cvA_int, cvA_str, minA_int, maxA_int, aBin_refNil, aBin_fptrNil, aBin_nilNil, ptrNil_eql, ptrNil_neq, fz3_tup, fz3_agg, fz3_prim, fz3_frz, fz3_ref, fz3_fn, fz3_sref, fz2_agg, fz2_prim, fz2_frz, fz2_ref, fz2_fn, fz2_sref, fz1_prim, fz1_frz, fz1_ref, fz1_fn, fz1_sref, fz1_old, fzB_some, chkA, finM_BR, ext_mv, apB1_frz, apM_false, apM_true, tys, Tryd.results47, KX_draw, KX_drawQ, callP_eq, callM_true, digA, e5, e31, e32, d2, hT, hfz]
set_option maxRecDepth 100000 in
theorem R02_plus (a b : Nat) (ha : (dig a).length ≤ 100000) (hb : (dig b).length ≤ 100000) : cL Tryd.prog 49 [digA (dig a), digA (dig b)] S tk k = some (digA (dig (a + b)), S, tk, k) := by
  refine call_pure Tryd.func49 rfl rfl (by decide +kernel) (by decide +kernel) Tryd.ntmps49 rfl rfl _ _ _ rfl ?_; rw [RK_KX]
  simp (maxSteps := 1000000) +contextual (disch := first | with_reducible assumption | exact ⟨rfl⟩ | (refine _root_.id ?_; kernel_rfl) | omega) only [KX_seq, KX_skip, KX_exit, KX_ret, KX_if, KX_block, KX_region, CX_seq, CX_block, CX_loop, CX_exit_seq, CX_exit_block, CX_exit_loop, CX_ret, CX_ret_nil, CX_normal_nil, NX_some, NS_some, BR_true, BR_false, BR_not, fin1_BR, finS_BR, RX_nil, RX_guard, RX_move, RX_assign, RX_pick, RX_bin, RX_un, RX_conv, RX_extract, RX_field, RX_indexAddr, RX_fieldAddr, RX_index, RX_build, RX_buildSlice, RX_slice, RX_makeFunc, RX_load, RX_store, RX_alloc, RX_box, RX_append, RX_len, RX_call, RX_callV, wantD_some, wantV_bool, wantV_undef, DX_zero, DX_succ, asB_bool, nth, put, putT, getT, opv_tmp, opv_const, opv_func, cst_int, cst_bool, cst_string, cst_nil, cst_ptr, pickA_true, pickA_false, pickA_bool, extA_tup, fldV_agg, bldA_some, litA_some, callV_fn, aBin_int, aBin_str, aBin_bool, binInt, binStr, binBool, aUn, outA, resA, mapO, resA1, oneOf, fin1_some, finS_some, w1, w2, w3, bots, lenV_str, lenV_frz, lenV_sref, List.map_cons, List.map_nil, List.cons_append, List.nil_append, List.length_cons, List.length_nil, List.toList_toArray, Option.map_some, Option.map_none, Option.bind_some, Option.bind_none, Option.isSome_some, beq_true, beq_false, Bool.true_and, Bool.false_and, Bool.and_true, Bool.and_false, Bool.true_or, Bool.or_true, Bool.false_or, Bool.or_false, Bool.not_true, Bool.not_false, cond_true, cond_false, if_true, if_false, ite_true, ite_false, reduceIte, reduceCtorEq, Bool.false_eq_true, true_implies, false_implies, implies_true, and_true, true_and, Nat.reduceAdd, Nat.reduceSub, AV.int, AV.bool, AV.str, Nat.zero_add, fin1_NX_not, fin1_NX_if, fin1_NS_not, fin1_NS_if, finS_NX_not, finS_NX_if, finS_NS_not, finS_NS_if, Option.some.injEq, AV.tup.injEq, AV.prim.injEq, AV.agg.injEq, AV.frz.injEq, Value.int.injEq, Value.bool.injEq, Value.string.injEq, List.cons.injEq, decide_true, decide_false, List.take_zero, List.take_nil, List.take_succ_cons, Nat.reduceBEq, Nat.reduceEqDiff, Nat.reduceMul, Nat.reduceLT, Nat.reduceLeDiff, Int.reduceNeg, BEq.rfl, beq_self_eq_true, tabl, cellsOf, fldA, ldA, stA, entAt, partA, takeN, over, leafOk, List.all_cons, List.all_nil, Value.oneCell', List.drop_zero, List.drop_succ_cons, List.drop_nil, List.length_map, idxA, intN_cast, intN_zero, aBin_agg, aggB_eql, aggB_neq, aBin_nil, nilB_eql, nilB_neq, nilA, cellsEq, cellEq_int, cellEq_str, cellEq_bool, apA_eq, apB_one, apB_all, entAt_mid, put_new, put_mid, take_two, fillA, elemsA, pure1, pure2, List.replicate_succ, List.replicate_zero, reps, aConv_int, convI_some, aConv_str, RX_makeSlice, RX_makeSlice0, RX_copy, RX_appendS, RX_nilCheck, RX_min, RX_max, cvA_int, cvA_str, minA_int, maxA_int, aBin_refNil, aBin_fptrNil, aBin_nilNil, ptrNil_eql, ptrNil_neq, fz3_tup, fz3_agg, fz3_prim, fz3_frz, fz3_ref, fz3_fn, fz3_sref, fz2_agg, fz2_prim, fz2_frz, fz2_ref, fz2_fn, fz2_sref, fz1_prim, fz1_frz, fz1_ref, fz1_fn, fz1_sref, fz1_old, fzB_some, chkA, finM_BR, ext_mv, apB1_frz, apM_false, apM_true, tys, Tryd.results49, KX_draw, KX_drawQ, callP_eq, callM_true, digA]
  refine loop1 (fun x st => st.T.length = 43 ∧ (Sum1 a b x.1 x.2.1 x.2.2.1) ∧ (x.1 ≤ 100001) ∧ (okCap st.tk x.2.2.2 1 = true) ∧ (x.1 = 100001 → x.2.1 = 0) ∧ getT st.T 0 = digA (dig a) ∧ getT st.T 1 = digA (dig b) ∧ getT st.T 5 = .frz (x.2.2.1.map digC) x.2.2.2 ∧ getT st.T 6 = .int x.2.1 ∧ getT st.T 7 = .int (x.1 : Nat) ∧ st.S = []) (fun x => 2 * (max (dig a).length (dig b).length - x.1) + x.2.1.toNat) (fun x => digA (dig (a + b))) (0, 0, [], .nilc) ?_ ?_
  case refine_2 => exact ⟨rfl, ⟨rfl, by intro d hd; simp at hd, by simp, by rw [List.drop_zero, List.drop_zero, val_dig, val_dig]; simp [val]⟩, by omega, rfl, fun _ => rfl, rfl, rfl, rfl, rfl, rfl, rfl⟩
  rintro ⟨i, w, out, c⟩ ⟨T, S', tk', n'⟩ ⟨hl, hp, hi, hok, hib, e0, e1, e5, e6, e7, eS⟩ IH
  simp only at hp hi hok hib e0 e1 e5 e6 e7 eS
  subst eS
  obtain ⟨g, hg, hT⟩ := tab_of hl
  rw [hg] at e0 e1 e5 e6 e7
  subst hT
  clear hg hl
  have hlen := hp.len
  have hr := rowsOk_dig out
  have hn : (out.map digC).length + 1 ≤ 1048576 := by simp; omega
  have hok' := okCap_new hok
  have hiw := wrap_add (i := i) (by omega)
  have hw0 := hp.c0
  obtain ⟨n, hn0⟩ : ∃ n, n = (nth (dig a) i).getD 0 + (nth (dig b) i).getD 0 + w := ⟨_, rfl⟩
  obtain ⟨hst, hn1, hn2, hm1, hm2⟩ := hp.step hn0
  have hA := fun S tk k => R02_digit S tk k (dig a) i .unk
  have hB := fun S tk k => R02_digit S tk k (dig b) i .unk
  have g1 := dig_getD a i
  have g2 := dig_getD b i
  have hws : IntKind.i64.wrap ((nth (dig a) i).getD 0 + (nth (dig b) i).getD 0) = (nth (dig a) i).getD 0 + (nth (dig b) i).getD 0 := wrap_of (by unfold i64; omega)
  have hws2 : IntKind.i64.wrap ((nth (dig a) i).getD 0 + (nth (dig b) i).getD 0 + w) = n := by rw [hn0, wrap_of (by unfold i64; omega)]
  have hwq : IntKind.i64.wrap (n.tdiv 10000) = n.tdiv 10000 := by
    have e1 : n.tdiv 10000 = n / 10000 := Int.tdiv_eq_ediv_of_nonneg (by omega)
    rw [e1, wrap_of (by unfold i64; omega)]
  have hz : ((10000 : Int) == 0) = false := rfl
  have hz' : ¬ ((10000 : Int) = 0) := by omega
  have hdivn : n.tdiv 10000 = n / 10000 := Int.tdiv_eq_ediv_of_nonneg (by omega)
  by_cases ca : i < (dig a).length
  · have d1 : decide ((i : Int) < ((dig a).length : Int)) = true := by simpa using ca
    simp (maxSteps := 1000000) +contextual (disch := first | with_reducible assumption | exact ⟨rfl⟩ | (refine _root_.id ?_; kernel_rfl) | omega) only [KX_seq, KX_skip, KX_exit, KX_ret, KX_if, KX_block, KX_region, CX_seq, CX_block, CX_loop, CX_exit_seq, CX_exit_block, CX_exit_loop, CX_ret, CX_ret_nil, CX_normal_nil, NX_some, NS_some, BR_true, BR_false, BR_not, fin1_BR, finS_BR, RX_nil, RX_guard, RX_move, RX_assign, RX_pick, RX_bin, RX_un, RX_conv, RX_extract, RX_field, RX_indexAddr, RX_fieldAddr, RX_index, RX_build, RX_buildSlice, RX_slice, RX_makeFunc, RX_load, RX_store, RX_alloc, RX_box, RX_append, RX_len, RX_call, RX_callV, wantD_some, wantV_bool, wantV_undef, DX_zero, DX_succ, asB_bool, nth, put, putT, getT, opv_tmp, opv_const, opv_func, cst_int, cst_bool, cst_string, cst_nil, cst_ptr, pickA_true, pickA_false, pickA_bool, extA_tup, fldV_agg, bldA_some, litA_some, callV_fn, aBin_int, aBin_str, aBin_bool, binInt, binStr, binBool, aUn, outA, resA, mapO, resA1, oneOf, fin1_some, finS_some, w1, w2, w3, bots, lenV_str, lenV_frz, lenV_sref, List.map_cons, List.map_nil, List.cons_append, List.nil_append, List.length_cons, List.length_nil, List.toList_toArray, Option.map_some, Option.map_none, Option.bind_some, Option.bind_none, Option.isSome_some, beq_true, beq_false, Bool.true_and, Bool.false_and, Bool.and_true, Bool.and_false, Bool.true_or, Bool.or_true, Bool.false_or, Bool.or_false, Bool.not_true, Bool.not_false, cond_true, cond_false, if_true, if_false, ite_true, ite_false, reduceIte, reduceCtorEq, Bool.false_eq_true, true_implies, false_implies, implies_true, and_true, true_and, Nat.reduceAdd, Nat.reduceSub, AV.int, AV.bool, AV.str, Nat.zero_add, fin1_NX_not, fin1_NX_if, fin1_NS_not, fin1_NS_if, finS_NX_not, finS_NX_if, finS_NS_not, finS_NS_if, Option.some.injEq, AV.tup.injEq, AV.prim.injEq, AV.agg.injEq, AV.frz.injEq, Value.int.injEq, Value.bool.injEq, Value.string.injEq, List.cons.injEq, decide_true, decide_false, List.take_zero, List.take_nil, List.take_succ_cons, Nat.reduceBEq, Nat.reduceEqDiff, Nat.reduceMul, Nat.reduceLT, Nat.reduceLeDiff, Int.reduceNeg, BEq.rfl, beq_self_eq_true, tabl, cellsOf, fldA, ldA, stA, entAt, partA, takeN, over, leafOk, List.all_cons, List.all_nil, Value.oneCell', List.drop_zero, List.drop_succ_cons, List.drop_nil, List.length_map, idxA, intN_cast, intN_zero, aBin_agg, aggB_eql, aggB_neq, aBin_nil, nilB_eql, nilB_neq, nilA, cellsEq, cellEq_int, cellEq_str, cellEq_bool, apA_eq, apB_one, apB_all, entAt_mid, put_new, put_mid, take_two, fillA, elemsA, pure1, pure2, List.replicate_succ, List.replicate_zero, reps, aConv_int, convI_some, aConv_str, RX_makeSlice, RX_makeSlice0, RX_copy, RX_appendS, RX_nilCheck, RX_min, RX_max, cvA_int, cvA_str, minA_int, maxA_int, aBin_refNil, aBin_fptrNil, aBin_nilNil, ptrNil_eql, ptrNil_neq, fz3_tup, fz3_agg, fz3_prim, fz3_frz, fz3_ref, fz3_fn, fz3_sref, fz2_agg, fz2_prim, fz2_frz, fz2_ref, fz2_fn, fz2_sref, fz1_prim, fz1_frz, fz1_ref, fz1_fn, fz1_sref, fz1_old, fzB_some, chkA, finM_BR, ext_mv, apB1_frz, apM_false, apM_true, tys, Tryd.results49, KX_draw, KX_drawQ, callP_eq, callM_true, digA, e0, e1, e5, e6, e7, d1, hA, hB, hws, hws2, hwq, hr, hiw, hz']
    exact IH (i + 1, n.tdiv 10000, out ++ [n.tmod 10000], capNew tk' c 1) _ (by first | omega | (simp only; omega)) ⟨rfl, hst, by first | omega | (dsimp only; omega), hok', by first | omega | (dsimp only; omega), (by first | rfl | simp only [getT, List.map_append, List.map_cons, List.map_nil, digC, digA]), (by first | rfl | simp only [getT, List.map_append, List.map_cons, List.map_nil, digC, digA]), (by first | rfl | simp only [getT, List.map_append, List.map_cons, List.map_nil, digC, digA]), (by first | rfl | simp only [getT, List.map_append, List.map_cons, List.map_nil, digC, digA]), (by first | rfl | simp only [getT, List.map_append, List.map_cons, List.map_nil, digC, digA]), (by first | rfl | simp only [getT, List.map_append, List.map_cons, List.map_nil, digC, digA])⟩
  · have d1 : decide ((i : Int) < ((dig a).length : Int)) = false := by simpa using ca
    by_cases cb : i < (dig b).length
    · have d2 : decide ((i : Int) < ((dig b).length : Int)) = true := by simpa using cb
      simp (maxSteps := 1000000) +contextual (disch := first | with_reducible assumption | exact ⟨rfl⟩ | (refine _root_.id ?_; kernel_rfl) | omega) only [KX_seq, KX_skip, KX_exit, KX_ret, KX_if, KX_block, KX_region, CX_seq, CX_block, CX_loop, CX_exit_seq, CX_exit_block, CX_exit_loop, CX_ret, CX_ret_nil, CX_normal_nil, NX_some, NS_some, BR_true, BR_false, BR_not, fin1_BR, finS_BR, RX_nil, RX_guard, RX_move, RX_assign, RX_pick, RX_bin, RX_un, RX_conv, RX_extract, RX_field, RX_indexAddr, RX_fieldAddr, RX_index, RX_build, RX_buildSlice, RX_slice, RX_makeFunc, RX_load, RX_store, RX_alloc, RX_box, RX_append, RX_len, RX_call, RX_callV, wantD_some, wantV_bool, wantV_undef, DX_zero, DX_succ, asB_bool, nth, put, putT, getT, opv_tmp, opv_const, opv_func, cst_int, cst_bool, cst_string, cst_nil, cst_ptr, pickA_true, pickA_false, pickA_bool, extA_tup, fldV_agg, bldA_some, litA_some, callV_fn, aBin_int, aBin_str, aBin_bool, binInt, binStr, binBool, aUn, outA, resA, mapO, resA1, oneOf, fin1_some, finS_some, w1, w2, w3, bots, lenV_str, lenV_frz, lenV_sref, List.map_cons, List.map_nil, List.cons_append, List.nil_append, List.length_cons, List.length_nil, List.toList_toArray, Option.map_some, Option.map_none, Option.bind_some, Option.bind_none, Option.isSome_some, beq_true, beq_false, Bool.true_and, Bool.false_and, Bool.and_true, Bool.and_false, Bool.true_or, Bool.or_true, Bool.false_or, Bool.or_false, Bool.not_true, Bool.not_false, cond_true, cond_false, if_true, if_false, ite_true, ite_false, reduceIte, reduceCtorEq, Bool.false_eq_true, true_implies, false_implies, implies_true, and_true, true_and, Nat.reduceAdd, Nat.reduceSub, AV.int, AV.bool, AV.str, Nat.zero_add, fin1_NX_not, fin1_NX_if, fin1_NS_not, fin1_NS_if, finS_NX_not, finS_NX_if, finS_NS_not, finS_NS_if, Option.some.injEq, AV.tup.injEq, AV.prim.injEq, AV.agg.injEq, AV.frz.injEq, Value.int.injEq, Value.bool.injEq, Value.string.injEq, List.cons.injEq, decide_true, decide_false, List.take_zero, List.take_nil, List.take_succ_cons, Nat.reduceBEq, Nat.reduceEqDiff, Nat.reduceMul, Nat.reduceLT, Nat.reduceLeDiff, Int.reduceNeg, BEq.rfl, beq_self_eq_true, tabl, cellsOf, fldA, ldA, stA, entAt, partA, takeN, over, leafOk, List.all_cons, List.all_nil, Value.oneCell', List.drop_zero, List.drop_succ_cons, List.drop_nil, List.length_map, idxA, intN_cast, intN_zero, aBin_agg, aggB_eql, aggB_neq, aBin_nil, nilB_eql, nilB_neq, nilA, cellsEq, cellEq_int, cellEq_str, cellEq_bool, apA_eq, apB_one, apB_all, entAt_mid, put_new, put_mid, take_two, fillA, elemsA, pure1, pure2, List.replicate_succ, List.replicate_zero, reps, aConv_int, convI_some, aConv_str, RX_makeSlice, RX_makeSlice0, RX_copy, RX_appendS, RX_nilCheck, RX_min, RX_max, cvA_int, cvA_str, minA_int, maxA_int, aBin_refNil, aBin_fptrNil, aBin_nilNil, ptrNil_eql, ptrNil_neq, fz3_tup, fz3_agg, fz3_prim, fz3_frz, fz3_ref, fz3_fn, fz3_sref, fz2_agg, fz2_prim, fz2_frz, fz2_ref, fz2_fn, fz2_sref, fz1_prim, fz1_frz, fz1_ref, fz1_fn, fz1_sref, fz1_old, fzB_some, chkA, finM_BR, ext_mv, apB1_frz, apM_false, apM_true, tys, Tryd.results49, KX_draw, KX_drawQ, callP_eq, callM_true, digA, e0, e1, e5, e6, e7, d1, d2, hA, hB, hws, hws2, hwq, hr, hiw, hz']
      exact IH (i + 1, n.tdiv 10000, out ++ [n.tmod 10000], capNew tk' c 1) _ (by first | omega | (simp only; omega)) ⟨rfl, hst, by first | omega | (dsimp only; omega), hok', by first | omega | (dsimp only; omega), (by first | rfl | simp only [getT, List.map_append, List.map_cons, List.map_nil, digC, digA]), (by first | rfl | simp only [getT, List.map_append, List.map_cons, List.map_nil, digC, digA]), (by first | rfl | simp only [getT, List.map_append, List.map_cons, List.map_nil, digC, digA]), (by first | rfl | simp only [getT, List.map_append, List.map_cons, List.map_nil, digC, digA]), (by first | rfl | simp only [getT, List.map_append, List.map_cons, List.map_nil, digC, digA]), (by first | rfl | simp only [getT, List.map_append, List.map_cons, List.map_nil, digC, digA])⟩
    · have d2 : decide ((i : Int) < ((dig b).length : Int)) = false := by simpa using cb
      by_cases cw : w > 0
      · have d3 : decide (w > 0) = true := by simpa using cw
        simp (maxSteps := 1000000) +contextual (disch := first | with_reducible assumption | exact ⟨rfl⟩ | (refine _root_.id ?_; kernel_rfl) | omega) only [KX_seq, KX_skip, KX_exit, KX_ret, KX_if, KX_block, KX_region, CX_seq, CX_block, CX_loop, CX_exit_seq, CX_exit_block, CX_exit_loop, CX_ret, CX_ret_nil, CX_normal_nil, NX_some, NS_some, BR_true, BR_false, BR_not, fin1_BR, finS_BR, RX_nil, RX_guard, RX_move, RX_assign, RX_pick, RX_bin, RX_un, RX_conv, RX_extract, RX_field, RX_indexAddr, RX_fieldAddr, RX_index, RX_build, RX_buildSlice, RX_slice, RX_makeFunc, RX_load, RX_store, RX_alloc, RX_box, RX_append, RX_len, RX_call, RX_callV, wantD_some, wantV_bool, wantV_undef, DX_zero, DX_succ, asB_bool, nth, put, putT, getT, opv_tmp, opv_const, opv_func, cst_int, cst_bool, cst_string, cst_nil, cst_ptr, pickA_true, pickA_false, pickA_bool, extA_tup, fldV_agg, bldA_some, litA_some, callV_fn, aBin_int, aBin_str, aBin_bool, binInt, binStr, binBool, aUn, outA, resA, mapO, resA1, oneOf, fin1_some, finS_some, w1, w2, w3, bots, lenV_str, lenV_frz, lenV_sref, List.map_cons, List.map_nil, List.cons_append, List.nil_append, List.length_cons, List.length_nil, List.toList_toArray, Option.map_some, Option.map_none, Option.bind_some, Option.bind_none, Option.isSome_some, beq_true, beq_false, Bool.true_and, Bool.false_and, Bool.and_true, Bool.and_false, Bool.true_or, Bool.or_true, Bool.false_or, Bool.or_false, Bool.not_true, Bool.not_false, cond_true, cond_false, if_true, if_false, ite_true, ite_false, reduceIte, reduceCtorEq, Bool.false_eq_true, true_implies, false_implies, implies_true, and_true, true_and, Nat.reduceAdd, Nat.reduceSub, AV.int, AV.bool, AV.str, Nat.zero_add, fin1_NX_not, fin1_NX_if, fin1_NS_not, fin1_NS_if, finS_NX_not, finS_NX_if, finS_NS_not, finS_NS_if, Option.some.injEq, AV.tup.injEq, AV.prim.injEq, AV.agg.injEq, AV.frz.injEq, Value.int.injEq, Value.bool.injEq, Value.string.injEq, List.cons.injEq, decide_true, decide_false, List.take_zero, List.take_nil, List.take_succ_cons, Nat.reduceBEq, Nat.reduceEqDiff, Nat.reduceMul, Nat.reduceLT, Nat.reduceLeDiff, Int.reduceNeg, BEq.rfl, beq_self_eq_true, tabl, cellsOf, fldA, ldA, stA, entAt, partA, takeN, over, leafOk, List.all_cons, List.all_nil, Value.oneCell', List.drop_zero, List.drop_succ_cons, List.drop_nil, List.length_map, idxA, intN_cast, intN_zero, aBin_agg, aggB_eql, aggB_neq, aBin_nil, nilB_eql, nilB_neq, nilA, cellsEq, cellEq_int, cellEq_str, cellEq_bool, apA_eq, apB_one, apB_all, entAt_mid, put_new, put_mid, take_two, fillA, elemsA, pure1, pure2, List.replicate_succ, List.replicate_zero, reps, aConv_int, convI_some, aConv_str, RX_makeSlice, RX_makeSlice0, RX_copy, RX_appendS, RX_nilCheck, RX_min, RX_max, cvA_int, cvA_str, minA_int, maxA_int, aBin_refNil, aBin_fptrNil, aBin_nilNil, ptrNil_eql, ptrNil_neq, fz3_tup, fz3_agg, fz3_prim, fz3_frz, fz3_ref, fz3_fn, fz3_sref, fz2_agg, fz2_prim, fz2_frz, fz2_ref, fz2_fn, fz2_sref, fz1_prim, fz1_frz, fz1_ref, fz1_fn, fz1_sref, fz1_old, fzB_some, chkA, finM_BR, ext_mv, apB1_frz, apM_false, apM_true, tys, Tryd.results49, KX_draw, KX_drawQ, callP_eq, callM_true, digA, e0, e1, e5, e6, e7, d1, d2, d3, hA, hB, hws, hws2, hwq, hr, hiw, hz']
        have hsmall : n = w := by rw [hn0, nth_get, nth_get, List.getElem?_eq_none (by omega), List.getElem?_eq_none (by omega)]; simp
        exact IH (i + 1, n.tdiv 10000, out ++ [n.tmod 10000], capNew tk' c 1) _ (by first | omega | (simp only; omega)) ⟨rfl, hst, by first | omega | (dsimp only; omega), hok', by first | omega | (dsimp only; omega), (by first | rfl | simp only [getT, List.map_append, List.map_cons, List.map_nil, digC, digA]), (by first | rfl | simp only [getT, List.map_append, List.map_cons, List.map_nil, digC, digA]), (by first | rfl | simp only [getT, List.map_append, List.map_cons, List.map_nil, digC, digA]), (by first | rfl | simp only [getT, List.map_append, List.map_cons, List.map_nil, digC, digA]), (by first | rfl | simp only [getT, List.map_append, List.map_cons, List.map_nil, digC, digA]), (by first | rfl | simp only [getT, List.map_append, List.map_cons, List.map_nil, digC, digA])⟩
      · have d3 : decide (w > 0) = false := by simpa using cw
        have hdone := hp.done (by omega) (by omega) (by omega)
        have hT := fun S tk k => R02_trim S tk k out c (by omega)
        simp only [digA, hdone] at hT
        simp (maxSteps := 1000000) +contextual (disch := first | with_reducible assumption | exact ⟨rfl⟩ | (refine _root_.id ?_; kernel_rfl) | omega) only [KX_seq, KX_skip, KX_exit, KX_ret, KX_if, KX_block, KX_region, CX_seq, CX_block, CX_loop, CX_exit_seq, CX_exit_block, CX_exit_loop, CX_ret, CX_ret_nil, CX_normal_nil, NX_some, NS_some, BR_true, BR_false, BR_not, fin1_BR, finS_BR, RX_nil, RX_guard, RX_move, RX_assign, RX_pick, RX_bin, RX_un, RX_conv, RX_extract, RX_field, RX_indexAddr, RX_fieldAddr, RX_index, RX_build, RX_buildSlice, RX_slice, RX_makeFunc, RX_load, RX_store, RX_alloc, RX_box, RX_append, RX_len, RX_call, RX_callV, wantD_some, wantV_bool, wantV_undef, DX_zero, DX_succ, asB_bool, nth, put, putT, getT, opv_tmp, opv_const, opv_func, cst_int, cst_bool, cst_string, cst_nil, cst_ptr, pickA_true, pickA_false, pickA_bool, extA_tup, fldV_agg, bldA_some, litA_some, callV_fn, aBin_int, aBin_str, aBin_bool, binInt, binStr, binBool, aUn, outA, resA, mapO, resA1, oneOf, fin1_some, finS_some, w1, w2, w3, bots, lenV_str, lenV_frz, lenV_sref, List.map_cons, List.map_nil, List.cons_append, List.nil_append, List.length_cons, List.length_nil, List.toList_toArray, Option.map_some, Option.map_none, Option.bind_some, Option.bind_none, Option.isSome_some, beq_true, beq_false, Bool.true_and, Bool.false_and, Bool.and_true, Bool.and_false, Bool.true_or, Bool.or_true, Bool.false_or, Bool.or_false, Bool.not_true, Bool.not_false, cond_true, cond_false, if_true, if_false, ite_true, ite_false, reduceIte, reduceCtorEq, Bool.false_eq_true, true_implies, false_implies, implies_true, and_true, true_and, Nat.reduceAdd, Nat.reduceSub, AV.int, AV.bool, AV.str, Nat.zero_add, fin1_NX_not, fin1_NX_if, fin1_NS_not, fin1_NS_if, finS_NX_not, finS_NX_if, finS_NS_not, finS_NS_if, Option.some.injEq, AV.tup.injEq, AV.prim.injEq, AV.agg.injEq, AV.frz.injEq, Value.int.injEq, Value.bool.injEq, Value.string.injEq, List.cons.injEq, decide_true, decide_false, List.take_zero, List.take_nil, List.take_succ_cons, Nat.reduceBEq, Nat.reduceEqDiff, Nat.reduceMul, Nat.reduceLT, Nat.reduceLeDiff, Int.reduceNeg, BEq.rfl, beq_self_eq_true, tabl, cellsOf, fldA, ldA, stA, entAt, partA, takeN, over, leafOk, List.all_cons, List.all_nil, Value.oneCell', List.drop_zero, List.drop_succ_cons, List.drop_nil, List.length_map, idxA, intN_cast, intN_zero, aBin_agg, aggB_eql, aggB_neq, aBin_nil, nilB_eql, nilB_neq, nilA, cellsEq, cellEq_int, cellEq_str, cellEq_bool, apA_eq, apB_one, apB_all, entAt_mid, put_new, put_mid, take_two, fillA, elemsA, pure1, pure2, List.replicate_succ, List.replicate_zero, reps, aConv_int, convI_some, aConv_str, RX_makeSlice, RX_makeSlice0, RX_copy, RX_appendS, RX_nilCheck, RX_min, RX_max, cvA_int, cvA_str, minA_int, maxA_int, aBin_refNil, aBin_fptrNil, aBin_nilNil, ptrNil_eql, ptrNil_neq, fz3_tup, fz3_agg, fz3_prim, fz3_frz, fz3_ref, fz3_fn, fz3_sref, fz2_agg, fz2_prim, fz2_frz, fz2_ref, fz2_fn, fz2_sref, fz1_prim, fz1_frz, fz1_ref, fz1_fn, fz1_sref, fz1_old, fzB_some, chkA, finM_BR, ext_mv, apB1_frz, apM_false, apM_true, tys, Tryd.results49, KX_draw, KX_drawQ, callP_eq, callM_true, digA, e0, e1, e5, e6, e7, d1, d2, d3, hT]
set_option maxRecDepth 100000 in
theorem R02_minus (a b : Nat) (ha : (dig a).length ≤ 100000) (hab : b ≤ a) : cL Tryd.prog 50 [digA (dig a), digA (dig b)] S tk k = some (digA (dig (a - b)), S, tk, k) := by
  refine call_pure Tryd.func50 rfl rfl (by decide +kernel) (by decide +kernel) Tryd.ntmps50 rfl rfl _ _ _ rfl ?_; rw [RK_KX]
  simp (maxSteps := 1000000) +contextual (disch := first | with_reducible assumption | exact ⟨rfl⟩ | (refine _root_.id ?_; kernel_rfl) | omega) only [KX_seq, KX_skip, KX_exit, KX_ret, KX_if, KX_block, KX_region, CX_seq, CX_block, CX_loop, CX_exit_seq, CX_exit_block, CX_exit_loop, CX_ret, CX_ret_nil, CX_normal_nil, NX_some, NS_some, BR_true, BR_false, BR_not, fin1_BR, finS_BR, RX_nil, RX_guard, RX_move, RX_assign, RX_pick, RX_bin, RX_un, RX_conv, RX_extract, RX_field, RX_indexAddr, RX_fieldAddr, RX_index, RX_build, RX_buildSlice, RX_slice, RX_makeFunc, RX_load, RX_store, RX_alloc, RX_box, RX_append, RX_len, RX_call, RX_callV, wantD_some, wantV_bool, wantV_undef, DX_zero, DX_succ, asB_bool, nth, put, putT, getT, opv_tmp, opv_const, opv_func, cst_int, cst_bool, cst_string, cst_nil, cst_ptr, pickA_true, pickA_false, pickA_bool, extA_tup, fldV_agg, bldA_some, litA_some, callV_fn, aBin_int, aBin_str, aBin_bool, binInt, binStr, binBool, aUn, outA, resA, mapO, resA1, oneOf, fin1_some, finS_some, w1, w2, w3, bots, lenV_str, lenV_frz, lenV_sref, List.map_cons, List.map_nil, List.cons_append, List.nil_append, List.length_cons, List.length_nil, List.toList_toArray, Option.map_some, Option.map_none, Option.bind_some, Option.bind_none, Option.isSome_some, beq_true, beq_false, Bool.true_and, Bool.false_and, Bool.and_true, Bool.and_false, Bool.true_or, Bool.or_true, Bool.false_or, Bool.or_false, Bool.not_true, Bool.not_false, cond_true, cond_false, if_true, if_false, ite_true, ite_false, reduceIte, reduceCtorEq, Bool.false_eq_true, true_implies, false_implies, implies_true, and_true, true_and, Nat.reduceAdd, Nat.reduceSub, AV.int, AV.bool, AV.str, Nat.zero_add, fin1_NX_not, fin1_NX_if, fin1_NS_not, fin1_NS_if, finS_NX_not, finS_NX_if, finS_NS_not, finS_NS_if, Option.some.injEq, AV.tup.injEq, AV.prim.injEq, AV.agg.injEq, AV.frz.injEq, Value.int.injEq, Value.bool.injEq, Value.string.injEq, List.cons.injEq, decide_true, decide_false, List.take_zero, List.take_nil, List.take_succ_cons, Nat.reduceBEq, Nat.reduceEqDiff, Nat.reduceMul, Nat.reduceLT, Nat.reduceLeDiff, Int.reduceNeg, BEq.rfl, beq_self_eq_true, tabl, cellsOf, fldA, ldA, stA, entAt, partA, takeN, over, leafOk, List.all_cons, List.all_nil, Value.oneCell', List.drop_zero, List.drop_succ_cons, List.drop_nil, List.length_map, idxA, intN_cast, intN_zero, aBin_agg, aggB_eql, aggB_neq, aBin_nil, nilB_eql, nilB_neq, nilA, cellsEq, cellEq_int, cellEq_str, cellEq_bool, apA_eq, apB_one, apB_all, entAt_mid, put_new, put_mid, take_two, fillA, elemsA, pure1, pure2, List.replicate_succ, List.replicate_zero, reps, aConv_int, convI_some, aConv_str, RX_makeSlice, RX_makeSlice0, RX_copy, RX_appendS, RX_nilCheck, RX_min, RX_max, cvA_int, cvA_str, minA_int, maxA_int, aBin_refNil, aBin_fptrNil, aBin_nilNil, ptrNil_eql, ptrNil_neq, fz3_tup, fz3_agg, fz3_prim, fz3_frz, fz3_ref, fz3_fn, fz3_sref, fz2_agg, fz2_prim, fz2_frz, fz2_ref, fz2_fn, fz2_sref, fz1_prim, fz1_frz, fz1_ref, fz1_fn, fz1_sref, fz1_old, fzB_some, chkA, finM_BR, ext_mv, apB1_frz, apM_false, apM_true, tys, Tryd.results50, KX_draw, KX_drawQ, callP_eq, callM_true, digA]
  refine loop1 (fun x st => st.T.length = 35 ∧ (Dif1 a b x.1 x.2.1 x.2.2.1) ∧ (x.1 ≤ (dig a).length) ∧ (okCap st.tk x.2.2.2 1 = true) ∧ getT st.T 0 = digA (dig a) ∧ getT st.T 1 = digA (dig b) ∧ getT st.T 5 = .frz (x.2.2.1.map digC) x.2.2.2 ∧ getT st.T 6 = .int x.2.1 ∧ getT st.T 7 = .int (x.1 : Nat) ∧ st.S = []) (fun x => (dig a).length - x.1) (fun x => digA (dig (a - b))) (0, 0, [], .nilc) ?_ ?_
  case refine_2 => exact ⟨rfl, ⟨rfl, by intro d hd; simp at hd, by simp, by rw [List.drop_zero, List.drop_zero, val_dig, val_dig]; simp [val]⟩, Nat.zero_le _, rfl, rfl, rfl, rfl, rfl, rfl, rfl⟩
  rintro ⟨i, w, out, c⟩ ⟨T, S', tk', n'⟩ ⟨hl, hp, hi, hok, e0, e1, e5, e6, e7, eS⟩ IH
  simp only at hp hi hok e0 e1 e5 e6 e7 eS
  subst eS
  obtain ⟨g, hg, hT⟩ := tab_of hl
  rw [hg] at e0 e1 e5 e6 e7
  subst hT
  clear hg hl
  have hlen := hp.len
  have hr := rowsOk_dig out
  have hn : (out.map digC).length + 1 ≤ 1048576 := by simp; omega
  have hok' := okCap_new hok
  have hiw := wrap_add (i := i) (by omega)
  by_cases ca : i < (dig a).length
  · have d1 : decide ((i : Int) < ((dig a).length : Int)) = true := by simpa using ca
    obtain ⟨d, hd⟩ := nth_some ca
    have hd' := nth_dig hd
    obtain ⟨n, hn0⟩ : ∃ n, n = d - (nth (dig b) i).getD 0 - w := ⟨_, rfl⟩
    obtain ⟨hs1, hs2, hn1, hn2⟩ := hp.step hd hn0
    have hB := fun S tk k => R02_digit S tk k (dig b) i .unk
    have hdk := of_okD (okD_dig a) hd
    have g2 := dig_getD b i
    have hws : IntKind.i64.wrap (d - (nth (dig b) i).getD 0) = d - (nth (dig b) i).getD 0 := wrap_of (by unfold i64; omega)
    have hws2 : IntKind.i64.wrap (d - (nth (dig b) i).getD 0 - w) = n := by rw [hn0, wrap_of (by unfold i64; have := hp.c0; omega)]
    have hws3 : IntKind.i64.wrap (n + 10000) = n + 10000 := wrap_of (by unfold i64; omega)
    by_cases hneg : n < 0
    · have d2 : decide (n < 0) = true := by simpa using hneg
      simp (maxSteps := 1000000) +contextual (disch := first | with_reducible assumption | exact ⟨rfl⟩ | (refine _root_.id ?_; kernel_rfl) | omega) only [KX_seq, KX_skip, KX_exit, KX_ret, KX_if, KX_block, KX_region, CX_seq, CX_block, CX_loop, CX_exit_seq, CX_exit_block, CX_exit_loop, CX_ret, CX_ret_nil, CX_normal_nil, NX_some, NS_some, BR_true, BR_false, BR_not, fin1_BR, finS_BR, RX_nil, RX_guard, RX_move, RX_assign, RX_pick, RX_bin, RX_un, RX_conv, RX_extract, RX_field, RX_indexAddr, RX_fieldAddr, RX_index, RX_build, RX_buildSlice, RX_slice, RX_makeFunc, RX_load, RX_store, RX_alloc, RX_box, RX_append, RX_len, RX_call, RX_callV, wantD_some, wantV_bool, wantV_undef, DX_zero, DX_succ, asB_bool, nth, put, putT, getT, opv_tmp, opv_const, opv_func, cst_int, cst_bool, cst_string, cst_nil, cst_ptr, pickA_true, pickA_false, pickA_bool, extA_tup, fldV_agg, bldA_some, litA_some, callV_fn, aBin_int, aBin_str, aBin_bool, binInt, binStr, binBool, aUn, outA, resA, mapO, resA1, oneOf, fin1_some, finS_some, w1, w2, w3, bots, lenV_str, lenV_frz, lenV_sref, List.map_cons, List.map_nil, List.cons_append, List.nil_append, List.length_cons, List.length_nil, List.toList_toArray, Option.map_some, Option.map_none, Option.bind_some, Option.bind_none, Option.isSome_some, beq_true, beq_false, Bool.true_and, Bool.false_and, Bool.and_true, Bool.and_false, Bool.true_or, Bool.or_true, Bool.false_or, Bool.or_false, Bool.not_true, Bool.not_false, cond_true, cond_false, if_true, if_false, ite_true, ite_false, reduceIte, reduceCtorEq, Bool.false_eq_true, true_implies, false_implies, implies_true, and_true, true_and, Nat.reduceAdd, Nat.reduceSub, AV.int, AV.bool, AV.str, Nat.zero_add, fin1_NX_not, fin1_NX_if, fin1_NS_not, fin1_NS_if, finS_NX_not, finS_NX_if, finS_NS_not, finS_NS_if, Option.some.injEq, AV.tup.injEq, AV.prim.injEq, AV.agg.injEq, AV.frz.injEq, Value.int.injEq, Value.bool.injEq, Value.string.injEq, List.cons.injEq, decide_true, decide_false, List.take_zero, List.take_nil, List.take_succ_cons, Nat.reduceBEq, Nat.reduceEqDiff, Nat.reduceMul, Nat.reduceLT, Nat.reduceLeDiff, Int.reduceNeg, BEq.rfl, beq_self_eq_true, tabl, cellsOf, fldA, ldA, stA, entAt, partA, takeN, over, leafOk, List.all_cons, List.all_nil, Value.oneCell', List.drop_zero, List.drop_succ_cons, List.drop_nil, List.length_map, idxA, intN_cast, intN_zero, aBin_agg, aggB_eql, aggB_neq, aBin_nil, nilB_eql, nilB_neq, nilA, cellsEq, cellEq_int, cellEq_str, cellEq_bool, apA_eq, apB_one, apB_all, entAt_mid, put_new, put_mid, take_two, fillA, elemsA, pure1, pure2, List.replicate_succ, List.replicate_zero, reps, aConv_int, convI_some, aConv_str, RX_makeSlice, RX_makeSlice0, RX_copy, RX_appendS, RX_nilCheck, RX_min, RX_max, cvA_int, cvA_str, minA_int, maxA_int, aBin_refNil, aBin_fptrNil, aBin_nilNil, ptrNil_eql, ptrNil_neq, fz3_tup, fz3_agg, fz3_prim, fz3_frz, fz3_ref, fz3_fn, fz3_sref, fz2_agg, fz2_prim, fz2_frz, fz2_ref, fz2_fn, fz2_sref, fz1_prim, fz1_frz, fz1_ref, fz1_fn, fz1_sref, fz1_old, fzB_some, chkA, finM_BR, ext_mv, apB1_frz, apM_false, apM_true, tys, Tryd.results50, KX_draw, KX_drawQ, callP_eq, callM_true, digA, e0, e1, e5, e6, e7, d1, d2, hd', hB, hws, hws2, hws3, hr, hiw]
      exact IH (i + 1, 1, out ++ [n + 10000], capNew tk' c 1) _ (by first | omega | (simp only; omega)) ⟨rfl, hs1 hneg, by first | omega | (dsimp only; omega), hok', (by first | rfl | simp only [getT, List.map_append, List.map_cons, List.map_nil, digC, digA]), (by first | rfl | simp only [getT, List.map_append, List.map_cons, List.map_nil, digC, digA]), (by first | rfl | simp only [getT, List.map_append, List.map_cons, List.map_nil, digC, digA]), (by first | rfl | simp only [getT, List.map_append, List.map_cons, List.map_nil, digC, digA]), (by first | rfl | simp only [getT, List.map_append, List.map_cons, List.map_nil, digC, digA]), (by first | rfl | simp only [getT, List.map_append, List.map_cons, List.map_nil, digC, digA])⟩
    · have d2 : decide (n < 0) = false := by simpa using hneg
      simp (maxSteps := 1000000) +contextual (disch := first | with_reducible assumption | exact ⟨rfl⟩ | (refine _root_.id ?_; kernel_rfl) | omega) only [KX_seq, KX_skip, KX_exit, KX_ret, KX_if, KX_block, KX_region, CX_seq, CX_block, CX_loop, CX_exit_seq, CX_exit_block, CX_exit_loop, CX_ret, CX_ret_nil, CX_normal_nil, NX_some, NS_some, BR_true, BR_false, BR_not, fin1_BR, finS_BR, RX_nil, RX_guard, RX_move, RX_assign, RX_pick, RX_bin, RX_un, RX_conv, RX_extract, RX_field, RX_indexAddr, RX_fieldAddr, RX_index, RX_build, RX_buildSlice, RX_slice, RX_makeFunc, RX_load, RX_store, RX_alloc, RX_box, RX_append, RX_len, RX_call, RX_callV, wantD_some, wantV_bool, wantV_undef, DX_zero, DX_succ, asB_bool, nth, put, putT, getT, opv_tmp, opv_const, opv_func, cst_int, cst_bool, cst_string, cst_nil, cst_ptr, pickA_true, pickA_false, pickA_bool, extA_tup, fldV_agg, bldA_some, litA_some, callV_fn, aBin_int, aBin_str, aBin_bool, binInt, binStr, binBool, aUn, outA, resA, mapO, resA1, oneOf, fin1_some, finS_some, w1, w2, w3, bots, lenV_str, lenV_frz, lenV_sref, List.map_cons, List.map_nil, List.cons_append, List.nil_append, List.length_cons, List.length_nil, List.toList_toArray, Option.map_some, Option.map_none, Option.bind_some, Option.bind_none, Option.isSome_some, beq_true, beq_false, Bool.true_and, Bool.false_and, Bool.and_true, Bool.and_false, Bool.true_or, Bool.or_true, Bool.false_or, Bool.or_false, Bool.not_true, Bool.not_false, cond_true, cond_false, if_true, if_false, ite_true, ite_false, reduceIte, reduceCtorEq, Bool.false_eq_true, true_implies, false_implies, implies_true, and_true, true_and, Nat.reduceAdd, Nat.reduceSub, AV.int, AV.bool, AV.str, Nat.zero_add, fin1_NX_not, fin1_NX_if, fin1_NS_not, fin1_NS_if, finS_NX_not, finS_NX_if, finS_NS_not, finS_NS_if, Option.some.injEq, AV.tup.injEq, AV.prim.injEq, AV.agg.injEq, AV.frz.injEq, Value.int.injEq, Value.bool.injEq, Value.string.injEq, List.cons.injEq, decide_true, decide_false, List.take_zero, List.take_nil, List.take_succ_cons, Nat.reduceBEq, Nat.reduceEqDiff, Nat.reduceMul, Nat.reduceLT, Nat.reduceLeDiff, Int.reduceNeg, BEq.rfl, beq_self_eq_true, tabl, cellsOf, fldA, ldA, stA, entAt, partA, takeN, over, leafOk, List.all_cons, List.all_nil, Value.oneCell', List.drop_zero, List.drop_succ_cons, List.drop_nil, List.length_map, idxA, intN_cast, intN_zero, aBin_agg, aggB_eql, aggB_neq, aBin_nil, nilB_eql, nilB_neq, nilA, cellsEq, cellEq_int, cellEq_str, cellEq_bool, apA_eq, apB_one, apB_all, entAt_mid, put_new, put_mid, take_two, fillA, elemsA, pure1, pure2, List.replicate_succ, List.replicate_zero, reps, aConv_int, convI_some, aConv_str, RX_makeSlice, RX_makeSlice0, RX_copy, RX_appendS, RX_nilCheck, RX_min, RX_max, cvA_int, cvA_str, minA_int, maxA_int, aBin_refNil, aBin_fptrNil, aBin_nilNil, ptrNil_eql, ptrNil_neq, fz3_tup, fz3_agg, fz3_prim, fz3_frz, fz3_ref, fz3_fn, fz3_sref, fz2_agg, fz2_prim, fz2_frz, fz2_ref, fz2_fn, fz2_sref, fz1_prim, fz1_frz, fz1_ref, fz1_fn, fz1_sref, fz1_old, fzB_some, chkA, finM_BR, ext_mv, apB1_frz, apM_false, apM_true, tys, Tryd.results50, KX_draw, KX_drawQ, callP_eq, callM_true, digA, e0, e1, e5, e6, e7, d1, d2, hd', hB, hws, hws2, hws3, hr, hiw]
      exact IH (i + 1, 0, out ++ [n], capNew tk' c 1) _ (by first | omega | (simp only; omega)) ⟨rfl, hs2 hneg, by first | omega | (dsimp only; omega), hok', (by first | rfl | simp only [getT, List.map_append, List.map_cons, List.map_nil, digC, digA]), (by first | rfl | simp only [getT, List.map_append, List.map_cons, List.map_nil, digC, digA]), (by first | rfl | simp only [getT, List.map_append, List.map_cons, List.map_nil, digC, digA]), (by first | rfl | simp only [getT, List.map_append, List.map_cons, List.map_nil, digC, digA]), (by first | rfl | simp only [getT, List.map_append, List.map_cons, List.map_nil, digC, digA]), (by first | rfl | simp only [getT, List.map_append, List.map_cons, List.map_nil, digC, digA])⟩
  · have d1 : decide ((i : Int) < ((dig a).length : Int)) = false := by simpa using ca
    have he : i = (dig a).length := by omega
    subst he
    have hdone := hp.done hab
    have hT := fun S tk k => R02_trim S tk k out c (by omega)
    simp only [digA, hdone] at hT
    simp (maxSteps := 1000000) +contextual (disch := first | with_reducible assumption | exact ⟨rfl⟩ | (refine _root_.id ?_; kernel_rfl) | omega) only [KX_seq, KX_skip, KX_exit, KX_ret, KX_if, KX_block, KX_region, CX_seq, CX_block, CX_loop, CX_exit_seq, CX_exit_block, CX_exit_loop, CX_ret, CX_ret_nil, CX_normal_nil, NX_some, NS_some, BR_true, BR_false, BR_not, fin1_BR, finS_BR, RX_nil, RX_guard, RX_move, RX_assign, RX_pick, RX_bin, RX_un, RX_conv, RX_extract, RX_field, RX_indexAddr, RX_fieldAddr, RX_index, RX_build, RX_buildSlice, RX_slice, RX_makeFunc, RX_load, RX_store, RX_alloc, RX_box, RX_append, RX_len, RX_call, RX_callV, wantD_some, wantV_bool, wantV_undef, DX_zero, DX_succ, asB_bool, nth, put, putT, getT, opv_tmp, opv_const, opv_func, cst_int, cst_bool, cst_string, cst_nil, cst_ptr, pickA_true, pickA_false, pickA_bool, extA_tup, fldV_agg, bldA_some, litA_some, callV_fn, aBin_int, aBin_str, aBin_bool, binInt, binStr, binBool, aUn, outA, resA, mapO, resA1, oneOf, fin1_some, finS_some, w1, w2, w3, bots, lenV_str, lenV_frz, lenV_sref, List.map_cons, List.map_nil, List.cons_append, List.nil_append, List.length_cons, List.length_nil, List.toList_toArray, Option.map_some, Option.map_none, Option.bind_some, Option.bind_none, Option.isSome_some, beq_true, beq_false, Bool.true_and, Bool.false_and, Bool.and_true, Bool.and_false, Bool.true_or, Bool.or_true, Bool.false_or, Bool.or_false, Bool.not_true, Bool.not_false, cond_true, cond_false, if_true, if_false, ite_true, ite_false, reduceIte, reduceCtorEq, Bool.false_eq_true, true_implies, false_implies, implies_true, and_true, true_and, Nat.reduceAdd, Nat.reduceSub, AV.int, AV.bool, AV.str, Nat.zero_add, fin1_NX_not, fin1_NX_if, fin1_NS_not, fin1_NS_if, finS_NX_not, finS_NX_if, finS_NS_not, finS_NS_if, Option.some.injEq, AV.tup.injEq, AV.prim.injEq, AV.agg.injEq, AV.frz.injEq, Value.int.injEq, Value.bool.injEq, Value.string.injEq, List.cons.injEq, decide_true, decide_false, List.take_zero, List.take_nil, List.take_succ_cons, Nat.reduceBEq, Nat.reduceEqDiff, Nat.reduceMul, Nat.reduceLT, Nat.reduceLeDiff, Int.reduceNeg, BEq.rfl, beq_self_eq_true, tabl, cellsOf, fldA, ldA, stA, entAt, partA, takeN, over, leafOk, List.all_cons, List.all_nil, Value.oneCell', List.drop_zero, List.drop_succ_cons, List.drop_nil, List.length_map, idxA, intN_cast, intN_zero, aBin_agg, aggB_eql, aggB_neq, aBin_nil, nilB_eql, nilB_neq, nilA, cellsEq, cellEq_int, cellEq_str, cellEq_bool, apA_eq, apB_one, apB_all, entAt_mid, put_new, put_mid, take_two, fillA, elemsA, pure1, pure2, List.replicate_succ, List.replicate_zero, reps, aConv_int, convI_some, aConv_str, RX_makeSlice, RX_makeSlice0, RX_copy, RX_appendS, RX_nilCheck, RX_min, RX_max, cvA_int, cvA_str, minA_int, maxA_int, aBin_refNil, aBin_fptrNil, aBin_nilNil, ptrNil_eql, ptrNil_neq, fz3_tup, fz3_agg, fz3_prim, fz3_frz, fz3_ref, fz3_fn, fz3_sref, fz2_agg, fz2_prim, fz2_frz, fz2_ref, fz2_fn, fz2_sref, fz1_prim, fz1_frz, fz1_ref, fz1_fn, fz1_sref, fz1_old, fzB_some, chkA, finM_BR, ext_mv, apB1_frz, apM_false, apM_true, tys, Tryd.results50, KX_draw, KX_drawQ, callP_eq, callM_true, digA, e0, e1, e5, e6, e7, d1, hT]
end
end Go.Proofs.YtokncdoejnchfaaDoor
