/-
  Texts laid together: DR2, DP1, DP2, DR3, DO1, DO2.
-/
import Derived.Test.YtkghgdkkholieaaDoorZA11
import Derived.Test.YtkghgdkkholieaaDoorZA10
/-
  Core names, by the reference.
-/

namespace Go.Proofs.YtkghgdkkholieaaDoor
open Go
theorem strC_len (x : ByteArray) : (strC x).length = 1 := rfl
theorem segs_at {l : List UInt8} {i : Nat} {b : UInt8} (h : nth l i = some b) (hn : ∀ j c, j < i → nth l j = some c → c.toNat ≠ 46) (hb : b.toNat = 46) : segsL l = l.take i :: segsL (l.drop (i + 1)) := by
  rw [segs_cut, cut_at l i b h hn hb]; rfl
theorem segs_none {l : List UInt8} (hn : ∀ j c, nth l j = some c → c.toNat ≠ 46) : segsL l = [l] := by
  rw [segs_cut, cut_none l hn]; rfl
theorem nth_dropI {α : Type} (l : List α) (a j : Nat) : nth (l.drop a) j = nth l (a + j) := by
  rw [nth_get, nth_get, List.getElem?_drop]
theorem slice_mid (s : ByteArray) (a i : Nat) (h : a ≤ i) (h2 : i ≤ s.size) : sliceA Tryd.prog 9 (.prim (.string s)) (some (.prim (.int .i64 (a : Int)))) (some (.prim (.int .i64 (i : Int)))) none = some (.str (ofL (((bsL s).drop a).take (i - a)))) := by
  have : s.extract a i = ofL (((bsL s).drop a).take (i - a)) := by rw [extract_ofL, List.drop_take]
  simp [sliceA, isS, bound, intN, h, h2, this]
theorem slice_end (s : ByteArray) (a : Nat) (h : a ≤ s.size) : sliceA Tryd.prog 9 (.prim (.string s)) (some (.prim (.int .i64 (a : Int)))) none none = some (.str (ofL ((bsL s).drop a))) := by
  rw [slice_from s a h, extract_ofL, ← bsL_len, List.take_length]
section
variable (S : List Ent) (tk : List Nat) (k : Nat)
theorem R04_parts (s : ByteArray) (hs : s.size ≤ 1000000) : cL Tryd.prog 79 [.str s] S tk k = some (.frz ((segsF s).map strC) .unk, S, tk, k) := by
  refine call_pure Tryd.func79 rfl rfl (by decide +kernel) (by decide +kernel) Tryd.ntmps79 rfl rfl _ _ _ rfl ?_; rw [RK_KX]
  simp (maxSteps := 1000000) +contextual (disch := first | with_reducible assumption | exact ⟨rfl⟩ | exact ⟨rfl, rfl⟩ | (refine _root_.id ?_; kernel_rfl) | omega) only [evs, ext_mv, nth, put, putT, getT, binInt, binStr, binBool, aUn, outA, resA, mapO, resA1, oneOf, w1, w2, w3, bots, cond_true, cond_false, if_true, if_false, ite_true, ite_false, reduceIte, reduceCtorEq, implies_true, Nat.reduceAdd, Nat.reduceSub, AV.int, AV.bool, AV.str, Nat.reduceBEq, Nat.reduceEqDiff, Nat.reduceMul, Nat.reduceLT, Nat.reduceLeDiff, Int.reduceNeg, BEq.rfl, beq_self_eq_true, tabl, cellsOf, fldA, ldA, stA, entAt, partA, takeN, over, leafOk, Value.oneCell', idxA, nilA, cellsEq, fillA, elemsA, pure1, pure2, reps, chkA, tys, Tryd.results79, KX_draw, KX_drawQ, KX_tail, lastO_one, lastO_more, dropL_one, dropL_more, callP_eq, callM_true]
  refine loop1 (P := Tryd.prog) (fun x st => st.T.length = 31 ∧ (x.1 ≤ s.size) ∧ (x.2.1 ≤ x.1) ∧ (x.2.2.1.length ≤ x.1) ∧ (okCap st.tk x.2.2.2 1 = true) ∧ (segsF s = x.2.2.1 ++ (segsL ((bsL s).drop x.2.1)).map ofL) ∧ (∀ q y, x.2.1 ≤ q → q < x.1 → nth (bsL s) q = some y → y.toNat ≠ 46) ∧ getT st.T 0 = .str s ∧ getT st.T 3 = .frz (x.2.2.1.map strC) x.2.2.2 ∧ getT st.T 4 = .int (x.2.1 : Nat) ∧ getT st.T 7 = .int (s.size : Nat) ∧ getT st.T 8 = .int (x.1 : Nat) ∧ st.S = []) (fun x => s.size - x.1) (fun x => .frz ((segsF s).map strC) .unk) (0, 0, [], .nilc) ?_ ?_
  case refine_2 => exact ⟨rfl, Nat.zero_le _, Nat.zero_le _, Nat.le_refl _, rfl, rfl, fun q y h1 h2 => by omega, rfl, rfl, rfl, rfl, rfl, rfl⟩
  rintro ⟨i, a, o, c⟩ ⟨T, S', tk', n'⟩ ⟨hl, hi, ha, ho, hok, hm, hA, e0, e3, e4, e7, e8, eS⟩ IH
  simp only at hi ha ho hok hm hA e0 e3 e4 e7 e8 eS
  subst eS
  obtain ⟨g, hg, hT⟩ := tab_of hl
  rw [hg] at e0 e3 e4 e7 e8
  subst hT
  clear hg hl
  have hr := rowsOk_map (f := strC) (sz := 1) (fun _ => rfl) o
  have hn : (o.map strC).length + 1 ≤ 1048576 := by simp; omega
  have hok' := okCap_new hok
  by_cases la : i < s.size
  · have d1 : decide ((i : Int) < (s.size : Int)) = true := by simpa using la
    obtain ⟨b, hb⟩ := bs_at la
    have hb' := sIx hb
    have hw := wrap_add (i := i) (m := 0) (by omega)
    by_cases h46 : b.toNat = 46
    · have d2 : (((b.toNat : Nat) : Int) == 46) = true := by rw [h46]; rfl
      have hseg := segs_at (l := (bsL s).drop a) (i := i - a) (b := b) (by rw [nth_dropI, show a + (i - a) = i by omega]; exact hb) (fun j c hj hc => by rw [nth_dropI] at hc; exact hA (a + j) c (by omega) (by omega) hc) h46
      rw [List.drop_drop, show a + (i - a + 1) = i + 1 by omega] at hseg
      have s1 := slice_mid s a i ha hi
      rw [hseg, List.map_cons] at hm
      generalize ofL (((bsL s).drop a).take (i - a)) = y at *
      simp (maxSteps := 1000000) +contextual (disch := first | with_reducible assumption | exact ⟨rfl⟩ | exact ⟨rfl, rfl⟩ | (refine _root_.id ?_; kernel_rfl) | omega) only [evs, ext_mv, nth, put, putT, getT, binInt, binStr, binBool, aUn, outA, resA, mapO, resA1, oneOf, w1, w2, w3, bots, cond_true, cond_false, if_true, if_false, ite_true, ite_false, reduceIte, reduceCtorEq, implies_true, Nat.reduceAdd, Nat.reduceSub, AV.int, AV.bool, AV.str, Nat.reduceBEq, Nat.reduceEqDiff, Nat.reduceMul, Nat.reduceLT, Nat.reduceLeDiff, Int.reduceNeg, BEq.rfl, beq_self_eq_true, tabl, cellsOf, fldA, ldA, stA, entAt, partA, takeN, over, leafOk, Value.oneCell', idxA, nilA, cellsEq, fillA, elemsA, pure1, pure2, reps, chkA, tys, Tryd.results79, KX_draw, KX_drawQ, KX_tail, lastO_one, lastO_more, dropL_one, dropL_more, callP_eq, callM_true, e0, e3, e4, e7, e8, d1, d2, hb', hw, s1, hr, strC]
      exact IH (i + 1, i + 1, o ++ [y], capNew tk' c 1) _ (by simp only; omega) ⟨rfl, la, Nat.le_refl _, by simp; omega, hok', by simp only [hm, List.append_assoc, List.cons_append, List.nil_append], fun q y h1 h2 => by simp only at h1 h2; omega, rfl, by simp [getT, strC], rfl, rfl, rfl, rfl⟩
    · have d2 : (((b.toNat : Nat) : Int) == 46) = false := by simp; omega
      simp (maxSteps := 1000000) +contextual (disch := first | with_reducible assumption | exact ⟨rfl⟩ | exact ⟨rfl, rfl⟩ | (refine _root_.id ?_; kernel_rfl) | omega) only [evs, ext_mv, nth, put, putT, getT, binInt, binStr, binBool, aUn, outA, resA, mapO, resA1, oneOf, w1, w2, w3, bots, cond_true, cond_false, if_true, if_false, ite_true, ite_false, reduceIte, reduceCtorEq, implies_true, Nat.reduceAdd, Nat.reduceSub, AV.int, AV.bool, AV.str, Nat.reduceBEq, Nat.reduceEqDiff, Nat.reduceMul, Nat.reduceLT, Nat.reduceLeDiff, Int.reduceNeg, BEq.rfl, beq_self_eq_true, tabl, cellsOf, fldA, ldA, stA, entAt, partA, takeN, over, leafOk, Value.oneCell', idxA, nilA, cellsEq, fillA, elemsA, pure1, pure2, reps, chkA, tys, Tryd.results79, KX_draw, KX_drawQ, KX_tail, lastO_one, lastO_more, dropL_one, dropL_more, callP_eq, callM_true, e0, e3, e4, e7, e8, d1, d2, hb', hw]
      refine IH (i + 1, a, o, c) _ (by simp only; omega) ⟨rfl, la, by simp only; omega, by simp only; omega, hok, hm, fun j c' h1 h2 hc => ?_, rfl, rfl, rfl, rfl, rfl, rfl⟩
      by_cases hji : j = i
      · subst hji; rw [hb] at hc; cases hc; exact h46
      · exact hA j c' h1 (by simp only at h2; omega) hc
  · have d1 : decide ((i : Int) < (s.size : Int)) = false := by simpa using la
    have he : i = s.size := by omega
    have hseg := segs_none (l := (bsL s).drop a) (fun j c hc => by
      rw [nth_dropI] at hc
      have : a + j < s.size := by
        rw [nth_get] at hc
        have := (List.getElem?_eq_some_iff.1 hc).1
        rwa [bsL_len] at this
      exact hA (a + j) c (by omega) (by omega) hc)
    have s1 := slice_end s a (by omega)
    rw [hseg, List.map_cons, List.map_nil] at hm
    generalize ofL ((bsL s).drop a) = y at *
    simp (maxSteps := 1000000) +contextual (disch := first | with_reducible assumption | exact ⟨rfl⟩ | exact ⟨rfl, rfl⟩ | (refine _root_.id ?_; kernel_rfl) | omega) only [evs, ext_mv, nth, put, putT, getT, binInt, binStr, binBool, aUn, outA, resA, mapO, resA1, oneOf, w1, w2, w3, bots, cond_true, cond_false, if_true, if_false, ite_true, ite_false, reduceIte, reduceCtorEq, implies_true, Nat.reduceAdd, Nat.reduceSub, AV.int, AV.bool, AV.str, Nat.reduceBEq, Nat.reduceEqDiff, Nat.reduceMul, Nat.reduceLT, Nat.reduceLeDiff, Int.reduceNeg, BEq.rfl, beq_self_eq_true, tabl, cellsOf, fldA, ldA, stA, entAt, partA, takeN, over, leafOk, Value.oneCell', idxA, nilA, cellsEq, fillA, elemsA, pure1, pure2, reps, chkA, tys, Tryd.results79, KX_draw, KX_drawQ, KX_tail, lastO_one, lastO_more, dropL_one, dropL_more, callP_eq, callM_true, e0, e3, e4, e7, e8, d1, s1, hr, strC]
    rw [hm, List.map_append]; rfl
theorem core_eq2 {s : ByteArray} (h : s.size ≤ 120) {f : ByteArray} {fs : List ByteArray} (hf : segsF s = f :: fs) : coreF s = ((nameF f || titleF f || (sEq f bV && !fs.isEmpty)) && fs.all partF) := by
  unfold coreF
  rw [hf, show decide (s.size ≤ 120) = true by simpa using h]; rfl
theorem segs_len : ∀ l : List UInt8, (segsL l).length ≤ l.length + 1
  | [] => by simp [segsL]
  | b :: r => by
    have := segs_len r
    simp only [segsL]
    split
    · simp; omega
    · split
      · rename_i h; rw [h] at this; simp at this ⊢; omega
      · simp
theorem sliceA_1 {e : List AV} {es : List (List AV)} {c : Cap} (hr : rowsOk 1 (e :: es) = true) : sliceA Tryd.prog 92 (.frz (e :: es) c) (some (.prim (.int .i64 1))) none none = some (.frz es .unk) := by
  have hz : (elemOf Tryd.prog 92).bind (szOf Tryd.prog) = some 1 := by kernel_rfl
  simp [sliceA, hz, hr, bound, intN]
set_option maxHeartbeats 4000000 in
theorem R04_Core (s : ByteArray) : cL Tryd.prog 74 [.str s] S tk k = some (.int (if coreF s = true then 0 else 3), S, tk, k) := by
  refine call_pure Tryd.func74 rfl rfl (by decide +kernel) (by decide +kernel) Tryd.ntmps74 rfl rfl _ _ _ rfl ?_; rw [RK_KX]
  by_cases h120 : s.size ≤ 120
  case neg =>
    have d0 : decide ((s.size : Int) > 120) = true := by simp; omega
    simp (maxSteps := 1000000) +contextual (disch := first | with_reducible assumption | exact ⟨rfl⟩ | exact ⟨rfl, rfl⟩ | (refine _root_.id ?_; kernel_rfl) | omega) only [evs, ext_mv, nth, put, putT, getT, binInt, binStr, binBool, aUn, outA, resA, mapO, resA1, oneOf, w1, w2, w3, bots, cond_true, cond_false, if_true, if_false, ite_true, ite_false, reduceIte, reduceCtorEq, implies_true, Nat.reduceAdd, Nat.reduceSub, AV.int, AV.bool, AV.str, Nat.reduceBEq, Nat.reduceEqDiff, Nat.reduceMul, Nat.reduceLT, Nat.reduceLeDiff, Int.reduceNeg, BEq.rfl, beq_self_eq_true, tabl, cellsOf, fldA, ldA, stA, entAt, partA, takeN, over, leafOk, Value.oneCell', idxA, nilA, cellsEq, fillA, elemsA, pure1, pure2, reps, chkA, tys, Tryd.results74, KX_draw, KX_drawQ, KX_tail, lastO_one, lastO_more, dropL_one, dropL_more, callP_eq, callM_true, d0]
    have : coreF s = false := by unfold coreF; rw [show decide (s.size ≤ 120) = false by simpa using h120]; rfl
    rw [this]; rfl
  have d0 : decide ((s.size : Int) > 120) = false := by simp; omega
  have c1 := fun S tk k => R04_parts S tk k s (by omega)
  obtain ⟨f, fs, hf⟩ : ∃ f fs, segsF s = f :: fs := by
    unfold segsF; rw [segs_cut]; exact ⟨_, _, rfl⟩
  have hlen : fs.length ≤ 121 := by
    have h1 := segs_len (bsL s)
    have h2 : (segsF s).length = (segsL (bsL s)).length := by simp [segsF]
    rw [bsL_len] at h1
    rw [hf] at h2; simp at h2; omega
  rw [core_eq2 h120 hf]
  rw [hf] at c1
  clear hf
  have c2 := fun S tk k => R04_Check S tk k f
  have c3 := fun S tk k => R04_Title S tk k f
  have hsl := sliceA_1 (e := strC f) (es := fs.map strC) (c := .unk) (rowsOk_map (f := strC) (sz := 1) (fun _ => rfl) (f :: fs))
  have hemp : (((fs.length + 1 : Nat) : Int) == 1) = fs.isEmpty := by cases fs <;> simp; omega
  generalize hRR : ((nameF f || titleF f || (sEq f bV && !fs.isEmpty)) && fs.all partF) = RR
  unfold bV at hRR
  simp only [strC] at hsl
  have n30 : ((3 : Int) != 0) = true := rfl
  have n00 : ((0 : Int) != 0) = false := rfl
  cases q1 : nameF f <;> cases q2 : titleF f <;> cases q3 : sEq f ⟨#[118]⟩ <;> cases q4 : fs.isEmpty <;> rw [q1] at c2 <;> rw [q2] at c3 <;> rw [q4] at hemp <;> simp only [q1, q2, q3, q4, Bool.or_true, Bool.true_or, Bool.or_false, Bool.false_and, Bool.true_and, Bool.and_true, Bool.and_false, Bool.false_or, Bool.not_true, Bool.not_false] at hRR <;> simp only [if_true, if_false, Bool.false_eq_true] at c2 c3
  case false.false.false.false => simp (maxSteps := 1000000) +contextual (disch := first | with_reducible assumption | exact ⟨rfl⟩ | exact ⟨rfl, rfl⟩ | (refine _root_.id ?_; kernel_rfl) | omega) only [evs, ext_mv, nth, put, putT, getT, binInt, binStr, binBool, aUn, outA, resA, mapO, resA1, oneOf, w1, w2, w3, bots, cond_true, cond_false, if_true, if_false, ite_true, ite_false, reduceIte, reduceCtorEq, implies_true, Nat.reduceAdd, Nat.reduceSub, AV.int, AV.bool, AV.str, Nat.reduceBEq, Nat.reduceEqDiff, Nat.reduceMul, Nat.reduceLT, Nat.reduceLeDiff, Int.reduceNeg, BEq.rfl, beq_self_eq_true, tabl, cellsOf, fldA, ldA, stA, entAt, partA, takeN, over, leafOk, Value.oneCell', idxA, nilA, cellsEq, fillA, elemsA, pure1, pure2, reps, chkA, tys, Tryd.results74, KX_draw, KX_drawQ, KX_tail, lastO_one, lastO_more, dropL_one, dropL_more, callP_eq, callM_true, d0, c1, c2, c3, q3, hemp, n30, n00, strC]; rw [← hRR]; rfl
  case false.false.false.true => simp (maxSteps := 1000000) +contextual (disch := first | with_reducible assumption | exact ⟨rfl⟩ | exact ⟨rfl, rfl⟩ | (refine _root_.id ?_; kernel_rfl) | omega) only [evs, ext_mv, nth, put, putT, getT, binInt, binStr, binBool, aUn, outA, resA, mapO, resA1, oneOf, w1, w2, w3, bots, cond_true, cond_false, if_true, if_false, ite_true, ite_false, reduceIte, reduceCtorEq, implies_true, Nat.reduceAdd, Nat.reduceSub, AV.int, AV.bool, AV.str, Nat.reduceBEq, Nat.reduceEqDiff, Nat.reduceMul, Nat.reduceLT, Nat.reduceLeDiff, Int.reduceNeg, BEq.rfl, beq_self_eq_true, tabl, cellsOf, fldA, ldA, stA, entAt, partA, takeN, over, leafOk, Value.oneCell', idxA, nilA, cellsEq, fillA, elemsA, pure1, pure2, reps, chkA, tys, Tryd.results74, KX_draw, KX_drawQ, KX_tail, lastO_one, lastO_more, dropL_one, dropL_more, callP_eq, callM_true, d0, c1, c2, c3, q3, hemp, n30, n00, strC]; rw [← hRR]; rfl
  case false.false.true.true => simp (maxSteps := 1000000) +contextual (disch := first | with_reducible assumption | exact ⟨rfl⟩ | exact ⟨rfl, rfl⟩ | (refine _root_.id ?_; kernel_rfl) | omega) only [evs, ext_mv, nth, put, putT, getT, binInt, binStr, binBool, aUn, outA, resA, mapO, resA1, oneOf, w1, w2, w3, bots, cond_true, cond_false, if_true, if_false, ite_true, ite_false, reduceIte, reduceCtorEq, implies_true, Nat.reduceAdd, Nat.reduceSub, AV.int, AV.bool, AV.str, Nat.reduceBEq, Nat.reduceEqDiff, Nat.reduceMul, Nat.reduceLT, Nat.reduceLeDiff, Int.reduceNeg, BEq.rfl, beq_self_eq_true, tabl, cellsOf, fldA, ldA, stA, entAt, partA, takeN, over, leafOk, Value.oneCell', idxA, nilA, cellsEq, fillA, elemsA, pure1, pure2, reps, chkA, tys, Tryd.results74, KX_draw, KX_drawQ, KX_tail, lastO_one, lastO_more, dropL_one, dropL_more, callP_eq, callM_true, d0, c1, c2, c3, q3, hemp, n30, n00, strC]; rw [← hRR]; rfl
  all_goals
    simp (maxSteps := 1000000) +contextual (disch := first | with_reducible assumption | exact ⟨rfl⟩ | exact ⟨rfl, rfl⟩ | (refine _root_.id ?_; kernel_rfl) | omega) only [evs, ext_mv, nth, put, putT, getT, binInt, binStr, binBool, aUn, outA, resA, mapO, resA1, oneOf, w1, w2, w3, bots, cond_true, cond_false, if_true, if_false, ite_true, ite_false, reduceIte, reduceCtorEq, implies_true, Nat.reduceAdd, Nat.reduceSub, AV.int, AV.bool, AV.str, Nat.reduceBEq, Nat.reduceEqDiff, Nat.reduceMul, Nat.reduceLT, Nat.reduceLeDiff, Int.reduceNeg, BEq.rfl, beq_self_eq_true, tabl, cellsOf, fldA, ldA, stA, entAt, partA, takeN, over, leafOk, Value.oneCell', idxA, nilA, cellsEq, fillA, elemsA, pure1, pure2, reps, chkA, tys, Tryd.results74, KX_draw, KX_drawQ, KX_tail, lastO_one, lastO_more, dropL_one, dropL_more, callP_eq, callM_true, d0, c1, c2, c3, q3, hemp, n30, n00, hsl, strC]
    clear c1 c2 c3 q1 q2 q3 q4 hsl hemp n30 n00
    refine loop1 (P := Tryd.prog) (fun x st => st.T.length = 45 ∧ (x ≤ fs.length) ∧ (RR = (fs.drop x).all partF) ∧ getT st.T 35 = .frz (fs.map strC) .unk ∧ getT st.T 36 = .int (fs.length : Nat) ∧ getT st.T 37 = .int (x : Nat) ∧ st.S = []) (fun x => fs.length - x) (fun x => .int (if RR = true then 0 else 3)) (0) ?_ ?_
    case refine_2 => exact ⟨rfl, Nat.zero_le _, hRR.symm, rfl, rfl, rfl, rfl⟩
    rintro i ⟨T, S', tk', n'⟩ ⟨hl, hi, hA, e35, e36, e37, eS⟩ IH
    subst eS
    obtain ⟨g, hg, hT⟩ := tab_of hl
    rw [hg] at e35 e36 e37
    subst hT
    clear hg hl
    by_cases la : i < fs.length
    · have d1 : decide ((i : Int) < (fs.length : Int)) = true := by simpa using la
      obtain ⟨x, hx⟩ := nth_some la
      have hx' : nth (fs.map strC) i = some (strC x) := by rw [nth_map, hx]; rfl
      have hw := wrap_add (i := i) (m := 0) (by omega)
      rw [nth_drop hx, List.all_cons] at hA
      have c := fun S tk k => R04_part S tk k x
      cases hq : partF x <;> rw [hq] at c hA
      · simp (maxSteps := 1000000) +contextual (disch := first | with_reducible assumption | exact ⟨rfl⟩ | exact ⟨rfl, rfl⟩ | (refine _root_.id ?_; kernel_rfl) | omega) only [evs, ext_mv, nth, put, putT, getT, binInt, binStr, binBool, aUn, outA, resA, mapO, resA1, oneOf, w1, w2, w3, bots, cond_true, cond_false, if_true, if_false, ite_true, ite_false, reduceIte, reduceCtorEq, implies_true, Nat.reduceAdd, Nat.reduceSub, AV.int, AV.bool, AV.str, Nat.reduceBEq, Nat.reduceEqDiff, Nat.reduceMul, Nat.reduceLT, Nat.reduceLeDiff, Int.reduceNeg, BEq.rfl, beq_self_eq_true, tabl, cellsOf, fldA, ldA, stA, entAt, partA, takeN, over, leafOk, Value.oneCell', idxA, nilA, cellsEq, fillA, elemsA, pure1, pure2, reps, chkA, tys, Tryd.results74, KX_draw, KX_drawQ, KX_tail, lastO_one, lastO_more, dropL_one, dropL_more, callP_eq, callM_true, e35, e36, e37, d1, hx', hw, strC, c]
        rw [hA]; rfl
      · rw [Bool.true_and] at hA
        simp (maxSteps := 1000000) +contextual (disch := first | with_reducible assumption | exact ⟨rfl⟩ | exact ⟨rfl, rfl⟩ | (refine _root_.id ?_; kernel_rfl) | omega) only [evs, ext_mv, nth, put, putT, getT, binInt, binStr, binBool, aUn, outA, resA, mapO, resA1, oneOf, w1, w2, w3, bots, cond_true, cond_false, if_true, if_false, ite_true, ite_false, reduceIte, reduceCtorEq, implies_true, Nat.reduceAdd, Nat.reduceSub, AV.int, AV.bool, AV.str, Nat.reduceBEq, Nat.reduceEqDiff, Nat.reduceMul, Nat.reduceLT, Nat.reduceLeDiff, Int.reduceNeg, BEq.rfl, beq_self_eq_true, tabl, cellsOf, fldA, ldA, stA, entAt, partA, takeN, over, leafOk, Value.oneCell', idxA, nilA, cellsEq, fillA, elemsA, pure1, pure2, reps, chkA, tys, Tryd.results74, KX_draw, KX_drawQ, KX_tail, lastO_one, lastO_more, dropL_one, dropL_more, callP_eq, callM_true, e35, e36, e37, d1, hx', hw, strC, c]
        exact IH (i + 1) _ (by omega) ⟨rfl, la, hA, rfl, rfl, rfl, rfl⟩
    · have d1 : decide ((i : Int) < (fs.length : Int)) = false := by simpa using la
      have he : i = fs.length := by omega
      simp (maxSteps := 1000000) +contextual (disch := first | with_reducible assumption | exact ⟨rfl⟩ | exact ⟨rfl, rfl⟩ | (refine _root_.id ?_; kernel_rfl) | omega) only [evs, ext_mv, nth, put, putT, getT, binInt, binStr, binBool, aUn, outA, resA, mapO, resA1, oneOf, w1, w2, w3, bots, cond_true, cond_false, if_true, if_false, ite_true, ite_false, reduceIte, reduceCtorEq, implies_true, Nat.reduceAdd, Nat.reduceSub, AV.int, AV.bool, AV.str, Nat.reduceBEq, Nat.reduceEqDiff, Nat.reduceMul, Nat.reduceLT, Nat.reduceLeDiff, Int.reduceNeg, BEq.rfl, beq_self_eq_true, tabl, cellsOf, fldA, ldA, stA, entAt, partA, takeN, over, leafOk, Value.oneCell', idxA, nilA, cellsEq, fillA, elemsA, pure1, pure2, reps, chkA, tys, Tryd.results74, KX_draw, KX_drawQ, KX_tail, lastO_one, lastO_more, dropL_one, dropL_more, callP_eq, callM_true, e35, e36, e37, d1]
      rw [hA, he, List.drop_length]; rfl
end
end Go.Proofs.YtkghgdkkholieaaDoor
/-
  The nodes and levels of a predicate, by the program and the reference.
-/

namespace Go.Proofs.YtkghgdkkholieaaDoor
open Go
theorem nodesL_snoc : ∀ (ks : List PT) (j : Nat) (q : PT), nth ks j = some q → nodesL (ks.take (j + 1)) = nodesL (ks.take j) + nodesP q
  | x :: ks, 0, q, h => by simp only [nth, Option.some.injEq] at h; subst h; simp [nodesL]
  | x :: ks, j + 1, q, h => by
    simp only [nth] at h
    simp only [List.take_succ_cons, nodesL]
    rw [nodesL_snoc ks j q h]; omega
  | [], _, _, h => by simp [nth] at h
theorem nodesL_take : ∀ (ks : List PT) (j : Nat), nodesL (ks.take j) ≤ nodesL ks
  | _, 0 => by simp [nodesL]
  | [], _ + 1 => by simp
  | x :: ks, j + 1 => by simp only [List.take_succ_cons, nodesL]; have := nodesL_take ks j; omega
theorem depthL_snoc : ∀ (ks : List PT) (j : Nat) (q : PT), nth ks j = some q → depthL (ks.take (j + 1)) = max (depthL (ks.take j)) (depthP q)
  | x :: ks, 0, q, h => by simp only [nth, Option.some.injEq] at h; subst h; simp [depthL]
  | x :: ks, j + 1, q, h => by
    simp only [nth] at h
    simp only [List.take_succ_cons, depthL]
    rw [depthL_snoc ks j q h]; omega
  | [], _, _, h => by simp [nth] at h
mutual
theorem depth_nodes : ∀ p : PT, depthP p ≤ nodesP p
  | .node _ _ _ ks => by simp only [depthP, nodesP]; have := depth_nodesL ks; omega
theorem depth_nodesL : ∀ ks : List PT, depthL ks ≤ nodesL ks
  | [] => Nat.le_refl _
  | k :: ks => by simp only [depthL, nodesL]; have := depth_nodes k; have := depth_nodesL ks; omega
end
theorem depthL_take (ks : List PT) (j : Nat) : depthL (ks.take j) ≤ nodesL ks := Nat.le_trans (depth_nodesL _) (nodesL_take ks j)
mutual
theorem nodes_kids : ∀ ks : List PT, ks.length ≤ nodesL ks
  | [] => Nat.zero_le _
  | k :: ks => by
    have h1 := nodes_kids ks
    have h2 := nodes_pos k
    simp only [List.length_cons, nodesL]; omega
theorem nodes_pos : ∀ p : PT, 1 ≤ nodesP p
  | .node _ _ _ _ => by simp only [nodesP]; omega
end
theorem nodes_mem : ∀ {ks : List PT} {q : PT}, q ∈ ks → nodesP q ≤ nodesL ks
  | k :: ks, q, h => by
    simp only [nodesL]
    rcases List.mem_cons.1 h with rfl | h
    · omega
    · have := nodes_mem h; omega
theorem wrap_addM {i : Nat} (h : i < 9223372036854775807) : IntKind.i64.wrap ((i : Int) + 1) = ((i + 1 : Nat) : Int) := by rw [wrap_of (by unfold i64; omega)]; omega
theorem nodesV_step {ks : List PT} {j : Nat} {q : PT} {n : Int} (h : nth ks j = some q) : nodesV n (ks.drop j) = nodesV (IntKind.i64.wrap (n + nodesW q)) (ks.drop (j + 1)) := by rw [nth_drop h]; rfl
theorem depthV_step {ks : List PT} {j : Nat} {q : PT} {n : Int} (h : nth ks j = some q) : depthV n (ks.drop j) = depthV (if depthW q > n then depthW q else n) (ks.drop (j + 1)) := by rw [nth_drop h]; rfl
theorem nth_kids {ks : List PT} {j : Nat} {q : PT} (h : nth ks j = some q) : nth (kidsC ks) j = some (predC q) := by rw [kidsC_map, nth_map, h]; rfl
theorem kidsC_length (ks : List PT) : (kidsC ks).length = ks.length := by rw [kidsC_map, List.length_map]
theorem nth_mem {α : Type} {l : List α} {j : Nat} {q : α} (h : nth l j = some q) : q ∈ l := by rw [nth_get] at h; exact List.mem_of_getElem? h
theorem predC_cells (q : PT) : predC q = [.prim (.int .i64 q.op), .prim (.string q.name), .prim (.int .i64 q.n), .frz (kidsC q.kids) .unk] := by cases q; rfl
section
variable (S : List Ent) (tk : List Nat) (k : Nat)
theorem pred_Nodes_step (o : Int) (s : ByteArray) (n : Int) (ks : List PT) (hlen : ks.length ≤ 9223372036854775807) (ih : ∀ q ∈ ks, ∀ S tk k, cL Tryd.prog 45 [.agg (predC q)] S tk k = some (.int (nodesW q), S, tk, k)) :
    cL Tryd.prog 45 [.agg (predC (.node o s n ks))] S tk k = some (.int (nodesW (.node o s n ks)), S, tk, k) := by
  simp only [nodesW]
  refine call_pure Tryd.func45 rfl rfl (by decide +kernel) (by decide +kernel) Tryd.ntmps45 rfl rfl _ _ _ rfl ?_; rw [RK_KX]
  simp (maxSteps := 1000000) +contextual (disch := first | with_reducible assumption | exact ⟨rfl⟩ | exact ⟨rfl, rfl⟩ | (refine _root_.id ?_; kernel_rfl) | omega) only [evs, ext_mv, nth, put, putT, getT, binInt, binStr, binBool, aUn, outA, resA, mapO, resA1, oneOf, w1, w2, w3, bots, cond_true, cond_false, if_true, if_false, ite_true, ite_false, reduceIte, reduceCtorEq, implies_true, Nat.reduceAdd, Nat.reduceSub, AV.int, AV.bool, AV.str, Nat.reduceBEq, Nat.reduceEqDiff, Nat.reduceMul, Nat.reduceLT, Nat.reduceLeDiff, Int.reduceNeg, BEq.rfl, beq_self_eq_true, tabl, cellsOf, fldA, ldA, stA, entAt, partA, takeN, over, leafOk, Value.oneCell', idxA, nilA, cellsEq, fillA, elemsA, pure1, pure2, reps, chkA, tys, Tryd.results45, KX_draw, KX_drawQ, KX_tail, lastO_one, lastO_more, dropL_one, dropL_more, callP_eq, callM_true, predC, kidsC_length]
  refine loop1 (P := Tryd.prog) (fun x st => st.T.length = 19 ∧ (x.1 ≤ ks.length) ∧ (nodesV 1 ks = nodesV x.2 (ks.drop x.1)) ∧ getT st.T 1 = .ref 0 0 0 ∧ getT st.T 3 = .int x.2 ∧ getT st.T 7 = .frz (kidsC ks) .unk ∧ getT st.T 8 = .int (ks.length : Nat) ∧ getT st.T 9 = .int (x.1 : Nat) ∧ st.S = [⟨0, [.prim (.int .i64 o), .prim (.string s), .prim (.int .i64 n), .frz (kidsC ks) .unk]⟩]) (fun x => ks.length - x.1) (fun x => .int (nodesV 1 ks)) (0, 1) ?_ ?_
  case refine_2 => exact ⟨rfl, Nat.zero_le _, rfl, rfl, rfl, rfl, rfl, rfl, rfl⟩
  rintro ⟨j, acc⟩ ⟨T, S', tk', n'⟩ ⟨hl, hj, hA, e1, e3, e7, e8, e9, eS⟩ IH
  simp only at hj hA e1 e3 e7 e8 e9 eS
  subst eS
  obtain ⟨g, hg, hT⟩ := tab_of hl
  rw [hg] at e1 e3 e7 e8 e9
  subst hT
  clear hg hl
  by_cases hlt : j < ks.length
  · have d1 : decide ((j : Int) < (ks.length : Int)) = true := by simpa using hlt
    obtain ⟨q, hq⟩ := nth_some hlt
    have hq' := nth_kids hq
    have hw := wrap_addM (i := j) (by omega)
    have hN := ih q (nth_mem hq)
    rw [nodesV_step hq] at hA
    rw [predC_cells] at hN hq'
    simp (maxSteps := 1000000) +contextual (disch := first | with_reducible assumption | exact ⟨rfl⟩ | exact ⟨rfl, rfl⟩ | (refine _root_.id ?_; kernel_rfl) | omega) only [evs, ext_mv, nth, put, putT, getT, binInt, binStr, binBool, aUn, outA, resA, mapO, resA1, oneOf, w1, w2, w3, bots, cond_true, cond_false, if_true, if_false, ite_true, ite_false, reduceIte, reduceCtorEq, implies_true, Nat.reduceAdd, Nat.reduceSub, AV.int, AV.bool, AV.str, Nat.reduceBEq, Nat.reduceEqDiff, Nat.reduceMul, Nat.reduceLT, Nat.reduceLeDiff, Int.reduceNeg, BEq.rfl, beq_self_eq_true, tabl, cellsOf, fldA, ldA, stA, entAt, partA, takeN, over, leafOk, Value.oneCell', idxA, nilA, cellsEq, fillA, elemsA, pure1, pure2, reps, chkA, tys, Tryd.results45, KX_draw, KX_drawQ, KX_tail, lastO_one, lastO_more, dropL_one, dropL_more, callP_eq, callM_true, e1, e3, e7, e8, e9, d1, hq', hw, hN]
    exact IH (j + 1, IntKind.i64.wrap (acc + nodesW q)) _ (by simp only; omega) ⟨rfl, hlt, hA, rfl, rfl, rfl, rfl, rfl, rfl⟩
  · have d1 : decide ((j : Int) < (ks.length : Int)) = false := by simpa using hlt
    have he : j = ks.length := by omega
    simp (maxSteps := 1000000) +contextual (disch := first | with_reducible assumption | exact ⟨rfl⟩ | exact ⟨rfl, rfl⟩ | (refine _root_.id ?_; kernel_rfl) | omega) only [evs, ext_mv, nth, put, putT, getT, binInt, binStr, binBool, aUn, outA, resA, mapO, resA1, oneOf, w1, w2, w3, bots, cond_true, cond_false, if_true, if_false, ite_true, ite_false, reduceIte, reduceCtorEq, implies_true, Nat.reduceAdd, Nat.reduceSub, AV.int, AV.bool, AV.str, Nat.reduceBEq, Nat.reduceEqDiff, Nat.reduceMul, Nat.reduceLT, Nat.reduceLeDiff, Int.reduceNeg, BEq.rfl, beq_self_eq_true, tabl, cellsOf, fldA, ldA, stA, entAt, partA, takeN, over, leafOk, Value.oneCell', idxA, nilA, cellsEq, fillA, elemsA, pure1, pure2, reps, chkA, tys, Tryd.results45, KX_draw, KX_drawQ, KX_tail, lastO_one, lastO_more, dropL_one, dropL_more, callP_eq, callM_true, e1, e3, e7, e8, e9, d1]
    rw [hA, he, List.drop_length]; rfl
theorem pred_Depth_step (o : Int) (s : ByteArray) (n : Int) (ks : List PT) (hlen : ks.length ≤ 9223372036854775807) (ih : ∀ q ∈ ks, ∀ S tk k, cL Tryd.prog 46 [.agg (predC q)] S tk k = some (.int (depthW q), S, tk, k)) :
    cL Tryd.prog 46 [.agg (predC (.node o s n ks))] S tk k = some (.int (depthW (.node o s n ks)), S, tk, k) := by
  simp only [depthW]
  refine call_pure Tryd.func46 rfl rfl (by decide +kernel) (by decide +kernel) Tryd.ntmps46 rfl rfl _ _ _ rfl ?_; rw [RK_KX]
  simp (maxSteps := 1000000) +contextual (disch := first | with_reducible assumption | exact ⟨rfl⟩ | exact ⟨rfl, rfl⟩ | (refine _root_.id ?_; kernel_rfl) | omega) only [evs, ext_mv, nth, put, putT, getT, binInt, binStr, binBool, aUn, outA, resA, mapO, resA1, oneOf, w1, w2, w3, bots, cond_true, cond_false, if_true, if_false, ite_true, ite_false, reduceIte, reduceCtorEq, implies_true, Nat.reduceAdd, Nat.reduceSub, AV.int, AV.bool, AV.str, Nat.reduceBEq, Nat.reduceEqDiff, Nat.reduceMul, Nat.reduceLT, Nat.reduceLeDiff, Int.reduceNeg, BEq.rfl, beq_self_eq_true, tabl, cellsOf, fldA, ldA, stA, entAt, partA, takeN, over, leafOk, Value.oneCell', idxA, nilA, cellsEq, fillA, elemsA, pure1, pure2, reps, chkA, tys, Tryd.results46, KX_draw, KX_drawQ, KX_tail, lastO_one, lastO_more, dropL_one, dropL_more, callP_eq, callM_true, predC, kidsC_length]
  refine loop1 (P := Tryd.prog) (fun x st => st.T.length = 20 ∧ (x.1 ≤ ks.length) ∧ (depthV 0 ks = depthV x.2 (ks.drop x.1)) ∧ getT st.T 1 = .ref 0 0 0 ∧ getT st.T 3 = .int x.2 ∧ getT st.T 7 = .frz (kidsC ks) .unk ∧ getT st.T 8 = .int (ks.length : Nat) ∧ getT st.T 9 = .int (x.1 : Nat) ∧ st.S = [⟨0, [.prim (.int .i64 o), .prim (.string s), .prim (.int .i64 n), .frz (kidsC ks) .unk]⟩]) (fun x => ks.length - x.1) (fun x => .int (IntKind.i64.wrap (depthV 0 ks + 1))) (0, 0) ?_ ?_
  case refine_2 => exact ⟨rfl, Nat.zero_le _, rfl, rfl, rfl, rfl, rfl, rfl, rfl⟩
  rintro ⟨j, acc⟩ ⟨T, S', tk', n'⟩ ⟨hl, hj, hA, e1, e3, e7, e8, e9, eS⟩ IH
  simp only at hj hA e1 e3 e7 e8 e9 eS
  subst eS
  obtain ⟨g, hg, hT⟩ := tab_of hl
  rw [hg] at e1 e3 e7 e8 e9
  subst hT
  clear hg hl
  by_cases hlt : j < ks.length
  · have d1 : decide ((j : Int) < (ks.length : Int)) = true := by simpa using hlt
    obtain ⟨q, hq⟩ := nth_some hlt
    have hq' := nth_kids hq
    have hw := wrap_addM (i := j) (by omega)
    have hN := ih q (nth_mem hq)
    rw [depthV_step hq] at hA
    rw [predC_cells] at hN hq'
    simp (maxSteps := 1000000) +contextual (disch := first | with_reducible assumption | exact ⟨rfl⟩ | exact ⟨rfl, rfl⟩ | (refine _root_.id ?_; kernel_rfl) | omega) only [evs, ext_mv, nth, put, putT, getT, binInt, binStr, binBool, aUn, outA, resA, mapO, resA1, oneOf, w1, w2, w3, bots, cond_true, cond_false, if_true, if_false, ite_true, ite_false, reduceIte, reduceCtorEq, implies_true, Nat.reduceAdd, Nat.reduceSub, AV.int, AV.bool, AV.str, Nat.reduceBEq, Nat.reduceEqDiff, Nat.reduceMul, Nat.reduceLT, Nat.reduceLeDiff, Int.reduceNeg, BEq.rfl, beq_self_eq_true, tabl, cellsOf, fldA, ldA, stA, entAt, partA, takeN, over, leafOk, Value.oneCell', idxA, nilA, cellsEq, fillA, elemsA, pure1, pure2, reps, chkA, tys, Tryd.results46, KX_draw, KX_drawQ, KX_tail, lastO_one, lastO_more, dropL_one, dropL_more, callP_eq, callM_true, e1, e3, e7, e8, e9, d1, hq', hw, hN]
    exact IH (j + 1, if depthW q > acc then depthW q else acc) _ (by simp only; omega) ⟨rfl, hlt, hA, rfl, rfl, rfl, rfl, rfl, rfl⟩
  · have d1 : decide ((j : Int) < (ks.length : Int)) = false := by simpa using hlt
    have he : j = ks.length := by omega
    simp (maxSteps := 1000000) +contextual (disch := first | with_reducible assumption | exact ⟨rfl⟩ | exact ⟨rfl, rfl⟩ | (refine _root_.id ?_; kernel_rfl) | omega) only [evs, ext_mv, nth, put, putT, getT, binInt, binStr, binBool, aUn, outA, resA, mapO, resA1, oneOf, w1, w2, w3, bots, cond_true, cond_false, if_true, if_false, ite_true, ite_false, reduceIte, reduceCtorEq, implies_true, Nat.reduceAdd, Nat.reduceSub, AV.int, AV.bool, AV.str, Nat.reduceBEq, Nat.reduceEqDiff, Nat.reduceMul, Nat.reduceLT, Nat.reduceLeDiff, Int.reduceNeg, BEq.rfl, beq_self_eq_true, tabl, cellsOf, fldA, ldA, stA, entAt, partA, takeN, over, leafOk, Value.oneCell', idxA, nilA, cellsEq, fillA, elemsA, pure1, pure2, reps, chkA, tys, Tryd.results46, KX_draw, KX_drawQ, KX_tail, lastO_one, lastO_more, dropL_one, dropL_more, callP_eq, callM_true, e1, e3, e7, e8, e9, d1]
    rw [hA, he, List.drop_length]; rfl
theorem R07_Nodes_step (o : Int) (s : ByteArray) (n : Int) (ks : List PT) (hlen : ks.length ≤ 9223372036854775807) (ih : ∀ q ∈ ks, ∀ S tk k, cL Tryd.prog 36 [.agg (predC q)] S tk k = some (.int (nodesW q), S, tk, k)) :
    cL Tryd.prog 36 [.agg (predC (.node o s n ks))] S tk k = some (.int (nodesW (.node o s n ks)), S, tk, k) := by
  simp only [nodesW]
  refine call_pure Tryd.func36 rfl rfl (by decide +kernel) (by decide +kernel) Tryd.ntmps36 rfl rfl _ _ _ rfl ?_; rw [RK_KX]
  simp (maxSteps := 1000000) +contextual (disch := first | with_reducible assumption | exact ⟨rfl⟩ | exact ⟨rfl, rfl⟩ | (refine _root_.id ?_; kernel_rfl) | omega) only [evs, ext_mv, nth, put, putT, getT, binInt, binStr, binBool, aUn, outA, resA, mapO, resA1, oneOf, w1, w2, w3, bots, cond_true, cond_false, if_true, if_false, ite_true, ite_false, reduceIte, reduceCtorEq, implies_true, Nat.reduceAdd, Nat.reduceSub, AV.int, AV.bool, AV.str, Nat.reduceBEq, Nat.reduceEqDiff, Nat.reduceMul, Nat.reduceLT, Nat.reduceLeDiff, Int.reduceNeg, BEq.rfl, beq_self_eq_true, tabl, cellsOf, fldA, ldA, stA, entAt, partA, takeN, over, leafOk, Value.oneCell', idxA, nilA, cellsEq, fillA, elemsA, pure1, pure2, reps, chkA, tys, Tryd.results36, KX_draw, KX_drawQ, KX_tail, lastO_one, lastO_more, dropL_one, dropL_more, callP_eq, callM_true, predC, kidsC_length]
  refine loop1 (P := Tryd.prog) (fun x st => st.T.length = 19 ∧ (x.1 ≤ ks.length) ∧ (nodesV 1 ks = nodesV x.2 (ks.drop x.1)) ∧ getT st.T 1 = .ref 0 0 0 ∧ getT st.T 3 = .int x.2 ∧ getT st.T 7 = .frz (kidsC ks) .unk ∧ getT st.T 8 = .int (ks.length : Nat) ∧ getT st.T 9 = .int (x.1 : Nat) ∧ st.S = [⟨0, [.prim (.int .i64 o), .prim (.string s), .prim (.int .i64 n), .frz (kidsC ks) .unk]⟩]) (fun x => ks.length - x.1) (fun x => .int (nodesV 1 ks)) (0, 1) ?_ ?_
  case refine_2 => exact ⟨rfl, Nat.zero_le _, rfl, rfl, rfl, rfl, rfl, rfl, rfl⟩
  rintro ⟨j, acc⟩ ⟨T, S', tk', n'⟩ ⟨hl, hj, hA, e1, e3, e7, e8, e9, eS⟩ IH
  simp only at hj hA e1 e3 e7 e8 e9 eS
  subst eS
  obtain ⟨g, hg, hT⟩ := tab_of hl
  rw [hg] at e1 e3 e7 e8 e9
  subst hT
  clear hg hl
  by_cases hlt : j < ks.length
  · have d1 : decide ((j : Int) < (ks.length : Int)) = true := by simpa using hlt
    obtain ⟨q, hq⟩ := nth_some hlt
    have hq' := nth_kids hq
    have hw := wrap_addM (i := j) (by omega)
    have hN := ih q (nth_mem hq)
    rw [nodesV_step hq] at hA
    rw [predC_cells] at hN hq'
    simp (maxSteps := 1000000) +contextual (disch := first | with_reducible assumption | exact ⟨rfl⟩ | exact ⟨rfl, rfl⟩ | (refine _root_.id ?_; kernel_rfl) | omega) only [evs, ext_mv, nth, put, putT, getT, binInt, binStr, binBool, aUn, outA, resA, mapO, resA1, oneOf, w1, w2, w3, bots, cond_true, cond_false, if_true, if_false, ite_true, ite_false, reduceIte, reduceCtorEq, implies_true, Nat.reduceAdd, Nat.reduceSub, AV.int, AV.bool, AV.str, Nat.reduceBEq, Nat.reduceEqDiff, Nat.reduceMul, Nat.reduceLT, Nat.reduceLeDiff, Int.reduceNeg, BEq.rfl, beq_self_eq_true, tabl, cellsOf, fldA, ldA, stA, entAt, partA, takeN, over, leafOk, Value.oneCell', idxA, nilA, cellsEq, fillA, elemsA, pure1, pure2, reps, chkA, tys, Tryd.results36, KX_draw, KX_drawQ, KX_tail, lastO_one, lastO_more, dropL_one, dropL_more, callP_eq, callM_true, e1, e3, e7, e8, e9, d1, hq', hw, hN]
    exact IH (j + 1, IntKind.i64.wrap (acc + nodesW q)) _ (by simp only; omega) ⟨rfl, hlt, hA, rfl, rfl, rfl, rfl, rfl, rfl⟩
  · have d1 : decide ((j : Int) < (ks.length : Int)) = false := by simpa using hlt
    have he : j = ks.length := by omega
    simp (maxSteps := 1000000) +contextual (disch := first | with_reducible assumption | exact ⟨rfl⟩ | exact ⟨rfl, rfl⟩ | (refine _root_.id ?_; kernel_rfl) | omega) only [evs, ext_mv, nth, put, putT, getT, binInt, binStr, binBool, aUn, outA, resA, mapO, resA1, oneOf, w1, w2, w3, bots, cond_true, cond_false, if_true, if_false, ite_true, ite_false, reduceIte, reduceCtorEq, implies_true, Nat.reduceAdd, Nat.reduceSub, AV.int, AV.bool, AV.str, Nat.reduceBEq, Nat.reduceEqDiff, Nat.reduceMul, Nat.reduceLT, Nat.reduceLeDiff, Int.reduceNeg, BEq.rfl, beq_self_eq_true, tabl, cellsOf, fldA, ldA, stA, entAt, partA, takeN, over, leafOk, Value.oneCell', idxA, nilA, cellsEq, fillA, elemsA, pure1, pure2, reps, chkA, tys, Tryd.results36, KX_draw, KX_drawQ, KX_tail, lastO_one, lastO_more, dropL_one, dropL_more, callP_eq, callM_true, e1, e3, e7, e8, e9, d1]
    rw [hA, he, List.drop_length]; rfl
theorem R07_Depth_step (o : Int) (s : ByteArray) (n : Int) (ks : List PT) (hlen : ks.length ≤ 9223372036854775807) (ih : ∀ q ∈ ks, ∀ S tk k, cL Tryd.prog 37 [.agg (predC q)] S tk k = some (.int (depthW q), S, tk, k)) :
    cL Tryd.prog 37 [.agg (predC (.node o s n ks))] S tk k = some (.int (depthW (.node o s n ks)), S, tk, k) := by
  simp only [depthW]
  refine call_pure Tryd.func37 rfl rfl (by decide +kernel) (by decide +kernel) Tryd.ntmps37 rfl rfl _ _ _ rfl ?_; rw [RK_KX]
  simp (maxSteps := 1000000) +contextual (disch := first | with_reducible assumption | exact ⟨rfl⟩ | exact ⟨rfl, rfl⟩ | (refine _root_.id ?_; kernel_rfl) | omega) only [evs, ext_mv, nth, put, putT, getT, binInt, binStr, binBool, aUn, outA, resA, mapO, resA1, oneOf, w1, w2, w3, bots, cond_true, cond_false, if_true, if_false, ite_true, ite_false, reduceIte, reduceCtorEq, implies_true, Nat.reduceAdd, Nat.reduceSub, AV.int, AV.bool, AV.str, Nat.reduceBEq, Nat.reduceEqDiff, Nat.reduceMul, Nat.reduceLT, Nat.reduceLeDiff, Int.reduceNeg, BEq.rfl, beq_self_eq_true, tabl, cellsOf, fldA, ldA, stA, entAt, partA, takeN, over, leafOk, Value.oneCell', idxA, nilA, cellsEq, fillA, elemsA, pure1, pure2, reps, chkA, tys, Tryd.results37, KX_draw, KX_drawQ, KX_tail, lastO_one, lastO_more, dropL_one, dropL_more, callP_eq, callM_true, predC, kidsC_length]
  refine loop1 (P := Tryd.prog) (fun x st => st.T.length = 20 ∧ (x.1 ≤ ks.length) ∧ (depthV 0 ks = depthV x.2 (ks.drop x.1)) ∧ getT st.T 1 = .ref 0 0 0 ∧ getT st.T 3 = .int x.2 ∧ getT st.T 7 = .frz (kidsC ks) .unk ∧ getT st.T 8 = .int (ks.length : Nat) ∧ getT st.T 9 = .int (x.1 : Nat) ∧ st.S = [⟨0, [.prim (.int .i64 o), .prim (.string s), .prim (.int .i64 n), .frz (kidsC ks) .unk]⟩]) (fun x => ks.length - x.1) (fun x => .int (IntKind.i64.wrap (depthV 0 ks + 1))) (0, 0) ?_ ?_
  case refine_2 => exact ⟨rfl, Nat.zero_le _, rfl, rfl, rfl, rfl, rfl, rfl, rfl⟩
  rintro ⟨j, acc⟩ ⟨T, S', tk', n'⟩ ⟨hl, hj, hA, e1, e3, e7, e8, e9, eS⟩ IH
  simp only at hj hA e1 e3 e7 e8 e9 eS
  subst eS
  obtain ⟨g, hg, hT⟩ := tab_of hl
  rw [hg] at e1 e3 e7 e8 e9
  subst hT
  clear hg hl
  by_cases hlt : j < ks.length
  · have d1 : decide ((j : Int) < (ks.length : Int)) = true := by simpa using hlt
    obtain ⟨q, hq⟩ := nth_some hlt
    have hq' := nth_kids hq
    have hw := wrap_addM (i := j) (by omega)
    have hN := ih q (nth_mem hq)
    rw [depthV_step hq] at hA
    rw [predC_cells] at hN hq'
    simp (maxSteps := 1000000) +contextual (disch := first | with_reducible assumption | exact ⟨rfl⟩ | exact ⟨rfl, rfl⟩ | (refine _root_.id ?_; kernel_rfl) | omega) only [evs, ext_mv, nth, put, putT, getT, binInt, binStr, binBool, aUn, outA, resA, mapO, resA1, oneOf, w1, w2, w3, bots, cond_true, cond_false, if_true, if_false, ite_true, ite_false, reduceIte, reduceCtorEq, implies_true, Nat.reduceAdd, Nat.reduceSub, AV.int, AV.bool, AV.str, Nat.reduceBEq, Nat.reduceEqDiff, Nat.reduceMul, Nat.reduceLT, Nat.reduceLeDiff, Int.reduceNeg, BEq.rfl, beq_self_eq_true, tabl, cellsOf, fldA, ldA, stA, entAt, partA, takeN, over, leafOk, Value.oneCell', idxA, nilA, cellsEq, fillA, elemsA, pure1, pure2, reps, chkA, tys, Tryd.results37, KX_draw, KX_drawQ, KX_tail, lastO_one, lastO_more, dropL_one, dropL_more, callP_eq, callM_true, e1, e3, e7, e8, e9, d1, hq', hw, hN]
    exact IH (j + 1, if depthW q > acc then depthW q else acc) _ (by simp only; omega) ⟨rfl, hlt, hA, rfl, rfl, rfl, rfl, rfl, rfl⟩
  · have d1 : decide ((j : Int) < (ks.length : Int)) = false := by simpa using hlt
    have he : j = ks.length := by omega
    simp (maxSteps := 1000000) +contextual (disch := first | with_reducible assumption | exact ⟨rfl⟩ | exact ⟨rfl, rfl⟩ | (refine _root_.id ?_; kernel_rfl) | omega) only [evs, ext_mv, nth, put, putT, getT, binInt, binStr, binBool, aUn, outA, resA, mapO, resA1, oneOf, w1, w2, w3, bots, cond_true, cond_false, if_true, if_false, ite_true, ite_false, reduceIte, reduceCtorEq, implies_true, Nat.reduceAdd, Nat.reduceSub, AV.int, AV.bool, AV.str, Nat.reduceBEq, Nat.reduceEqDiff, Nat.reduceMul, Nat.reduceLT, Nat.reduceLeDiff, Int.reduceNeg, BEq.rfl, beq_self_eq_true, tabl, cellsOf, fldA, ldA, stA, entAt, partA, takeN, over, leafOk, Value.oneCell', idxA, nilA, cellsEq, fillA, elemsA, pure1, pure2, reps, chkA, tys, Tryd.results37, KX_draw, KX_drawQ, KX_tail, lastO_one, lastO_more, dropL_one, dropL_more, callP_eq, callM_true, e1, e3, e7, e8, e9, d1]
    rw [hA, he, List.drop_length]; rfl
end
mutual
theorem pred_Nodes : ∀ (p : PT), kidsMax p → ∀ (S : List Ent) (tk : List Nat) (k : Nat), cL Tryd.prog 45 [.agg (predC p)] S tk k = some (.int (nodesW p), S, tk, k)
  | .node o s n ks, hn => fun S tk k => pred_Nodes_step S tk k o s n ks (by simp only [kidsMax] at hn; exact hn.1) (pred_NodesL ks (by simp only [kidsMax] at hn; exact hn.2))
theorem pred_NodesL : ∀ (ks : List PT), kidsMaxL ks → ∀ q ∈ ks, ∀ (S : List Ent) (tk : List Nat) (k : Nat), cL Tryd.prog 45 [.agg (predC q)] S tk k = some (.int (nodesW q), S, tk, k)
  | [], _ => fun q h => by simp at h
  | x :: ks, hn => fun q h => by
    simp only [kidsMaxL] at hn
    rcases List.mem_cons.1 h with e | h
    · rw [e]; exact pred_Nodes x hn.1
    · exact pred_NodesL ks hn.2 q h
end
mutual
theorem pred_Depth : ∀ (p : PT), kidsMax p → ∀ (S : List Ent) (tk : List Nat) (k : Nat), cL Tryd.prog 46 [.agg (predC p)] S tk k = some (.int (depthW p), S, tk, k)
  | .node o s n ks, hn => fun S tk k => pred_Depth_step S tk k o s n ks (by simp only [kidsMax] at hn; exact hn.1) (pred_DepthL ks (by simp only [kidsMax] at hn; exact hn.2))
theorem pred_DepthL : ∀ (ks : List PT), kidsMaxL ks → ∀ q ∈ ks, ∀ (S : List Ent) (tk : List Nat) (k : Nat), cL Tryd.prog 46 [.agg (predC q)] S tk k = some (.int (depthW q), S, tk, k)
  | [], _ => fun q h => by simp at h
  | x :: ks, hn => fun q h => by
    simp only [kidsMaxL] at hn
    rcases List.mem_cons.1 h with e | h
    · rw [e]; exact pred_Depth x hn.1
    · exact pred_DepthL ks hn.2 q h
end
mutual
theorem R07_Nodes : ∀ (p : PT), kidsMax p → ∀ (S : List Ent) (tk : List Nat) (k : Nat), cL Tryd.prog 36 [.agg (predC p)] S tk k = some (.int (nodesW p), S, tk, k)
  | .node o s n ks, hn => fun S tk k => R07_Nodes_step S tk k o s n ks (by simp only [kidsMax] at hn; exact hn.1) (R07_NodesL ks (by simp only [kidsMax] at hn; exact hn.2))
theorem R07_NodesL : ∀ (ks : List PT), kidsMaxL ks → ∀ q ∈ ks, ∀ (S : List Ent) (tk : List Nat) (k : Nat), cL Tryd.prog 36 [.agg (predC q)] S tk k = some (.int (nodesW q), S, tk, k)
  | [], _ => fun q h => by simp at h
  | x :: ks, hn => fun q h => by
    simp only [kidsMaxL] at hn
    rcases List.mem_cons.1 h with e | h
    · rw [e]; exact R07_Nodes x hn.1
    · exact R07_NodesL ks hn.2 q h
end
mutual
theorem R07_Depth : ∀ (p : PT), kidsMax p → ∀ (S : List Ent) (tk : List Nat) (k : Nat), cL Tryd.prog 37 [.agg (predC p)] S tk k = some (.int (depthW p), S, tk, k)
  | .node o s n ks, hn => fun S tk k => R07_Depth_step S tk k o s n ks (by simp only [kidsMax] at hn; exact hn.1) (R07_DepthL ks (by simp only [kidsMax] at hn; exact hn.2))
theorem R07_DepthL : ∀ (ks : List PT), kidsMaxL ks → ∀ q ∈ ks, ∀ (S : List Ent) (tk : List Nat) (k : Nat), cL Tryd.prog 37 [.agg (predC q)] S tk k = some (.int (depthW q), S, tk, k)
  | [], _ => fun q h => by simp at h
  | x :: ks, hn => fun q h => by
    simp only [kidsMaxL] at hn
    rcases List.mem_cons.1 h with e | h
    · rw [e]; exact R07_Depth x hn.1
    · exact R07_DepthL ks hn.2 q h
end
end Go.Proofs.YtkghgdkkholieaaDoor
/-
  The error of a node by itself, by the program.
-/



namespace Go.Proofs.YtkghgdkkholieaaDoor
open Go
def kidsM (o : Int) : Int × Int := if o = 1 ∨ o = 2 ∨ o = 3 then (0, 0) else if o = 4 ∨ o = 5 then (1, 24) else if o = 9 ∨ o = 14 then (1, 1) else (2, 2)
section
variable (S : List Ent) (tk : List Nat) (k : Nat)
theorem pred_named (o : Int) : cL Tryd.prog 61 [.int o] S tk k = some (.bool (isNamed o), S, tk, k) := by
  refine call_pure Tryd.func61 rfl rfl (by decide +kernel) (by decide +kernel) Tryd.ntmps61 rfl rfl _ _ _ rfl ?_; rw [RK_KX]
  simp (maxSteps := 1000000) +contextual (disch := first | with_reducible assumption | exact ⟨rfl⟩ | exact ⟨rfl, rfl⟩ | (refine _root_.id ?_; kernel_rfl) | omega) only [evs, ext_mv, nth, put, putT, getT, binInt, binStr, binBool, aUn, outA, resA, mapO, resA1, oneOf, w1, w2, w3, bots, cond_true, cond_false, if_true, if_false, ite_true, ite_false, reduceIte, reduceCtorEq, implies_true, Nat.reduceAdd, Nat.reduceSub, AV.int, AV.bool, AV.str, Nat.reduceBEq, Nat.reduceEqDiff, Nat.reduceMul, Nat.reduceLT, Nat.reduceLeDiff, Int.reduceNeg, BEq.rfl, beq_self_eq_true, tabl, cellsOf, fldA, ldA, stA, entAt, partA, takeN, over, leafOk, Value.oneCell', idxA, nilA, cellsEq, fillA, elemsA, pure1, pure2, reps, chkA, tys, Tryd.results61, KX_draw, KX_drawQ, KX_tail, lastO_one, lastO_more, dropL_one, dropL_more, callP_eq, callM_true]
  unfold isNamed
  refine ⟨fun h => ?_, fun h => ⟨fun h1 => ?_, fun h1 => ?_⟩⟩ <;> simp_all [Bool.beq_eq_decide_eq]
theorem pred_kids (o : Int) : cL Tryd.prog 60 [.int o] S tk k = some (.tup [.int (kidsM o).1, .int (kidsM o).2], S, tk, k) := by
  refine call_pure Tryd.func60 rfl rfl (by decide +kernel) (by decide +kernel) Tryd.ntmps60 rfl rfl _ _ _ rfl ?_; rw [RK_KX]
  simp (maxSteps := 1000000) +contextual (disch := first | with_reducible assumption | exact ⟨rfl⟩ | exact ⟨rfl, rfl⟩ | (refine _root_.id ?_; kernel_rfl) | omega) only [evs, ext_mv, nth, put, putT, getT, binInt, binStr, binBool, aUn, outA, resA, mapO, resA1, oneOf, w1, w2, w3, bots, cond_true, cond_false, if_true, if_false, ite_true, ite_false, reduceIte, reduceCtorEq, implies_true, Nat.reduceAdd, Nat.reduceSub, AV.int, AV.bool, AV.str, Nat.reduceBEq, Nat.reduceEqDiff, Nat.reduceMul, Nat.reduceLT, Nat.reduceLeDiff, Int.reduceNeg, BEq.rfl, beq_self_eq_true, tabl, cellsOf, fldA, ldA, stA, entAt, partA, takeN, over, leafOk, Value.oneCell', idxA, nilA, cellsEq, fillA, elemsA, pure1, pure2, reps, chkA, tys, Tryd.results60, KX_draw, KX_drawQ, KX_tail, lastO_one, lastO_more, dropL_one, dropL_more, callP_eq, callM_true]
  simp only [beq_iff_eq, beq_eq_false_iff_ne, ne_eq]
  by_cases h1 : o = 1
  · subst h1; simp [kidsM]
  by_cases h2 : o = 2
  · subst h2; simp [kidsM]
  by_cases h3 : o = 3
  · subst h3; simp [kidsM]
  by_cases h4 : o = 4
  · subst h4; simp [kidsM]
  by_cases h5 : o = 5
  · subst h5; simp [kidsM]
  by_cases h9 : o = 9
  · subst h9; simp [kidsM]
  by_cases h14 : o = 14
  · subst h14; simp [kidsM]
  simp [kidsM, h1, h2, h3, h4, h5, h9, h14]
set_option maxRecDepth 100000 in
set_option maxHeartbeats 4000000 in
theorem pred_node (o : Int) (s : ByteArray) (n : Int) (ks : List PT) : cL Tryd.prog 48 [.agg (predC (.node o s n ks))] S tk k = some (.int (nodeP (.node o s n ks)), S, tk, k) := by
  refine call_pure Tryd.func48 rfl rfl (by decide +kernel) (by decide +kernel) Tryd.ntmps48 rfl rfl _ _ _ rfl ?_; rw [RK_KX]
  have c3 := fun S tk k => names_Core S tk k s
  have c4 := fun S tk k => num_In S tk k n
  by_cases hlo : o < 1
  · have d1 : decide (o < 1) = true := by simpa using hlo
    simp (maxSteps := 1000000) +contextual (disch := first | with_reducible assumption | exact ⟨rfl⟩ | exact ⟨rfl, rfl⟩ | (refine _root_.id ?_; kernel_rfl) | omega) only [evs, ext_mv, nth, put, putT, getT, binInt, binStr, binBool, aUn, outA, resA, mapO, resA1, oneOf, w1, w2, w3, bots, cond_true, cond_false, if_true, if_false, ite_true, ite_false, reduceIte, reduceCtorEq, implies_true, Nat.reduceAdd, Nat.reduceSub, AV.int, AV.bool, AV.str, Nat.reduceBEq, Nat.reduceEqDiff, Nat.reduceMul, Nat.reduceLT, Nat.reduceLeDiff, Int.reduceNeg, BEq.rfl, beq_self_eq_true, tabl, cellsOf, fldA, ldA, stA, entAt, partA, takeN, over, leafOk, Value.oneCell', idxA, nilA, cellsEq, fillA, elemsA, pure1, pure2, reps, chkA, tys, Tryd.results48, KX_draw, KX_drawQ, KX_tail, lastO_one, lastO_more, dropL_one, dropL_more, callP_eq, callM_true, predC, kidsC_length, d1]
    simp only [nodeP]; rw [if_pos (Or.inl hlo)]
  by_cases hhi : 18 < o
  · have d1 : decide (o < 1) = false := by simpa using hlo
    have d2 : decide (o > 18) = true := by simpa using hhi
    simp (maxSteps := 1000000) +contextual (disch := first | with_reducible assumption | exact ⟨rfl⟩ | exact ⟨rfl, rfl⟩ | (refine _root_.id ?_; kernel_rfl) | omega) only [evs, ext_mv, nth, put, putT, getT, binInt, binStr, binBool, aUn, outA, resA, mapO, resA1, oneOf, w1, w2, w3, bots, cond_true, cond_false, if_true, if_false, ite_true, ite_false, reduceIte, reduceCtorEq, implies_true, Nat.reduceAdd, Nat.reduceSub, AV.int, AV.bool, AV.str, Nat.reduceBEq, Nat.reduceEqDiff, Nat.reduceMul, Nat.reduceLT, Nat.reduceLeDiff, Int.reduceNeg, BEq.rfl, beq_self_eq_true, tabl, cellsOf, fldA, ldA, stA, entAt, partA, takeN, over, leafOk, Value.oneCell', idxA, nilA, cellsEq, fillA, elemsA, pure1, pure2, reps, chkA, tys, Tryd.results48, KX_draw, KX_drawQ, KX_tail, lastO_one, lastO_more, dropL_one, dropL_more, callP_eq, callM_true, predC, kidsC_length, d1, d2]
    simp only [nodeP]; rw [if_pos (Or.inr (Or.inl hhi))]
  have hcase : o = 1 ∨ o = 2 ∨ o = 3 ∨ o = 4 ∨ o = 5 ∨ o = 8 ∨ (o = 9 ∨ o = 14) ∨ (o = 6 ∨ o = 7 ∨ o = 10 ∨ o = 11 ∨ o = 12 ∨ o = 13 ∨ o = 15 ∨ o = 16 ∨ o = 17 ∨ o = 18) := by omega
  have f1 : decide (o < 1) = false := by simpa using hlo
  have f2 : decide (o > 18) = false := by simpa using hhi
  rcases hcase with h | h | h | h | h | h | h | h
  · have c1 : ∀ S tk k, cL Tryd.prog 60 [.int o] S tk k = some (.tup [.int 0, .int 0], S, tk, k) := fun S tk k => by
      rw [pred_kids S tk k o]
      rcases h with rfl <;> rfl
    have c2 : ∀ S tk k, cL Tryd.prog 61 [.int o] S tk k = some (.bool false, S, tk, k) := fun S tk k => by
      rw [pred_named S tk k o]
      rcases h with rfl <;> rfl
    have g1 : (o == 1) = true := by simp; omega
    have g2 : (o == 2) = false := by simp; omega
    have g3 : (o == 3) = false := by simp; omega
    have g4 : (o == 4) = false := by simp; omega
    have g8 : (o == 8) = false := by simp; omega
    have q1 : (o != 1) = false := by simp; omega
    have q2 : (o != 2) = true := by simp; omega
    simp (maxSteps := 1000000) +contextual (disch := first | with_reducible assumption | exact ⟨rfl⟩ | exact ⟨rfl, rfl⟩ | (refine _root_.id ?_; kernel_rfl) | omega) only [evs, ext_mv, nth, put, putT, getT, binInt, binStr, binBool, aUn, outA, resA, mapO, resA1, oneOf, w1, w2, w3, bots, cond_true, cond_false, if_true, if_false, ite_true, ite_false, reduceIte, reduceCtorEq, implies_true, Nat.reduceAdd, Nat.reduceSub, AV.int, AV.bool, AV.str, Nat.reduceBEq, Nat.reduceEqDiff, Nat.reduceMul, Nat.reduceLT, Nat.reduceLeDiff, Int.reduceNeg, BEq.rfl, beq_self_eq_true, tabl, cellsOf, fldA, ldA, stA, entAt, partA, takeN, over, leafOk, Value.oneCell', idxA, nilA, cellsEq, fillA, elemsA, pure1, pure2, reps, chkA, tys, Tryd.results48, KX_draw, KX_drawQ, KX_tail, lastO_one, lastO_more, dropL_one, dropL_more, callP_eq, callM_true, predC, kidsC_length, f1, f2, g1, g2, g3, g4, g8, q1, q2, c1, c2, c4]
    clear c1 c2 c4
    simp only [nodeP, isNamed, kidsOk, calledF, bV, bTag, bVal, sEq_empty]
    grind
  · have c1 : ∀ S tk k, cL Tryd.prog 60 [.int o] S tk k = some (.tup [.int 0, .int 0], S, tk, k) := fun S tk k => by
      rw [pred_kids S tk k o]
      rcases h with rfl <;> rfl
    have c2 : ∀ S tk k, cL Tryd.prog 61 [.int o] S tk k = some (.bool false, S, tk, k) := fun S tk k => by
      rw [pred_named S tk k o]
      rcases h with rfl <;> rfl
    have g1 : (o == 1) = false := by simp; omega
    have g2 : (o == 2) = true := by simp; omega
    have g3 : (o == 3) = false := by simp; omega
    have g4 : (o == 4) = false := by simp; omega
    have g8 : (o == 8) = false := by simp; omega
    have q1 : (o != 1) = true := by simp; omega
    have q2 : (o != 2) = false := by simp; omega
    simp (maxSteps := 1000000) +contextual (disch := first | with_reducible assumption | exact ⟨rfl⟩ | exact ⟨rfl, rfl⟩ | (refine _root_.id ?_; kernel_rfl) | omega) only [evs, ext_mv, nth, put, putT, getT, binInt, binStr, binBool, aUn, outA, resA, mapO, resA1, oneOf, w1, w2, w3, bots, cond_true, cond_false, if_true, if_false, ite_true, ite_false, reduceIte, reduceCtorEq, implies_true, Nat.reduceAdd, Nat.reduceSub, AV.int, AV.bool, AV.str, Nat.reduceBEq, Nat.reduceEqDiff, Nat.reduceMul, Nat.reduceLT, Nat.reduceLeDiff, Int.reduceNeg, BEq.rfl, beq_self_eq_true, tabl, cellsOf, fldA, ldA, stA, entAt, partA, takeN, over, leafOk, Value.oneCell', idxA, nilA, cellsEq, fillA, elemsA, pure1, pure2, reps, chkA, tys, Tryd.results48, KX_draw, KX_drawQ, KX_tail, lastO_one, lastO_more, dropL_one, dropL_more, callP_eq, callM_true, predC, kidsC_length, f1, f2, g1, g2, g3, g4, g8, q1, q2, c1, c2, c4]
    clear c1 c2 c4
    simp only [nodeP, isNamed, kidsOk, calledF, bV, bTag, bVal, sEq_empty]
    grind
  · have c1 : ∀ S tk k, cL Tryd.prog 60 [.int o] S tk k = some (.tup [.int 0, .int 0], S, tk, k) := fun S tk k => by
      rw [pred_kids S tk k o]
      rcases h with rfl <;> rfl
    have c2 : ∀ S tk k, cL Tryd.prog 61 [.int o] S tk k = some (.bool true, S, tk, k) := fun S tk k => by
      rw [pred_named S tk k o]
      rcases h with rfl <;> rfl
    have g1 : (o == 1) = false := by simp; omega
    have g2 : (o == 2) = false := by simp; omega
    have g3 : (o == 3) = true := by simp; omega
    have g4 : (o == 4) = false := by simp; omega
    have g8 : (o == 8) = false := by simp; omega
    have q1 : (o != 1) = true := by simp; omega
    have q2 : (o != 2) = true := by simp; omega
    cases hc : coreF s <;> rw [hc] at c3 <;> simp only [if_true, if_false, Bool.false_eq_true] at c3
    all_goals
      simp (maxSteps := 1000000) +contextual (disch := first | with_reducible assumption | exact ⟨rfl⟩ | exact ⟨rfl, rfl⟩ | (refine _root_.id ?_; kernel_rfl) | omega) only [evs, ext_mv, nth, put, putT, getT, binInt, binStr, binBool, aUn, outA, resA, mapO, resA1, oneOf, w1, w2, w3, bots, cond_true, cond_false, if_true, if_false, ite_true, ite_false, reduceIte, reduceCtorEq, implies_true, Nat.reduceAdd, Nat.reduceSub, AV.int, AV.bool, AV.str, Nat.reduceBEq, Nat.reduceEqDiff, Nat.reduceMul, Nat.reduceLT, Nat.reduceLeDiff, Int.reduceNeg, BEq.rfl, beq_self_eq_true, tabl, cellsOf, fldA, ldA, stA, entAt, partA, takeN, over, leafOk, Value.oneCell', idxA, nilA, cellsEq, fillA, elemsA, pure1, pure2, reps, chkA, tys, Tryd.results48, KX_draw, KX_drawQ, KX_tail, lastO_one, lastO_more, dropL_one, dropL_more, callP_eq, callM_true, predC, kidsC_length, f1, f2, g1, g2, g3, g4, g8, q1, q2, c1, c2, c4, c3]
      clear c1 c2 c4
      simp only [nodeP, isNamed, kidsOk, calledF, bV, bTag, bVal, sEq_empty]
      grind
  · have c1 : ∀ S tk k, cL Tryd.prog 60 [.int o] S tk k = some (.tup [.int 1, .int 24], S, tk, k) := fun S tk k => by
      rw [pred_kids S tk k o]
      rcases h with rfl <;> rfl
    have c2 : ∀ S tk k, cL Tryd.prog 61 [.int o] S tk k = some (.bool true, S, tk, k) := fun S tk k => by
      rw [pred_named S tk k o]
      rcases h with rfl <;> rfl
    have g1 : (o == 1) = false := by simp; omega
    have g2 : (o == 2) = false := by simp; omega
    have g3 : (o == 3) = false := by simp; omega
    have g4 : (o == 4) = true := by simp; omega
    have g8 : (o == 8) = false := by simp; omega
    have q1 : (o != 1) = true := by simp; omega
    have q2 : (o != 2) = true := by simp; omega
    cases hc : coreF s <;> rw [hc] at c3 <;> simp only [if_true, if_false, Bool.false_eq_true] at c3
    all_goals
      simp (maxSteps := 1000000) +contextual (disch := first | with_reducible assumption | exact ⟨rfl⟩ | exact ⟨rfl, rfl⟩ | (refine _root_.id ?_; kernel_rfl) | omega) only [evs, ext_mv, nth, put, putT, getT, binInt, binStr, binBool, aUn, outA, resA, mapO, resA1, oneOf, w1, w2, w3, bots, cond_true, cond_false, if_true, if_false, ite_true, ite_false, reduceIte, reduceCtorEq, implies_true, Nat.reduceAdd, Nat.reduceSub, AV.int, AV.bool, AV.str, Nat.reduceBEq, Nat.reduceEqDiff, Nat.reduceMul, Nat.reduceLT, Nat.reduceLeDiff, Int.reduceNeg, BEq.rfl, beq_self_eq_true, tabl, cellsOf, fldA, ldA, stA, entAt, partA, takeN, over, leafOk, Value.oneCell', idxA, nilA, cellsEq, fillA, elemsA, pure1, pure2, reps, chkA, tys, Tryd.results48, KX_draw, KX_drawQ, KX_tail, lastO_one, lastO_more, dropL_one, dropL_more, callP_eq, callM_true, predC, kidsC_length, f1, f2, g1, g2, g3, g4, g8, q1, q2, c1, c2, c4, c3]
      clear c1 c2 c4
      simp only [nodeP, isNamed, kidsOk, calledF, bV, bTag, bVal, sEq_empty]
      grind
  · have c1 : ∀ S tk k, cL Tryd.prog 60 [.int o] S tk k = some (.tup [.int 1, .int 24], S, tk, k) := fun S tk k => by
      rw [pred_kids S tk k o]
      rcases h with rfl <;> rfl
    have c2 : ∀ S tk k, cL Tryd.prog 61 [.int o] S tk k = some (.bool true, S, tk, k) := fun S tk k => by
      rw [pred_named S tk k o]
      rcases h with rfl <;> rfl
    have g1 : (o == 1) = false := by simp; omega
    have g2 : (o == 2) = false := by simp; omega
    have g3 : (o == 3) = false := by simp; omega
    have g4 : (o == 4) = false := by simp; omega
    have g8 : (o == 8) = false := by simp; omega
    have q1 : (o != 1) = true := by simp; omega
    have q2 : (o != 2) = true := by simp; omega
    cases hc : coreF s <;> rw [hc] at c3 <;> simp only [if_true, if_false, Bool.false_eq_true] at c3
    all_goals
      simp (maxSteps := 1000000) +contextual (disch := first | with_reducible assumption | exact ⟨rfl⟩ | exact ⟨rfl, rfl⟩ | (refine _root_.id ?_; kernel_rfl) | omega) only [evs, ext_mv, nth, put, putT, getT, binInt, binStr, binBool, aUn, outA, resA, mapO, resA1, oneOf, w1, w2, w3, bots, cond_true, cond_false, if_true, if_false, ite_true, ite_false, reduceIte, reduceCtorEq, implies_true, Nat.reduceAdd, Nat.reduceSub, AV.int, AV.bool, AV.str, Nat.reduceBEq, Nat.reduceEqDiff, Nat.reduceMul, Nat.reduceLT, Nat.reduceLeDiff, Int.reduceNeg, BEq.rfl, beq_self_eq_true, tabl, cellsOf, fldA, ldA, stA, entAt, partA, takeN, over, leafOk, Value.oneCell', idxA, nilA, cellsEq, fillA, elemsA, pure1, pure2, reps, chkA, tys, Tryd.results48, KX_draw, KX_drawQ, KX_tail, lastO_one, lastO_more, dropL_one, dropL_more, callP_eq, callM_true, predC, kidsC_length, f1, f2, g1, g2, g3, g4, g8, q1, q2, c1, c2, c4, c3]
      clear c1 c2 c4
      simp only [nodeP, isNamed, kidsOk, calledF, bV, bTag, bVal, sEq_empty]
      grind
  · have c1 : ∀ S tk k, cL Tryd.prog 60 [.int o] S tk k = some (.tup [.int 2, .int 2], S, tk, k) := fun S tk k => by
      rw [pred_kids S tk k o]
      rcases h with rfl <;> rfl
    have c2 : ∀ S tk k, cL Tryd.prog 61 [.int o] S tk k = some (.bool false, S, tk, k) := fun S tk k => by
      rw [pred_named S tk k o]
      rcases h with rfl <;> rfl
    have g1 : (o == 1) = false := by simp; omega
    have g2 : (o == 2) = false := by simp; omega
    have g3 : (o == 3) = false := by simp; omega
    have g4 : (o == 4) = false := by simp; omega
    have g8 : (o == 8) = true := by simp; omega
    have q1 : (o != 1) = true := by simp; omega
    have q2 : (o != 2) = true := by simp; omega
    by_cases hk2 : ks.length = 2
    · obtain ⟨x, hx⟩ := nth_some (show 0 < ks.length by omega)
      obtain ⟨r, hr⟩ : ∃ r, ks = x :: r := ⟨_, by simpa using nth_drop hx⟩
      have hx' := nth_kids hx
      rw [predC_cells] at hx'
      simp (maxSteps := 1000000) +contextual (disch := first | with_reducible assumption | exact ⟨rfl⟩ | exact ⟨rfl, rfl⟩ | (refine _root_.id ?_; kernel_rfl) | omega) only [evs, ext_mv, nth, put, putT, getT, binInt, binStr, binBool, aUn, outA, resA, mapO, resA1, oneOf, w1, w2, w3, bots, cond_true, cond_false, if_true, if_false, ite_true, ite_false, reduceIte, reduceCtorEq, implies_true, Nat.reduceAdd, Nat.reduceSub, AV.int, AV.bool, AV.str, Nat.reduceBEq, Nat.reduceEqDiff, Nat.reduceMul, Nat.reduceLT, Nat.reduceLeDiff, Int.reduceNeg, BEq.rfl, beq_self_eq_true, tabl, cellsOf, fldA, ldA, stA, entAt, partA, takeN, over, leafOk, Value.oneCell', idxA, nilA, cellsEq, fillA, elemsA, pure1, pure2, reps, chkA, tys, Tryd.results48, KX_draw, KX_drawQ, KX_tail, lastO_one, lastO_more, dropL_one, dropL_more, callP_eq, callM_true, predC, kidsC_length, f1, f2, g1, g2, g3, g4, g8, q1, q2, c1, c2, c4, hx']
      clear c1 c2 c4
      simp only [nodeP, isNamed, kidsOk, calledF, bV, bTag, bVal, sEq_empty]
      grind
    · have hk3 : decide ((ks.length : Int) < 2) = false → decide ((ks.length : Int) > 2) = true := by simp; omega
      simp (maxSteps := 1000000) +contextual (disch := first | with_reducible assumption | exact ⟨rfl⟩ | exact ⟨rfl, rfl⟩ | (refine _root_.id ?_; kernel_rfl) | omega) only [evs, ext_mv, nth, put, putT, getT, binInt, binStr, binBool, aUn, outA, resA, mapO, resA1, oneOf, w1, w2, w3, bots, cond_true, cond_false, if_true, if_false, ite_true, ite_false, reduceIte, reduceCtorEq, implies_true, Nat.reduceAdd, Nat.reduceSub, AV.int, AV.bool, AV.str, Nat.reduceBEq, Nat.reduceEqDiff, Nat.reduceMul, Nat.reduceLT, Nat.reduceLeDiff, Int.reduceNeg, BEq.rfl, beq_self_eq_true, tabl, cellsOf, fldA, ldA, stA, entAt, partA, takeN, over, leafOk, Value.oneCell', idxA, nilA, cellsEq, fillA, elemsA, pure1, pure2, reps, chkA, tys, Tryd.results48, KX_draw, KX_drawQ, KX_tail, lastO_one, lastO_more, dropL_one, dropL_more, callP_eq, callM_true, predC, kidsC_length, f1, f2, g1, g2, g3, g4, g8, q1, q2, c1, c2, c4, hk3]
      clear c1 c2 c4
      simp only [nodeP, isNamed, kidsOk, calledF, bV, bTag, bVal, sEq_empty]
      grind
  · have c1 : ∀ S tk k, cL Tryd.prog 60 [.int o] S tk k = some (.tup [.int 1, .int 1], S, tk, k) := fun S tk k => by
      rw [pred_kids S tk k o]
      rcases h with rfl | rfl <;> rfl
    have c2 : ∀ S tk k, cL Tryd.prog 61 [.int o] S tk k = some (.bool false, S, tk, k) := fun S tk k => by
      rw [pred_named S tk k o]
      rcases h with rfl | rfl <;> rfl
    have g1 : (o == 1) = false := by simp; omega
    have g2 : (o == 2) = false := by simp; omega
    have g3 : (o == 3) = false := by simp; omega
    have g4 : (o == 4) = false := by simp; omega
    have g8 : (o == 8) = false := by simp; omega
    have q1 : (o != 1) = true := by simp; omega
    have q2 : (o != 2) = true := by simp; omega
    simp (maxSteps := 1000000) +contextual (disch := first | with_reducible assumption | exact ⟨rfl⟩ | exact ⟨rfl, rfl⟩ | (refine _root_.id ?_; kernel_rfl) | omega) only [evs, ext_mv, nth, put, putT, getT, binInt, binStr, binBool, aUn, outA, resA, mapO, resA1, oneOf, w1, w2, w3, bots, cond_true, cond_false, if_true, if_false, ite_true, ite_false, reduceIte, reduceCtorEq, implies_true, Nat.reduceAdd, Nat.reduceSub, AV.int, AV.bool, AV.str, Nat.reduceBEq, Nat.reduceEqDiff, Nat.reduceMul, Nat.reduceLT, Nat.reduceLeDiff, Int.reduceNeg, BEq.rfl, beq_self_eq_true, tabl, cellsOf, fldA, ldA, stA, entAt, partA, takeN, over, leafOk, Value.oneCell', idxA, nilA, cellsEq, fillA, elemsA, pure1, pure2, reps, chkA, tys, Tryd.results48, KX_draw, KX_drawQ, KX_tail, lastO_one, lastO_more, dropL_one, dropL_more, callP_eq, callM_true, predC, kidsC_length, f1, f2, g1, g2, g3, g4, g8, q1, q2, c1, c2, c4]
    clear c1 c2 c4
    simp only [nodeP, isNamed, kidsOk, calledF, bV, bTag, bVal, sEq_empty]
    grind
  · have c1 : ∀ S tk k, cL Tryd.prog 60 [.int o] S tk k = some (.tup [.int 2, .int 2], S, tk, k) := fun S tk k => by
      rw [pred_kids S tk k o]
      rcases h with rfl | rfl | rfl | rfl | rfl | rfl | rfl | rfl | rfl | rfl <;> rfl
    have c2 : ∀ S tk k, cL Tryd.prog 61 [.int o] S tk k = some (.bool false, S, tk, k) := fun S tk k => by
      rw [pred_named S tk k o]
      rcases h with rfl | rfl | rfl | rfl | rfl | rfl | rfl | rfl | rfl | rfl <;> rfl
    have g1 : (o == 1) = false := by simp; omega
    have g2 : (o == 2) = false := by simp; omega
    have g3 : (o == 3) = false := by simp; omega
    have g4 : (o == 4) = false := by simp; omega
    have g8 : (o == 8) = false := by simp; omega
    have q1 : (o != 1) = true := by simp; omega
    have q2 : (o != 2) = true := by simp; omega
    simp (maxSteps := 1000000) +contextual (disch := first | with_reducible assumption | exact ⟨rfl⟩ | exact ⟨rfl, rfl⟩ | (refine _root_.id ?_; kernel_rfl) | omega) only [evs, ext_mv, nth, put, putT, getT, binInt, binStr, binBool, aUn, outA, resA, mapO, resA1, oneOf, w1, w2, w3, bots, cond_true, cond_false, if_true, if_false, ite_true, ite_false, reduceIte, reduceCtorEq, implies_true, Nat.reduceAdd, Nat.reduceSub, AV.int, AV.bool, AV.str, Nat.reduceBEq, Nat.reduceEqDiff, Nat.reduceMul, Nat.reduceLT, Nat.reduceLeDiff, Int.reduceNeg, BEq.rfl, beq_self_eq_true, tabl, cellsOf, fldA, ldA, stA, entAt, partA, takeN, over, leafOk, Value.oneCell', idxA, nilA, cellsEq, fillA, elemsA, pure1, pure2, reps, chkA, tys, Tryd.results48, KX_draw, KX_drawQ, KX_tail, lastO_one, lastO_more, dropL_one, dropL_more, callP_eq, callM_true, predC, kidsC_length, f1, f2, g1, g2, g3, g4, g8, q1, q2, c1, c2, c4]
    clear c1 c2 c3 c4
    have hn : o ≠ 1 ∧ o ≠ 2 ∧ o ≠ 3 ∧ o ≠ 4 ∧ o ≠ 5 ∧ o ≠ 8 ∧ o ≠ 9 ∧ o ≠ 14 := by omega
    obtain ⟨n1, n2, n3, n4, n5, n8, n9, n14⟩ := hn
    clear h f1 f2 g1 g2 g3 g4 g8 q1 q2
    simp only [nodeP, isNamed, kidsOk, calledF, bV, bTag, bVal, sEq_empty, n1, n2, n3, n4, n5, n8, n9, n14, hlo, hhi, or_self, if_false, decide_false, Bool.or_false, false_and, ne_eq, not_false_eq_true, true_and, false_or, or_false]
    clear n1 n2 n3 n4 n5 n8 n9 n14 hlo hhi
    grind
end
end Go.Proofs.YtkghgdkkholieaaDoor
/-
  The check of predicates, by the reference.
-/


namespace Go.Proofs.YtkghgdkkholieaaDoor
open Go
section
variable (S : List Ent) (tk : List Nat) (k : Nat)
theorem R07_named (o : Int) : cL Tryd.prog 65 [.int o] S tk k = some (.bool (isNamed o), S, tk, k) := by
  refine call_pure Tryd.func65 rfl rfl (by decide +kernel) (by decide +kernel) Tryd.ntmps65 rfl rfl _ _ _ rfl ?_; rw [RK_KX]
  simp (maxSteps := 1000000) +contextual (disch := first | with_reducible assumption | exact ⟨rfl⟩ | exact ⟨rfl, rfl⟩ | (refine _root_.id ?_; kernel_rfl) | omega) only [evs, ext_mv, nth, put, putT, getT, binInt, binStr, binBool, aUn, outA, resA, mapO, resA1, oneOf, w1, w2, w3, bots, cond_true, cond_false, if_true, if_false, ite_true, ite_false, reduceIte, reduceCtorEq, implies_true, Nat.reduceAdd, Nat.reduceSub, AV.int, AV.bool, AV.str, Nat.reduceBEq, Nat.reduceEqDiff, Nat.reduceMul, Nat.reduceLT, Nat.reduceLeDiff, Int.reduceNeg, BEq.rfl, beq_self_eq_true, tabl, cellsOf, fldA, ldA, stA, entAt, partA, takeN, over, leafOk, Value.oneCell', idxA, nilA, cellsEq, fillA, elemsA, pure1, pure2, reps, chkA, tys, Tryd.results65, KX_draw, KX_drawQ, KX_tail, lastO_one, lastO_more, dropL_one, dropL_more, callP_eq, callM_true]
  unfold isNamed
  refine ⟨fun h => ?_, fun h => ⟨fun h1 => ?_, fun h1 => ?_⟩⟩ <;> simp_all [Bool.beq_eq_decide_eq]
theorem R07_kids (o : Int) (n : Nat) : cL Tryd.prog 66 [.int o, .int (n : Nat)] S tk k = some (.bool (kidsOk o n), S, tk, k) := by
  refine call_pure Tryd.func66 rfl rfl (by decide +kernel) (by decide +kernel) Tryd.ntmps66 rfl rfl _ _ _ rfl ?_; rw [RK_KX]
  simp (maxSteps := 1000000) +contextual (disch := first | with_reducible assumption | exact ⟨rfl⟩ | exact ⟨rfl, rfl⟩ | (refine _root_.id ?_; kernel_rfl) | omega) only [evs, ext_mv, nth, put, putT, getT, binInt, binStr, binBool, aUn, outA, resA, mapO, resA1, oneOf, w1, w2, w3, bots, cond_true, cond_false, if_true, if_false, ite_true, ite_false, reduceIte, reduceCtorEq, implies_true, Nat.reduceAdd, Nat.reduceSub, AV.int, AV.bool, AV.str, Nat.reduceBEq, Nat.reduceEqDiff, Nat.reduceMul, Nat.reduceLT, Nat.reduceLeDiff, Int.reduceNeg, BEq.rfl, beq_self_eq_true, tabl, cellsOf, fldA, ldA, stA, entAt, partA, takeN, over, leafOk, Value.oneCell', idxA, nilA, cellsEq, fillA, elemsA, pure1, pure2, reps, chkA, tys, Tryd.results66, KX_draw, KX_drawQ, KX_tail, lastO_one, lastO_more, dropL_one, dropL_more, callP_eq, callM_true]
  simp only [beq_iff_eq, beq_eq_false_iff_ne, ne_eq, kidsOk]
  have e0 : (((n : Nat) : Int) == 0) = decide (n = 0) := by rw [Bool.beq_eq_decide_eq]; exact decide_eq_decide.2 (by omega)
  have e1 : (((n : Nat) : Int) == 1) = decide (n = 1) := by rw [Bool.beq_eq_decide_eq]; exact decide_eq_decide.2 (by omega)
  have e2 : (((n : Nat) : Int) == 2) = decide (n = 2) := by rw [Bool.beq_eq_decide_eq]; exact decide_eq_decide.2 (by omega)
  have e3 : decide (((n : Nat) : Int) ≥ 1) = decide (1 ≤ n) := decide_eq_decide.2 (by omega)
  have e4 : decide (((n : Nat) : Int) ≤ 24) = decide (n ≤ 24) := decide_eq_decide.2 (by omega)
  simp only [e0, e1, e2, e3, e4]
  generalize decide (n = 0) = z0
  generalize decide (n = 1) = z1
  generalize decide (n = 2) = z2
  generalize decide (1 ≤ n) = z3
  generalize decide (n ≤ 24) = z4
  clear e0 e1 e2 e3 e4
  by_cases h1 : o = 1
  · subst h1; simp
  by_cases h2 : o = 2
  · subst h2; simp
  by_cases h3 : o = 3
  · subst h3; simp
  by_cases h4 : o = 4
  · subst h4; cases z3 <;> simp
  by_cases h5 : o = 5
  · subst h5; cases z3 <;> simp
  by_cases h9 : o = 9
  · subst h9; simp
  by_cases h14 : o = 14
  · subst h14; simp
  simp [h1, h2, h3, h4, h5, h9, h14]
theorem R07_called (o : Int) (s : ByteArray) (n : Int) (ks : List PT) : cL Tryd.prog 67 [.agg (predC (.node o s n ks))] S tk k = some (.bool (calledF o s), S, tk, k) := by
  refine call_pure Tryd.func67 rfl rfl (by decide +kernel) (by decide +kernel) Tryd.ntmps67 rfl rfl _ _ _ rfl ?_; rw [RK_KX]
  have c := fun S tk k => R04_Core S tk k s
  have n3 : ((3 : Int) == 0) = false := rfl
  have n0 : ((0 : Int) == 0) = true := rfl
  cases hc : coreF s <;> rw [hc] at c <;> simp only [if_true, if_false, Bool.false_eq_true] at c
  all_goals
    simp (maxSteps := 1000000) +contextual (disch := first | with_reducible assumption | exact ⟨rfl⟩ | exact ⟨rfl, rfl⟩ | (refine _root_.id ?_; kernel_rfl) | omega) only [evs, ext_mv, nth, put, putT, getT, binInt, binStr, binBool, aUn, outA, resA, mapO, resA1, oneOf, w1, w2, w3, bots, cond_true, cond_false, if_true, if_false, ite_true, ite_false, reduceIte, reduceCtorEq, implies_true, Nat.reduceAdd, Nat.reduceSub, AV.int, AV.bool, AV.str, Nat.reduceBEq, Nat.reduceEqDiff, Nat.reduceMul, Nat.reduceLT, Nat.reduceLeDiff, Int.reduceNeg, BEq.rfl, beq_self_eq_true, tabl, cellsOf, fldA, ldA, stA, entAt, partA, takeN, over, leafOk, Value.oneCell', idxA, nilA, cellsEq, fillA, elemsA, pure1, pure2, reps, chkA, tys, Tryd.results67, KX_draw, KX_drawQ, KX_tail, lastO_one, lastO_more, dropL_one, dropL_more, callP_eq, callM_true, predC, c, n3, n0]
    simp only [beq_iff_eq, beq_eq_false_iff_ne, ne_eq, calledF, bV, bTag, bVal]
    grind
set_option maxRecDepth 100000 in
set_option maxHeartbeats 4000000 in
theorem R07_node (o : Int) (s : ByteArray) (n : Int) (ks : List PT) : cL Tryd.prog 54 [.agg (predC (.node o s n ks))] S tk k = some (.int (nodeP (.node o s n ks)), S, tk, k) := by
  refine call_pure Tryd.func54 rfl rfl (by decide +kernel) (by decide +kernel) Tryd.ntmps54 rfl rfl _ _ _ rfl ?_; rw [RK_KX]
  have c1 := fun S tk k => R07_kids S tk k o ks.length
  have c2 := fun S tk k => R07_named S tk k o
  have c3 := fun S tk k => R07_called S tk k o s n ks
  have c4 := fun S tk k => R01_In S tk k n
  simp only [predC] at c3
  by_cases hr : o < 1 ∨ 18 < o
  · by_cases hlo : o < 1
    · have d1 : decide (o < 1) = true := by simpa using hlo
      have g1 : (o == 1) = false := by simp; omega
      have g2 : (o == 2) = false := by simp; omega
      simp (maxSteps := 1000000) +contextual (disch := first | with_reducible assumption | exact ⟨rfl⟩ | exact ⟨rfl, rfl⟩ | (refine _root_.id ?_; kernel_rfl) | omega) only [evs, ext_mv, nth, put, putT, getT, binInt, binStr, binBool, aUn, outA, resA, mapO, resA1, oneOf, w1, w2, w3, bots, cond_true, cond_false, if_true, if_false, ite_true, ite_false, reduceIte, reduceCtorEq, implies_true, Nat.reduceAdd, Nat.reduceSub, AV.int, AV.bool, AV.str, Nat.reduceBEq, Nat.reduceEqDiff, Nat.reduceMul, Nat.reduceLT, Nat.reduceLeDiff, Int.reduceNeg, BEq.rfl, beq_self_eq_true, tabl, cellsOf, fldA, ldA, stA, entAt, partA, takeN, over, leafOk, Value.oneCell', idxA, nilA, cellsEq, fillA, elemsA, pure1, pure2, reps, chkA, tys, Tryd.results54, KX_draw, KX_drawQ, KX_tail, lastO_one, lastO_more, dropL_one, dropL_more, callP_eq, callM_true, predC, kidsC_length, d1, g1, g2]
      simp only [nodeP]; rw [if_pos (Or.inl hlo)]
    · have d1 : decide (o < 1) = false := by simpa using hlo
      have d2 : decide (o > 18) = true := by simp; omega
      have g1 : (o == 1) = false := by simp; omega
      have g2 : (o == 2) = false := by simp; omega
      simp (maxSteps := 1000000) +contextual (disch := first | with_reducible assumption | exact ⟨rfl⟩ | exact ⟨rfl, rfl⟩ | (refine _root_.id ?_; kernel_rfl) | omega) only [evs, ext_mv, nth, put, putT, getT, binInt, binStr, binBool, aUn, outA, resA, mapO, resA1, oneOf, w1, w2, w3, bots, cond_true, cond_false, if_true, if_false, ite_true, ite_false, reduceIte, reduceCtorEq, implies_true, Nat.reduceAdd, Nat.reduceSub, AV.int, AV.bool, AV.str, Nat.reduceBEq, Nat.reduceEqDiff, Nat.reduceMul, Nat.reduceLT, Nat.reduceLeDiff, Int.reduceNeg, BEq.rfl, beq_self_eq_true, tabl, cellsOf, fldA, ldA, stA, entAt, partA, takeN, over, leafOk, Value.oneCell', idxA, nilA, cellsEq, fillA, elemsA, pure1, pure2, reps, chkA, tys, Tryd.results54, KX_draw, KX_drawQ, KX_tail, lastO_one, lastO_more, dropL_one, dropL_more, callP_eq, callM_true, predC, kidsC_length, d1, d2, g1, g2]
      simp only [nodeP]; rw [if_pos (Or.inr (Or.inl (by omega)))]
  have d1 : decide (o < 1) = false := by simp; omega
  have d2 : decide (o > 18) = false := by simp; omega
  have es := sEq_empty s
  have hcase : o = 1 ∨ o = 2 ∨ o = 8 ∨ (o ≠ 1 ∧ o ≠ 2 ∧ o ≠ 8) := by omega
  rcases hcase with h | h | h | h
  · have g1 : (o == 1) = true := by simp; omega
    have g2 : (o == 2) = false := by simp; omega
    have g8 : (o == 8) = false := by simp; omega
    simp (maxSteps := 1000000) +contextual (disch := first | with_reducible assumption | exact ⟨rfl⟩ | exact ⟨rfl, rfl⟩ | (refine _root_.id ?_; kernel_rfl) | omega) only [evs, ext_mv, nth, put, putT, getT, binInt, binStr, binBool, aUn, outA, resA, mapO, resA1, oneOf, w1, w2, w3, bots, cond_true, cond_false, if_true, if_false, ite_true, ite_false, reduceIte, reduceCtorEq, implies_true, Nat.reduceAdd, Nat.reduceSub, AV.int, AV.bool, AV.str, Nat.reduceBEq, Nat.reduceEqDiff, Nat.reduceMul, Nat.reduceLT, Nat.reduceLeDiff, Int.reduceNeg, BEq.rfl, beq_self_eq_true, tabl, cellsOf, fldA, ldA, stA, entAt, partA, takeN, over, leafOk, Value.oneCell', idxA, nilA, cellsEq, fillA, elemsA, pure1, pure2, reps, chkA, tys, Tryd.results54, KX_draw, KX_drawQ, KX_tail, lastO_one, lastO_more, dropL_one, dropL_more, callP_eq, callM_true, predC, kidsC_length, d1, d2, g1, g2, g8, c1, c2, c3, c4]
    clear c1 c2 c3 c4
    simp only [nodeP, es]
    grind
  · have g1 : (o == 1) = false := by simp; omega
    have g2 : (o == 2) = true := by simp; omega
    have g8 : (o == 8) = false := by simp; omega
    simp (maxSteps := 1000000) +contextual (disch := first | with_reducible assumption | exact ⟨rfl⟩ | exact ⟨rfl, rfl⟩ | (refine _root_.id ?_; kernel_rfl) | omega) only [evs, ext_mv, nth, put, putT, getT, binInt, binStr, binBool, aUn, outA, resA, mapO, resA1, oneOf, w1, w2, w3, bots, cond_true, cond_false, if_true, if_false, ite_true, ite_false, reduceIte, reduceCtorEq, implies_true, Nat.reduceAdd, Nat.reduceSub, AV.int, AV.bool, AV.str, Nat.reduceBEq, Nat.reduceEqDiff, Nat.reduceMul, Nat.reduceLT, Nat.reduceLeDiff, Int.reduceNeg, BEq.rfl, beq_self_eq_true, tabl, cellsOf, fldA, ldA, stA, entAt, partA, takeN, over, leafOk, Value.oneCell', idxA, nilA, cellsEq, fillA, elemsA, pure1, pure2, reps, chkA, tys, Tryd.results54, KX_draw, KX_drawQ, KX_tail, lastO_one, lastO_more, dropL_one, dropL_more, callP_eq, callM_true, predC, kidsC_length, d1, d2, g1, g2, g8, c1, c2, c3, c4]
    clear c1 c2 c3 c4
    simp only [nodeP, es]
    grind
  · have g1 : (o == 1) = false := by simp; omega
    have g2 : (o == 2) = false := by simp; omega
    have g8 : (o == 8) = true := by simp; omega
    by_cases hk2 : ks.length = 2
    · obtain ⟨x, hx⟩ := nth_some (show 0 < ks.length by omega)
      obtain ⟨r, hr⟩ : ∃ r, ks = x :: r := ⟨_, by simpa using nth_drop hx⟩
      have hx' := nth_kids hx
      rw [predC_cells] at hx'
      simp (maxSteps := 1000000) +contextual (disch := first | with_reducible assumption | exact ⟨rfl⟩ | exact ⟨rfl, rfl⟩ | (refine _root_.id ?_; kernel_rfl) | omega) only [evs, ext_mv, nth, put, putT, getT, binInt, binStr, binBool, aUn, outA, resA, mapO, resA1, oneOf, w1, w2, w3, bots, cond_true, cond_false, if_true, if_false, ite_true, ite_false, reduceIte, reduceCtorEq, implies_true, Nat.reduceAdd, Nat.reduceSub, AV.int, AV.bool, AV.str, Nat.reduceBEq, Nat.reduceEqDiff, Nat.reduceMul, Nat.reduceLT, Nat.reduceLeDiff, Int.reduceNeg, BEq.rfl, beq_self_eq_true, tabl, cellsOf, fldA, ldA, stA, entAt, partA, takeN, over, leafOk, Value.oneCell', idxA, nilA, cellsEq, fillA, elemsA, pure1, pure2, reps, chkA, tys, Tryd.results54, KX_draw, KX_drawQ, KX_tail, lastO_one, lastO_more, dropL_one, dropL_more, callP_eq, callM_true, predC, kidsC_length, d1, d2, g1, g2, g8, c1, c2, c3, c4, hx']
      clear c1 c2 c3 c4 hx'
      rename_i hr0
      clear hr0 hx hk2
      subst hr
      simp only [nodeP, es]
      grind
    · have hko : kidsOk o ks.length = false := by rw [h]; simp [kidsOk, hk2]
      rw [hko] at c1
      simp (maxSteps := 1000000) +contextual (disch := first | with_reducible assumption | exact ⟨rfl⟩ | exact ⟨rfl, rfl⟩ | (refine _root_.id ?_; kernel_rfl) | omega) only [evs, ext_mv, nth, put, putT, getT, binInt, binStr, binBool, aUn, outA, resA, mapO, resA1, oneOf, w1, w2, w3, bots, cond_true, cond_false, if_true, if_false, ite_true, ite_false, reduceIte, reduceCtorEq, implies_true, Nat.reduceAdd, Nat.reduceSub, AV.int, AV.bool, AV.str, Nat.reduceBEq, Nat.reduceEqDiff, Nat.reduceMul, Nat.reduceLT, Nat.reduceLeDiff, Int.reduceNeg, BEq.rfl, beq_self_eq_true, tabl, cellsOf, fldA, ldA, stA, entAt, partA, takeN, over, leafOk, Value.oneCell', idxA, nilA, cellsEq, fillA, elemsA, pure1, pure2, reps, chkA, tys, Tryd.results54, KX_draw, KX_drawQ, KX_tail, lastO_one, lastO_more, dropL_one, dropL_more, callP_eq, callM_true, predC, kidsC_length, d1, d2, g1, g2, g8, c1, c2, c3, c4]
      clear c1 c2 c3 c4
      simp only [nodeP, es, hko]
      grind
  · have g1 : (o == 1) = false := by simp; omega
    have g2 : (o == 2) = false := by simp; omega
    have g8 : (o == 8) = false := by simp; omega
    simp (maxSteps := 1000000) +contextual (disch := first | with_reducible assumption | exact ⟨rfl⟩ | exact ⟨rfl, rfl⟩ | (refine _root_.id ?_; kernel_rfl) | omega) only [evs, ext_mv, nth, put, putT, getT, binInt, binStr, binBool, aUn, outA, resA, mapO, resA1, oneOf, w1, w2, w3, bots, cond_true, cond_false, if_true, if_false, ite_true, ite_false, reduceIte, reduceCtorEq, implies_true, Nat.reduceAdd, Nat.reduceSub, AV.int, AV.bool, AV.str, Nat.reduceBEq, Nat.reduceEqDiff, Nat.reduceMul, Nat.reduceLT, Nat.reduceLeDiff, Int.reduceNeg, BEq.rfl, beq_self_eq_true, tabl, cellsOf, fldA, ldA, stA, entAt, partA, takeN, over, leafOk, Value.oneCell', idxA, nilA, cellsEq, fillA, elemsA, pure1, pure2, reps, chkA, tys, Tryd.results54, KX_draw, KX_drawQ, KX_tail, lastO_one, lastO_more, dropL_one, dropL_more, callP_eq, callM_true, predC, kidsC_length, d1, d2, g1, g2, g8, c1, c2, c3, c4]
    clear c1 c2 c3 c4
    simp only [nodeP, es]
    grind
theorem formL_step : ∀ (ks : List PT) (j : Nat) (q : PT), nth ks j = some q → formL (ks.drop j) = if formP q ≠ 0 then formP q else formL (ks.drop (j + 1))
  | x :: ks, 0, q, h => by simp only [nth, Option.some.injEq] at h; subst h; rfl
  | x :: ks, j + 1, q, h => by simp only [nth] at h; simpa using formL_step ks j q h
  | [], _, _, h => by simp [nth] at h
theorem form_step (o : Int) (s : ByteArray) (n : Int) (ks : List PT) (hlen : ks.length ≤ 9223372036854775807) (ih : ∀ q ∈ ks, ∀ S tk k, cL Tryd.prog 38 [.agg (predC q)] S tk k = some (.int (formP q), S, tk, k)) :
    cL Tryd.prog 38 [.agg (predC (.node o s n ks))] S tk k = some (.int (formP (.node o s n ks)), S, tk, k) := by
  refine call_pure Tryd.func38 rfl rfl (by decide +kernel) (by decide +kernel) Tryd.ntmps38 rfl rfl _ _ _ rfl ?_; rw [RK_KX]
  have c := fun S tk k => R07_node S tk k o s n ks
  simp only [predC] at c
  simp only [formP]
  generalize nodeP (.node o s n ks) = e at *
  by_cases he : e = 0
  case neg =>
    have d1 : (e != 0) = true := by simpa using he
    simp (maxSteps := 1000000) +contextual (disch := first | with_reducible assumption | exact ⟨rfl⟩ | exact ⟨rfl, rfl⟩ | (refine _root_.id ?_; kernel_rfl) | omega) only [evs, ext_mv, nth, put, putT, getT, binInt, binStr, binBool, aUn, outA, resA, mapO, resA1, oneOf, w1, w2, w3, bots, cond_true, cond_false, if_true, if_false, ite_true, ite_false, reduceIte, reduceCtorEq, implies_true, Nat.reduceAdd, Nat.reduceSub, AV.int, AV.bool, AV.str, Nat.reduceBEq, Nat.reduceEqDiff, Nat.reduceMul, Nat.reduceLT, Nat.reduceLeDiff, Int.reduceNeg, BEq.rfl, beq_self_eq_true, tabl, cellsOf, fldA, ldA, stA, entAt, partA, takeN, over, leafOk, Value.oneCell', idxA, nilA, cellsEq, fillA, elemsA, pure1, pure2, reps, chkA, tys, Tryd.results38, KX_draw, KX_drawQ, KX_tail, lastO_one, lastO_more, dropL_one, dropL_more, callP_eq, callM_true, predC, c, d1]
    rw [if_pos he]
  have d1 : (e != 0) = false := by simpa using he
  rw [if_neg (by simpa using he)]
  simp (maxSteps := 1000000) +contextual (disch := first | with_reducible assumption | exact ⟨rfl⟩ | exact ⟨rfl, rfl⟩ | (refine _root_.id ?_; kernel_rfl) | omega) only [evs, ext_mv, nth, put, putT, getT, binInt, binStr, binBool, aUn, outA, resA, mapO, resA1, oneOf, w1, w2, w3, bots, cond_true, cond_false, if_true, if_false, ite_true, ite_false, reduceIte, reduceCtorEq, implies_true, Nat.reduceAdd, Nat.reduceSub, AV.int, AV.bool, AV.str, Nat.reduceBEq, Nat.reduceEqDiff, Nat.reduceMul, Nat.reduceLT, Nat.reduceLeDiff, Int.reduceNeg, BEq.rfl, beq_self_eq_true, tabl, cellsOf, fldA, ldA, stA, entAt, partA, takeN, over, leafOk, Value.oneCell', idxA, nilA, cellsEq, fillA, elemsA, pure1, pure2, reps, chkA, tys, Tryd.results38, KX_draw, KX_drawQ, KX_tail, lastO_one, lastO_more, dropL_one, dropL_more, callP_eq, callM_true, predC, kidsC_length, c, d1]
  clear c d1
  refine loop1 (P := Tryd.prog) (fun x st => st.T.length = 25 ∧ (x ≤ ks.length) ∧ (formL ks = formL (ks.drop x)) ∧ getT st.T 13 = .frz (kidsC ks) .unk ∧ getT st.T 14 = .int (ks.length : Nat) ∧ getT st.T 15 = .int (x : Nat) ∧ st.S = [⟨0, [.prim (.int .i64 o), .prim (.string s), .prim (.int .i64 n), .frz (kidsC ks) .unk]⟩]) (fun x => ks.length - x) (fun x => .int (formL ks)) (0) ?_ ?_
  case refine_2 => exact ⟨rfl, Nat.zero_le _, rfl, rfl, rfl, rfl, rfl⟩
  rintro j ⟨T, S', tk', n'⟩ ⟨hl, hj, hA, e13, e14, e15, eS⟩ IH
  subst eS
  obtain ⟨g, hg, hT⟩ := tab_of hl
  rw [hg] at e13 e14 e15
  subst hT
  clear hg hl
  by_cases hlt : j < ks.length
  · have d1 : decide ((j : Int) < (ks.length : Int)) = true := by simpa using hlt
    obtain ⟨q, hq⟩ := nth_some hlt
    have hq' := nth_kids hq
    have hw := wrap_addM (i := j) (by omega)
    have hN := ih q (nth_mem hq)
    have h1 := formL_step ks j q hq
    rw [h1] at hA
    rw [predC_cells] at hN hq'
    by_cases hz : formP q = 0
    · have d2 : (formP q != 0) = false := by simpa using hz
      rw [if_neg (by simpa using hz)] at hA
      simp (maxSteps := 1000000) +contextual (disch := first | with_reducible assumption | exact ⟨rfl⟩ | exact ⟨rfl, rfl⟩ | (refine _root_.id ?_; kernel_rfl) | omega) only [evs, ext_mv, nth, put, putT, getT, binInt, binStr, binBool, aUn, outA, resA, mapO, resA1, oneOf, w1, w2, w3, bots, cond_true, cond_false, if_true, if_false, ite_true, ite_false, reduceIte, reduceCtorEq, implies_true, Nat.reduceAdd, Nat.reduceSub, AV.int, AV.bool, AV.str, Nat.reduceBEq, Nat.reduceEqDiff, Nat.reduceMul, Nat.reduceLT, Nat.reduceLeDiff, Int.reduceNeg, BEq.rfl, beq_self_eq_true, tabl, cellsOf, fldA, ldA, stA, entAt, partA, takeN, over, leafOk, Value.oneCell', idxA, nilA, cellsEq, fillA, elemsA, pure1, pure2, reps, chkA, tys, Tryd.results38, KX_draw, KX_drawQ, KX_tail, lastO_one, lastO_more, dropL_one, dropL_more, callP_eq, callM_true, e13, e14, e15, d1, hq', hw, hN, d2]
      exact IH (j + 1) _ (by omega) ⟨rfl, hlt, hA, rfl, rfl, rfl, rfl⟩
    · have d2 : (formP q != 0) = true := by simpa using hz
      rw [if_pos hz] at hA
      simp (maxSteps := 1000000) +contextual (disch := first | with_reducible assumption | exact ⟨rfl⟩ | exact ⟨rfl, rfl⟩ | (refine _root_.id ?_; kernel_rfl) | omega) only [evs, ext_mv, nth, put, putT, getT, binInt, binStr, binBool, aUn, outA, resA, mapO, resA1, oneOf, w1, w2, w3, bots, cond_true, cond_false, if_true, if_false, ite_true, ite_false, reduceIte, reduceCtorEq, implies_true, Nat.reduceAdd, Nat.reduceSub, AV.int, AV.bool, AV.str, Nat.reduceBEq, Nat.reduceEqDiff, Nat.reduceMul, Nat.reduceLT, Nat.reduceLeDiff, Int.reduceNeg, BEq.rfl, beq_self_eq_true, tabl, cellsOf, fldA, ldA, stA, entAt, partA, takeN, over, leafOk, Value.oneCell', idxA, nilA, cellsEq, fillA, elemsA, pure1, pure2, reps, chkA, tys, Tryd.results38, KX_draw, KX_drawQ, KX_tail, lastO_one, lastO_more, dropL_one, dropL_more, callP_eq, callM_true, e13, e14, e15, d1, hq', hw, hN, d2]
      exact hA.symm
  · have d1 : decide ((j : Int) < (ks.length : Int)) = false := by simpa using hlt
    have he : j = ks.length := by omega
    simp (maxSteps := 1000000) +contextual (disch := first | with_reducible assumption | exact ⟨rfl⟩ | exact ⟨rfl, rfl⟩ | (refine _root_.id ?_; kernel_rfl) | omega) only [evs, ext_mv, nth, put, putT, getT, binInt, binStr, binBool, aUn, outA, resA, mapO, resA1, oneOf, w1, w2, w3, bots, cond_true, cond_false, if_true, if_false, ite_true, ite_false, reduceIte, reduceCtorEq, implies_true, Nat.reduceAdd, Nat.reduceSub, AV.int, AV.bool, AV.str, Nat.reduceBEq, Nat.reduceEqDiff, Nat.reduceMul, Nat.reduceLT, Nat.reduceLeDiff, Int.reduceNeg, BEq.rfl, beq_self_eq_true, tabl, cellsOf, fldA, ldA, stA, entAt, partA, takeN, over, leafOk, Value.oneCell', idxA, nilA, cellsEq, fillA, elemsA, pure1, pure2, reps, chkA, tys, Tryd.results38, KX_draw, KX_drawQ, KX_tail, lastO_one, lastO_more, dropL_one, dropL_more, callP_eq, callM_true, e13, e14, e15, d1]
    rw [hA, he, List.drop_length]; rfl
end
mutual
theorem R07_form : ∀ (p : PT), kidsMax p → ∀ (S : List Ent) (tk : List Nat) (k : Nat), cL Tryd.prog 38 [.agg (predC p)] S tk k = some (.int (formP p), S, tk, k)
  | .node o s n ks, hn => fun S tk k => form_step S tk k o s n ks (by simp only [kidsMax] at hn; exact hn.1) (R07_formL ks (by simp only [kidsMax] at hn; exact hn.2))
theorem R07_formL : ∀ (ks : List PT), kidsMaxL ks → ∀ q ∈ ks, ∀ (S : List Ent) (tk : List Nat) (k : Nat), cL Tryd.prog 38 [.agg (predC q)] S tk k = some (.int (formP q), S, tk, k)
  | [], _ => fun q h => by simp at h
  | x :: ks, hn => fun q h => by
    simp only [kidsMaxL] at hn
    rcases List.mem_cons.1 h with e | h
    · rw [e]; exact R07_form x hn.1
    · exact R07_formL ks hn.2 q h
end
theorem R07_Check (S : List Ent) (tk : List Nat) (k : Nat) (p : PT) (hn : kidsMax p) : cL Tryd.prog 18 [.agg (predC p)] S tk k = some (.int (checkP p), S, tk, k) := by
  have c1 := R07_Nodes p hn
  have c2 := R07_Depth p hn
  have c3 := R07_form p hn
  rw [predC_cells] at c1 c2 c3 ⊢
  refine call_pure Tryd.func18 rfl rfl (by decide +kernel) (by decide +kernel) Tryd.ntmps18 rfl rfl _ _ _ rfl ?_; rw [RK_KX]
  unfold checkP
  by_cases h1 : 400 < nodesW p
  · have d1 : decide (nodesW p > 400) = true := by simp; omega
    simp (maxSteps := 1000000) +contextual (disch := first | with_reducible assumption | exact ⟨rfl⟩ | exact ⟨rfl, rfl⟩ | (refine _root_.id ?_; kernel_rfl) | omega) only [evs, ext_mv, nth, put, putT, getT, binInt, binStr, binBool, aUn, outA, resA, mapO, resA1, oneOf, w1, w2, w3, bots, cond_true, cond_false, if_true, if_false, ite_true, ite_false, reduceIte, reduceCtorEq, implies_true, Nat.reduceAdd, Nat.reduceSub, AV.int, AV.bool, AV.str, Nat.reduceBEq, Nat.reduceEqDiff, Nat.reduceMul, Nat.reduceLT, Nat.reduceLeDiff, Int.reduceNeg, BEq.rfl, beq_self_eq_true, tabl, cellsOf, fldA, ldA, stA, entAt, partA, takeN, over, leafOk, Value.oneCell', idxA, nilA, cellsEq, fillA, elemsA, pure1, pure2, reps, chkA, tys, Tryd.results18, KX_draw, KX_drawQ, KX_tail, lastO_one, lastO_more, dropL_one, dropL_more, callP_eq, callM_true, c1, d1]
    rw [if_pos h1]
  have d1 : decide (nodesW p > 400) = false := by simp; omega
  rw [if_neg h1]
  by_cases h2 : 40 < depthW p
  · have d2 : decide (depthW p > 40) = true := by simp; omega
    simp (maxSteps := 1000000) +contextual (disch := first | with_reducible assumption | exact ⟨rfl⟩ | exact ⟨rfl, rfl⟩ | (refine _root_.id ?_; kernel_rfl) | omega) only [evs, ext_mv, nth, put, putT, getT, binInt, binStr, binBool, aUn, outA, resA, mapO, resA1, oneOf, w1, w2, w3, bots, cond_true, cond_false, if_true, if_false, ite_true, ite_false, reduceIte, reduceCtorEq, implies_true, Nat.reduceAdd, Nat.reduceSub, AV.int, AV.bool, AV.str, Nat.reduceBEq, Nat.reduceEqDiff, Nat.reduceMul, Nat.reduceLT, Nat.reduceLeDiff, Int.reduceNeg, BEq.rfl, beq_self_eq_true, tabl, cellsOf, fldA, ldA, stA, entAt, partA, takeN, over, leafOk, Value.oneCell', idxA, nilA, cellsEq, fillA, elemsA, pure1, pure2, reps, chkA, tys, Tryd.results18, KX_draw, KX_drawQ, KX_tail, lastO_one, lastO_more, dropL_one, dropL_more, callP_eq, callM_true, c1, c2, d1, d2]
    rw [if_pos h2]
  have d2 : decide (depthW p > 40) = false := by simp; omega
  simp (maxSteps := 1000000) +contextual (disch := first | with_reducible assumption | exact ⟨rfl⟩ | exact ⟨rfl, rfl⟩ | (refine _root_.id ?_; kernel_rfl) | omega) only [evs, ext_mv, nth, put, putT, getT, binInt, binStr, binBool, aUn, outA, resA, mapO, resA1, oneOf, w1, w2, w3, bots, cond_true, cond_false, if_true, if_false, ite_true, ite_false, reduceIte, reduceCtorEq, implies_true, Nat.reduceAdd, Nat.reduceSub, AV.int, AV.bool, AV.str, Nat.reduceBEq, Nat.reduceEqDiff, Nat.reduceMul, Nat.reduceLT, Nat.reduceLeDiff, Int.reduceNeg, BEq.rfl, beq_self_eq_true, tabl, cellsOf, fldA, ldA, stA, entAt, partA, takeN, over, leafOk, Value.oneCell', idxA, nilA, cellsEq, fillA, elemsA, pure1, pure2, reps, chkA, tys, Tryd.results18, KX_draw, KX_drawQ, KX_tail, lastO_one, lastO_more, dropL_one, dropL_more, callP_eq, callM_true, c1, c2, c3, d1, d2]
  rw [if_neg h2]
end Go.Proofs.YtkghgdkkholieaaDoor
/-
  The forms of terms, by the program and the reference.
-/


namespace Go.Proofs.YtkghgdkkholieaaDoor
open Go
abbrev LR := (List (ByteArray × Int) × Int) × Bool
def noR : LR := (([], 0), false)
def subR (x y : LR) : LR := if x.2 = true ∧ y.2 = true then addL x.1.1 x.1.2 y.1.1 y.1.2 else noR
def negR (x : LR) : LR := if x.2 = true then scaleF x.1.1 x.1.2 (-1) else noR
def ofN (o : Int) (s : ByteArray) (n : Int) (ks : List PT) (l : List LR) : LR :=
  if o = 1 then (([], n), true) else if o = 3 then (([(s, 1)], 0), true) else
  if o = 9 then (match l with | x :: _ => negR x | [] => noR) else
  if o = 8 then (match ks, l with | q :: _, _ :: y :: _ => if y.2 = true then scaleF y.1.1 y.1.2 q.n else noR | _, _ => noR) else
  if o = 6 then (match l with | x :: y :: _ => subR x y | _ => noR) else
  if o = 7 then (match l with | x :: y :: _ => subR x (negR y) | _ => noR) else noR
mutual
def ofF : PT → LR
  | .node o s n ks => ofN o s n ks (ofK ks)
def ofK : List PT → List LR
  | [] => []
  | k :: ks => ofF k :: ofK ks
end
theorem addL_24 (a b : List (ByteArray × Int)) (n m : Int) : (addL a n b m).1.1.length ≤ 24 := by
  unfold addL rightF
  split
  · split
    · rename_i h; exact (check_ok h).2.2
    · simp
  · simp
theorem noR_len : noR.1.1.length ≤ 24 := by simp [noR]
theorem negR_len (x : LR) (h : x.1.1.length ≤ 24) : (negR x).1.1.length ≤ 24 := by
  unfold negR; split
  · exact Nat.le_trans (scaleF_len _ _ _) h
  · exact noR_len
theorem subR_len (x y : LR) : (subR x y).1.1.length ≤ 24 := by
  unfold subR; split
  · exact addL_24 _ _ _ _
  · exact noR_len
mutual
theorem ofF_len : ∀ p : PT, (ofF p).1.1.length ≤ 24
  | .node o s n ks => by
    have ih := ofK_len ks
    simp only [ofF, ofN]
    split
    · simp
    split
    · simp
    split
    · split
      · rename_i h; exact negR_len _ (ih _ (by rw [h]; simp))
      · exact noR_len
    split
    · split
      · rename_i h
        split
        · exact Nat.le_trans (scaleF_len _ _ _) (ih _ (by rw [h]; simp))
        · exact noR_len
      · exact noR_len
    split
    · split
      · exact subR_len _ _
      · exact noR_len
    split
    · split
      · exact subR_len _ _
      · exact noR_len
    · exact noR_len
theorem ofK_len : ∀ ks : List PT, ∀ x ∈ ofK ks, x.1.1.length ≤ 24
  | [] => fun x h => by simp [ofK] at h
  | k :: ks => fun x h => by
    simp only [ofK, List.mem_cons] at h
    rcases h with rfl | h
    · exact ofF_len k
    · exact ofK_len ks x h
end
/-- what an accepted node has -/
theorem node_ok {o : Int} {s : ByteArray} {n : Int} {ks : List PT} (h : nodeP (.node o s n ks) = 0) : kidsOk o ks.length = true ∧ (o = 8 → ∀ q r, ks = q :: r → q.op = 1) := by
  constructor
  · simp only [nodeP] at h; grind
  · intro h8 q r e
    subst e
    simp only [nodeP] at h; grind
theorem form_kids {o : Int} {s : ByteArray} {n : Int} {ks : List PT} (h : formP (.node o s n ks) = 0) : nodeP (.node o s n ks) = 0 ∧ formL ks = 0 := by
  simp only [formP] at h
  split at h
  · rename_i h1; exact absurd h h1
  · rename_i h1; exact ⟨by omega, h⟩
theorem form_cons {k : PT} {ks : List PT} (h : formL (k :: ks) = 0) : formP k = 0 ∧ formL ks = 0 := by
  simp only [formL] at h
  split at h
  · rename_i h1; exact absurd h h1
  · rename_i h1; exact ⟨by omega, h⟩
section
variable (S : List Ent) (tk : List Nat) (k : Nat)
set_option maxRecDepth 100000 in
set_option maxHeartbeats 4000000 in
theorem of_step (o : Int) (s : ByteArray) (n : Int) (ks : List PT) (hok : nodeP (.node o s n ks) = 0)
    (ih : ∀ q ∈ ks, ∀ S tk k, cL Tryd.prog 25 [.agg (predC q)] S tk k = some (.tup [linA (ofF q).1.1 (ofF q).1.2, .bool (ofF q).2], S, tk, k)) :
    cL Tryd.prog 25 [.agg (predC (.node o s n ks))] S tk k = some (.tup [linA (ofN o s n ks (ofK ks)).1.1 (ofN o s n ks (ofK ks)).1.2, .bool (ofN o s n ks (ofK ks)).2], S, tk, k) := by
  obtain ⟨hk, h8⟩ := node_ok hok
  refine call_pure Tryd.func25 rfl rfl (by decide +kernel) (by decide +kernel) Tryd.ntmps25 rfl rfl _ _ _ rfl ?_; rw [RK_KX]
  by_cases c1 : o = 1
  · have g1 : (o == 1) = true := by simpa using c1
    simp (maxSteps := 1000000) +contextual (disch := first | with_reducible assumption | exact ⟨rfl⟩ | exact ⟨rfl, rfl⟩ | (refine _root_.id ?_; kernel_rfl) | omega) only [evs, ext_mv, nth, put, putT, getT, binInt, binStr, binBool, aUn, outA, resA, mapO, resA1, oneOf, w1, w2, w3, bots, cond_true, cond_false, if_true, if_false, ite_true, ite_false, reduceIte, reduceCtorEq, implies_true, Nat.reduceAdd, Nat.reduceSub, AV.int, AV.bool, AV.str, Nat.reduceBEq, Nat.reduceEqDiff, Nat.reduceMul, Nat.reduceLT, Nat.reduceLeDiff, Int.reduceNeg, BEq.rfl, beq_self_eq_true, tabl, cellsOf, fldA, ldA, stA, entAt, partA, takeN, over, leafOk, Value.oneCell', idxA, nilA, cellsEq, fillA, elemsA, pure1, pure2, reps, chkA, tys, Tryd.results25, KX_draw, KX_drawQ, KX_tail, lastO_one, lastO_more, dropL_one, dropL_more, callP_eq, callM_true, predC, g1]
    simp [ofN, c1, linA, coefsA]
  have g1 : (o == 1) = false := by simpa using c1
  by_cases c3 : o = 3
  · have g3 : (o == 3) = true := by simpa using c3
    simp (maxSteps := 1000000) +contextual (disch := first | with_reducible assumption | exact ⟨rfl⟩ | exact ⟨rfl, rfl⟩ | (refine _root_.id ?_; kernel_rfl) | omega) only [evs, ext_mv, nth, put, putT, getT, binInt, binStr, binBool, aUn, outA, resA, mapO, resA1, oneOf, w1, w2, w3, bots, cond_true, cond_false, if_true, if_false, ite_true, ite_false, reduceIte, reduceCtorEq, implies_true, Nat.reduceAdd, Nat.reduceSub, AV.int, AV.bool, AV.str, Nat.reduceBEq, Nat.reduceEqDiff, Nat.reduceMul, Nat.reduceLT, Nat.reduceLeDiff, Int.reduceNeg, BEq.rfl, beq_self_eq_true, tabl, cellsOf, fldA, ldA, stA, entAt, partA, takeN, over, leafOk, Value.oneCell', idxA, nilA, cellsEq, fillA, elemsA, pure1, pure2, reps, chkA, tys, Tryd.results25, KX_draw, KX_drawQ, KX_tail, lastO_one, lastO_more, dropL_one, dropL_more, callP_eq, callM_true, predC, g1, g3]
    simp [ofN, c3, linA, coefsA, coefC]
  have g3 : (o == 3) = false := by simpa using c3
  by_cases c9 : o = 9
  · have g9 : (o == 9) = true := by simpa using c9
    have hl : ks.length = 1 := by subst c9; simpa [kidsOk] using hk
    obtain ⟨q, rfl⟩ : ∃ q, ks = [q] := by
      match ks, hl with
      | [q], _ => exact ⟨q, rfl⟩
    have hq' : nth (kidsC [q]) 0 = some (predC q) := rfl
    have hN := ih q (by simp)
    have hS := fun S tk k => linear_Scale S tk k (ofF q).1.1 (ofF q).1.2 (-1) (by have := ofF_len q; omega)
    simp only [linA, coefsA] at hS
    have hr : ofN o s n [q] (ofK [q]) = negR (ofF q) := by simp [ofN, ofK, c9]
    rw [hr]
    unfold negR
    rw [predC_cells] at hN hq'
    generalize ofF q = x at *
    obtain ⟨⟨xc, xn⟩, xb⟩ := x
    cases xb
    · simp (maxSteps := 1000000) +contextual (disch := first | with_reducible assumption | exact ⟨rfl⟩ | exact ⟨rfl, rfl⟩ | (refine _root_.id ?_; kernel_rfl) | omega) only [evs, ext_mv, nth, put, putT, getT, binInt, binStr, binBool, aUn, outA, resA, mapO, resA1, oneOf, w1, w2, w3, bots, cond_true, cond_false, if_true, if_false, ite_true, ite_false, reduceIte, reduceCtorEq, implies_true, Nat.reduceAdd, Nat.reduceSub, AV.int, AV.bool, AV.str, Nat.reduceBEq, Nat.reduceEqDiff, Nat.reduceMul, Nat.reduceLT, Nat.reduceLeDiff, Int.reduceNeg, BEq.rfl, beq_self_eq_true, tabl, cellsOf, fldA, ldA, stA, entAt, partA, takeN, over, leafOk, Value.oneCell', idxA, nilA, cellsEq, fillA, elemsA, pure1, pure2, reps, chkA, tys, Tryd.results25, KX_draw, KX_drawQ, KX_tail, lastO_one, lastO_more, dropL_one, dropL_more, callP_eq, callM_true, predC, g1, g3, g9, hq', hN, linA, coefsA]
      simp [noR]
    · simp only [if_true]
      generalize scaleF xc xn (-1) = y at *
      simp (maxSteps := 1000000) +contextual (disch := first | with_reducible assumption | exact ⟨rfl⟩ | exact ⟨rfl, rfl⟩ | (refine _root_.id ?_; kernel_rfl) | omega) only [evs, ext_mv, nth, put, putT, getT, binInt, binStr, binBool, aUn, outA, resA, mapO, resA1, oneOf, w1, w2, w3, bots, cond_true, cond_false, if_true, if_false, ite_true, ite_false, reduceIte, reduceCtorEq, implies_true, Nat.reduceAdd, Nat.reduceSub, AV.int, AV.bool, AV.str, Nat.reduceBEq, Nat.reduceEqDiff, Nat.reduceMul, Nat.reduceLT, Nat.reduceLeDiff, Int.reduceNeg, BEq.rfl, beq_self_eq_true, tabl, cellsOf, fldA, ldA, stA, entAt, partA, takeN, over, leafOk, Value.oneCell', idxA, nilA, cellsEq, fillA, elemsA, pure1, pure2, reps, chkA, tys, Tryd.results25, KX_draw, KX_drawQ, KX_tail, lastO_one, lastO_more, dropL_one, dropL_more, callP_eq, callM_true, predC, g1, g3, g9, hq', hN, hS, linA, coefsA]
  have g9 : (o == 9) = false := by simpa using c9
  by_cases c8 : o = 8
  · have g8 : (o == 8) = true := by simpa using c8
    have hl : ks.length = 2 := by subst c8; simpa [kidsOk] using hk
    obtain ⟨p, q, rfl⟩ : ∃ p q, ks = [p, q] := by
      match ks, hl with
      | [p, q], _ => exact ⟨p, q, rfl⟩
    have hp1 : p.op = 1 := h8 c8 p [q] rfl
    have hp2 : (p.op != 1) = false := by simpa using hp1
    have i1 : intN (.prim (.int .i64 1)) = some 1 := rfl
    have hq' : nth (kidsC [p, q]) 1 = some (predC q) := rfl
    have hp' : nth (kidsC [p, q]) 0 = some (predC p) := rfl
    have hN := ih q (by simp)
    have hS := fun S tk k => linear_Scale S tk k (ofF q).1.1 (ofF q).1.2 p.n (by have := ofF_len q; omega)
    simp only [linA, coefsA] at hS
    have hr : ofN o s n [p, q] (ofK [p, q]) = if (ofF q).2 = true then scaleF (ofF q).1.1 (ofF q).1.2 p.n else noR := by simp [ofN, ofK, c8]
    rw [hr]
    rw [predC_cells] at hN hq' hp'
    generalize ofF q = x at *
    obtain ⟨⟨xc, xn⟩, xb⟩ := x
    cases xb
    · simp (maxSteps := 1000000) +contextual (disch := first | with_reducible assumption | exact ⟨rfl⟩ | exact ⟨rfl, rfl⟩ | (refine _root_.id ?_; kernel_rfl) | omega) only [evs, ext_mv, nth, put, putT, getT, binInt, binStr, binBool, aUn, outA, resA, mapO, resA1, oneOf, w1, w2, w3, bots, cond_true, cond_false, if_true, if_false, ite_true, ite_false, reduceIte, reduceCtorEq, implies_true, Nat.reduceAdd, Nat.reduceSub, AV.int, AV.bool, AV.str, Nat.reduceBEq, Nat.reduceEqDiff, Nat.reduceMul, Nat.reduceLT, Nat.reduceLeDiff, Int.reduceNeg, BEq.rfl, beq_self_eq_true, tabl, cellsOf, fldA, ldA, stA, entAt, partA, takeN, over, leafOk, Value.oneCell', idxA, nilA, cellsEq, fillA, elemsA, pure1, pure2, reps, chkA, tys, Tryd.results25, KX_draw, KX_drawQ, KX_tail, lastO_one, lastO_more, dropL_one, dropL_more, callP_eq, callM_true, predC, g1, g3, g9, g8, i1, hq', hp', hp2, hN, linA, coefsA]
      simp [noR]
    · simp only [if_true]
      generalize scaleF xc xn p.n = y at *
      simp (maxSteps := 1000000) +contextual (disch := first | with_reducible assumption | exact ⟨rfl⟩ | exact ⟨rfl, rfl⟩ | (refine _root_.id ?_; kernel_rfl) | omega) only [evs, ext_mv, nth, put, putT, getT, binInt, binStr, binBool, aUn, outA, resA, mapO, resA1, oneOf, w1, w2, w3, bots, cond_true, cond_false, if_true, if_false, ite_true, ite_false, reduceIte, reduceCtorEq, implies_true, Nat.reduceAdd, Nat.reduceSub, AV.int, AV.bool, AV.str, Nat.reduceBEq, Nat.reduceEqDiff, Nat.reduceMul, Nat.reduceLT, Nat.reduceLeDiff, Int.reduceNeg, BEq.rfl, beq_self_eq_true, tabl, cellsOf, fldA, ldA, stA, entAt, partA, takeN, over, leafOk, Value.oneCell', idxA, nilA, cellsEq, fillA, elemsA, pure1, pure2, reps, chkA, tys, Tryd.results25, KX_draw, KX_drawQ, KX_tail, lastO_one, lastO_more, dropL_one, dropL_more, callP_eq, callM_true, predC, g1, g3, g9, g8, i1, hq', hp', hp2, hN, hS, linA, coefsA]
  have g8 : (o == 8) = false := by simpa using c8
  by_cases c67 : o = 6 ∨ o = 7
  case neg =>
    have g6 : (o == 6) = false := by simp; omega
    have g7 : (o == 7) = false := by simp; omega
    have hr : ofN o s n ks (ofK ks) = noR := by
      have h6 : ¬ o = 6 := by omega
      have h7 : ¬ o = 7 := by omega
      simp [ofN, c1, c3, c9, c8, h6, h7]
    rw [hr]
    simp (maxSteps := 1000000) +contextual (disch := first | with_reducible assumption | exact ⟨rfl⟩ | exact ⟨rfl, rfl⟩ | (refine _root_.id ?_; kernel_rfl) | omega) only [evs, ext_mv, nth, put, putT, getT, binInt, binStr, binBool, aUn, outA, resA, mapO, resA1, oneOf, w1, w2, w3, bots, cond_true, cond_false, if_true, if_false, ite_true, ite_false, reduceIte, reduceCtorEq, implies_true, Nat.reduceAdd, Nat.reduceSub, AV.int, AV.bool, AV.str, Nat.reduceBEq, Nat.reduceEqDiff, Nat.reduceMul, Nat.reduceLT, Nat.reduceLeDiff, Int.reduceNeg, BEq.rfl, beq_self_eq_true, tabl, cellsOf, fldA, ldA, stA, entAt, partA, takeN, over, leafOk, Value.oneCell', idxA, nilA, cellsEq, fillA, elemsA, pure1, pure2, reps, chkA, tys, Tryd.results25, KX_draw, KX_drawQ, KX_tail, lastO_one, lastO_more, dropL_one, dropL_more, callP_eq, callM_true, predC, g1, g3, g9, g8, g6, g7, linA, coefsA]
    simp [noR]
  have hl : ks.length = 2 := by rcases c67 with rfl | rfl <;> simpa [kidsOk] using hk
  obtain ⟨p, q, rfl⟩ : ∃ p q, ks = [p, q] := by
    match ks, hl with
    | [p, q], _ => exact ⟨p, q, rfl⟩
  have i1 : intN (.prim (.int .i64 1)) = some 1 := rfl
  have hq' : nth (kidsC [p, q]) 1 = some (predC q) := rfl
  have hp' : nth (kidsC [p, q]) 0 = some (predC p) := rfl
  have hN := ih q (by simp)
  have hM := ih p (by simp)
  have lq := ofF_len q
  have lp := ofF_len p
  rw [predC_cells] at hN hM hq' hp'
  by_cases c6 : o = 6
  · have g6 : (o == 6) = true := by simpa using c6
    have g7 : (o == 7) = false := by simp; omega
    have hr : ofN o s n [p, q] (ofK [p, q]) = subR (ofF p) (ofF q) := by simp [ofN, ofK, c6]
    rw [hr]
    generalize ofF q = x at *
    generalize ofF p = z at *
    obtain ⟨⟨xc, xn⟩, xb⟩ := x
    obtain ⟨⟨zc, zn⟩, zb⟩ := z
    have hA := fun S tk k => linear_Add S tk k zc xc zn xn (by simp only at lp; omega) (by simp only at lq; omega)
    simp only [linA, coefsA] at hA
    unfold subR
    cases xb <;> cases zb
    case true.true =>
      simp only [and_self, if_true]
      generalize addL zc zn xc xn = y at *
      simp (maxSteps := 1000000) +contextual (disch := first | with_reducible assumption | exact ⟨rfl⟩ | exact ⟨rfl, rfl⟩ | (refine _root_.id ?_; kernel_rfl) | omega) only [evs, ext_mv, nth, put, putT, getT, binInt, binStr, binBool, aUn, outA, resA, mapO, resA1, oneOf, w1, w2, w3, bots, cond_true, cond_false, if_true, if_false, ite_true, ite_false, reduceIte, reduceCtorEq, implies_true, Nat.reduceAdd, Nat.reduceSub, AV.int, AV.bool, AV.str, Nat.reduceBEq, Nat.reduceEqDiff, Nat.reduceMul, Nat.reduceLT, Nat.reduceLeDiff, Int.reduceNeg, BEq.rfl, beq_self_eq_true, tabl, cellsOf, fldA, ldA, stA, entAt, partA, takeN, over, leafOk, Value.oneCell', idxA, nilA, cellsEq, fillA, elemsA, pure1, pure2, reps, chkA, tys, Tryd.results25, KX_draw, KX_drawQ, KX_tail, lastO_one, lastO_more, dropL_one, dropL_more, callP_eq, callM_true, predC, g1, g3, g9, g8, g6, g7, i1, hq', hp', hN, hM, hA, linA, coefsA]
    all_goals
      simp (maxSteps := 1000000) +contextual (disch := first | with_reducible assumption | exact ⟨rfl⟩ | exact ⟨rfl, rfl⟩ | (refine _root_.id ?_; kernel_rfl) | omega) only [evs, ext_mv, nth, put, putT, getT, binInt, binStr, binBool, aUn, outA, resA, mapO, resA1, oneOf, w1, w2, w3, bots, cond_true, cond_false, if_true, if_false, ite_true, ite_false, reduceIte, reduceCtorEq, implies_true, Nat.reduceAdd, Nat.reduceSub, AV.int, AV.bool, AV.str, Nat.reduceBEq, Nat.reduceEqDiff, Nat.reduceMul, Nat.reduceLT, Nat.reduceLeDiff, Int.reduceNeg, BEq.rfl, beq_self_eq_true, tabl, cellsOf, fldA, ldA, stA, entAt, partA, takeN, over, leafOk, Value.oneCell', idxA, nilA, cellsEq, fillA, elemsA, pure1, pure2, reps, chkA, tys, Tryd.results25, KX_draw, KX_drawQ, KX_tail, lastO_one, lastO_more, dropL_one, dropL_more, callP_eq, callM_true, predC, g1, g3, g9, g8, g6, g7, i1, hq', hp', hN, hM, linA, coefsA]
      simp [noR]
  · have g6 : (o == 6) = false := by simpa using c6
    have c7 : o = 7 := by omega
    have g7 : (o == 7) = true := by simp; omega
    have hr : ofN o s n [p, q] (ofK [p, q]) = subR (ofF p) (negR (ofF q)) := by simp [ofN, ofK, c7]
    rw [hr]
    generalize ofF q = x at *
    generalize ofF p = z at *
    obtain ⟨⟨xc, xn⟩, xb⟩ := x
    obtain ⟨⟨zc, zn⟩, zb⟩ := z
    have hS := fun S tk k => linear_Scale S tk k xc xn (-1) (by simp only at lq; omega)
    simp only [linA, coefsA] at hS
    have ly := scaleF_len xc xn (-1)
    simp only at lp lq
    unfold subR negR
    cases xb
    · cases zb
      all_goals
        simp (maxSteps := 1000000) +contextual (disch := first | with_reducible assumption | exact ⟨rfl⟩ | exact ⟨rfl, rfl⟩ | (refine _root_.id ?_; kernel_rfl) | omega) only [evs, ext_mv, nth, put, putT, getT, binInt, binStr, binBool, aUn, outA, resA, mapO, resA1, oneOf, w1, w2, w3, bots, cond_true, cond_false, if_true, if_false, ite_true, ite_false, reduceIte, reduceCtorEq, implies_true, Nat.reduceAdd, Nat.reduceSub, AV.int, AV.bool, AV.str, Nat.reduceBEq, Nat.reduceEqDiff, Nat.reduceMul, Nat.reduceLT, Nat.reduceLeDiff, Int.reduceNeg, BEq.rfl, beq_self_eq_true, tabl, cellsOf, fldA, ldA, stA, entAt, partA, takeN, over, leafOk, Value.oneCell', idxA, nilA, cellsEq, fillA, elemsA, pure1, pure2, reps, chkA, tys, Tryd.results25, KX_draw, KX_drawQ, KX_tail, lastO_one, lastO_more, dropL_one, dropL_more, callP_eq, callM_true, predC, g1, g3, g9, g8, g6, g7, i1, hq', hp', hN, hM, linA, coefsA]
        simp [noR]
    · simp only [if_true]
      generalize scaleF xc xn (-1) = y at *
      obtain ⟨⟨yc, yn⟩, yb⟩ := y
      have hA := fun S tk k => linear_Add S tk k zc yc zn yn (by omega) (by simp only at ly; omega)
      simp only [linA, coefsA] at hA
      cases yb <;> cases zb
      case true.true =>
        simp only [and_self, if_true]
        generalize addL zc zn yc yn = y at *
        simp (maxSteps := 1000000) +contextual (disch := first | with_reducible assumption | exact ⟨rfl⟩ | exact ⟨rfl, rfl⟩ | (refine _root_.id ?_; kernel_rfl) | omega) only [evs, ext_mv, nth, put, putT, getT, binInt, binStr, binBool, aUn, outA, resA, mapO, resA1, oneOf, w1, w2, w3, bots, cond_true, cond_false, if_true, if_false, ite_true, ite_false, reduceIte, reduceCtorEq, implies_true, Nat.reduceAdd, Nat.reduceSub, AV.int, AV.bool, AV.str, Nat.reduceBEq, Nat.reduceEqDiff, Nat.reduceMul, Nat.reduceLT, Nat.reduceLeDiff, Int.reduceNeg, BEq.rfl, beq_self_eq_true, tabl, cellsOf, fldA, ldA, stA, entAt, partA, takeN, over, leafOk, Value.oneCell', idxA, nilA, cellsEq, fillA, elemsA, pure1, pure2, reps, chkA, tys, Tryd.results25, KX_draw, KX_drawQ, KX_tail, lastO_one, lastO_more, dropL_one, dropL_more, callP_eq, callM_true, predC, g1, g3, g9, g8, g6, g7, i1, hq', hp', hN, hM, hS, hA, linA, coefsA]
      all_goals
        simp (maxSteps := 1000000) +contextual (disch := first | with_reducible assumption | exact ⟨rfl⟩ | exact ⟨rfl, rfl⟩ | (refine _root_.id ?_; kernel_rfl) | omega) only [evs, ext_mv, nth, put, putT, getT, binInt, binStr, binBool, aUn, outA, resA, mapO, resA1, oneOf, w1, w2, w3, bots, cond_true, cond_false, if_true, if_false, ite_true, ite_false, reduceIte, reduceCtorEq, implies_true, Nat.reduceAdd, Nat.reduceSub, AV.int, AV.bool, AV.str, Nat.reduceBEq, Nat.reduceEqDiff, Nat.reduceMul, Nat.reduceLT, Nat.reduceLeDiff, Int.reduceNeg, BEq.rfl, beq_self_eq_true, tabl, cellsOf, fldA, ldA, stA, entAt, partA, takeN, over, leafOk, Value.oneCell', idxA, nilA, cellsEq, fillA, elemsA, pure1, pure2, reps, chkA, tys, Tryd.results25, KX_draw, KX_drawQ, KX_tail, lastO_one, lastO_more, dropL_one, dropL_more, callP_eq, callM_true, predC, g1, g3, g9, g8, g6, g7, i1, hq', hp', hN, hM, hS, linA, coefsA]
        simp [noR]
end
end Go.Proofs.YtkghgdkkholieaaDoor
/-
  The forms of terms, by the reference.
-/

namespace Go.Proofs.YtkghgdkkholieaaDoor
open Go
section
variable (S : List Ent) (tk : List Nat) (k : Nat)
set_option maxRecDepth 100000 in
set_option maxHeartbeats 4000000 in
theorem R11of_step (o : Int) (s : ByteArray) (n : Int) (ks : List PT) (hok : nodeP (.node o s n ks) = 0)
    (ih : ∀ q ∈ ks, ∀ S tk k, cL Tryd.prog 26 [.agg (predC q)] S tk k = some (.tup [linA (ofF q).1.1 (ofF q).1.2, .bool (ofF q).2], S, tk, k)) :
    cL Tryd.prog 26 [.agg (predC (.node o s n ks))] S tk k = some (.tup [linA (ofN o s n ks (ofK ks)).1.1 (ofN o s n ks (ofK ks)).1.2, .bool (ofN o s n ks (ofK ks)).2], S, tk, k) := by
  obtain ⟨hk, h8⟩ := node_ok hok
  refine call_pure Tryd.func26 rfl rfl (by decide +kernel) (by decide +kernel) Tryd.ntmps26 rfl rfl _ _ _ rfl ?_; rw [RK_KX]
  by_cases c1 : o = 1
  · have g1 : (o == 1) = true := by simpa using c1
    simp (maxSteps := 1000000) +contextual (disch := first | with_reducible assumption | exact ⟨rfl⟩ | exact ⟨rfl, rfl⟩ | (refine _root_.id ?_; kernel_rfl) | omega) only [evs, ext_mv, nth, put, putT, getT, binInt, binStr, binBool, aUn, outA, resA, mapO, resA1, oneOf, w1, w2, w3, bots, cond_true, cond_false, if_true, if_false, ite_true, ite_false, reduceIte, reduceCtorEq, implies_true, Nat.reduceAdd, Nat.reduceSub, AV.int, AV.bool, AV.str, Nat.reduceBEq, Nat.reduceEqDiff, Nat.reduceMul, Nat.reduceLT, Nat.reduceLeDiff, Int.reduceNeg, BEq.rfl, beq_self_eq_true, tabl, cellsOf, fldA, ldA, stA, entAt, partA, takeN, over, leafOk, Value.oneCell', idxA, nilA, cellsEq, fillA, elemsA, pure1, pure2, reps, chkA, tys, Tryd.results26, KX_draw, KX_drawQ, KX_tail, lastO_one, lastO_more, dropL_one, dropL_more, callP_eq, callM_true, predC, g1]
    simp [ofN, c1, linA, coefsA]
  have g1 : (o == 1) = false := by simpa using c1
  by_cases c3 : o = 3
  · have g3 : (o == 3) = true := by simpa using c3
    simp (maxSteps := 1000000) +contextual (disch := first | with_reducible assumption | exact ⟨rfl⟩ | exact ⟨rfl, rfl⟩ | (refine _root_.id ?_; kernel_rfl) | omega) only [evs, ext_mv, nth, put, putT, getT, binInt, binStr, binBool, aUn, outA, resA, mapO, resA1, oneOf, w1, w2, w3, bots, cond_true, cond_false, if_true, if_false, ite_true, ite_false, reduceIte, reduceCtorEq, implies_true, Nat.reduceAdd, Nat.reduceSub, AV.int, AV.bool, AV.str, Nat.reduceBEq, Nat.reduceEqDiff, Nat.reduceMul, Nat.reduceLT, Nat.reduceLeDiff, Int.reduceNeg, BEq.rfl, beq_self_eq_true, tabl, cellsOf, fldA, ldA, stA, entAt, partA, takeN, over, leafOk, Value.oneCell', idxA, nilA, cellsEq, fillA, elemsA, pure1, pure2, reps, chkA, tys, Tryd.results26, KX_draw, KX_drawQ, KX_tail, lastO_one, lastO_more, dropL_one, dropL_more, callP_eq, callM_true, predC, g1, g3]
    simp [ofN, c3, linA, coefsA, coefC]
  have g3 : (o == 3) = false := by simpa using c3
  by_cases c9 : o = 9
  · have g9 : (o == 9) = true := by simpa using c9
    have g6 : (o == 6) = false := by simp; omega
    have g7 : (o == 7) = false := by simp; omega
    have hl : ks.length = 1 := by subst c9; simpa [kidsOk] using hk
    obtain ⟨q, rfl⟩ : ∃ q, ks = [q] := by
      match ks, hl with
      | [q], _ => exact ⟨q, rfl⟩
    have hq' : nth (kidsC [q]) 0 = some (predC q) := rfl
    have hN := ih q (by simp)
    have hS := fun S tk k => R11_Scale S tk k (ofF q).1.1 (ofF q).1.2 (-1) (by have := ofF_len q; omega)
    simp only [linA, coefsA] at hS
    have hr : ofN o s n [q] (ofK [q]) = negR (ofF q) := by simp [ofN, ofK, c9]
    rw [hr]
    unfold negR
    rw [predC_cells] at hN hq'
    generalize ofF q = x at *
    obtain ⟨⟨xc, xn⟩, xb⟩ := x
    cases xb
    · simp (maxSteps := 1000000) +contextual (disch := first | with_reducible assumption | exact ⟨rfl⟩ | exact ⟨rfl, rfl⟩ | (refine _root_.id ?_; kernel_rfl) | omega) only [evs, ext_mv, nth, put, putT, getT, binInt, binStr, binBool, aUn, outA, resA, mapO, resA1, oneOf, w1, w2, w3, bots, cond_true, cond_false, if_true, if_false, ite_true, ite_false, reduceIte, reduceCtorEq, implies_true, Nat.reduceAdd, Nat.reduceSub, AV.int, AV.bool, AV.str, Nat.reduceBEq, Nat.reduceEqDiff, Nat.reduceMul, Nat.reduceLT, Nat.reduceLeDiff, Int.reduceNeg, BEq.rfl, beq_self_eq_true, tabl, cellsOf, fldA, ldA, stA, entAt, partA, takeN, over, leafOk, Value.oneCell', idxA, nilA, cellsEq, fillA, elemsA, pure1, pure2, reps, chkA, tys, Tryd.results26, KX_draw, KX_drawQ, KX_tail, lastO_one, lastO_more, dropL_one, dropL_more, callP_eq, callM_true, predC, g1, g3, g6, g7, g9, hq', hN, linA, coefsA]
      simp [noR]
    · simp only [if_true]
      generalize scaleF xc xn (-1) = y at *
      simp (maxSteps := 1000000) +contextual (disch := first | with_reducible assumption | exact ⟨rfl⟩ | exact ⟨rfl, rfl⟩ | (refine _root_.id ?_; kernel_rfl) | omega) only [evs, ext_mv, nth, put, putT, getT, binInt, binStr, binBool, aUn, outA, resA, mapO, resA1, oneOf, w1, w2, w3, bots, cond_true, cond_false, if_true, if_false, ite_true, ite_false, reduceIte, reduceCtorEq, implies_true, Nat.reduceAdd, Nat.reduceSub, AV.int, AV.bool, AV.str, Nat.reduceBEq, Nat.reduceEqDiff, Nat.reduceMul, Nat.reduceLT, Nat.reduceLeDiff, Int.reduceNeg, BEq.rfl, beq_self_eq_true, tabl, cellsOf, fldA, ldA, stA, entAt, partA, takeN, over, leafOk, Value.oneCell', idxA, nilA, cellsEq, fillA, elemsA, pure1, pure2, reps, chkA, tys, Tryd.results26, KX_draw, KX_drawQ, KX_tail, lastO_one, lastO_more, dropL_one, dropL_more, callP_eq, callM_true, predC, g1, g3, g6, g7, g9, hq', hN, hS, linA, coefsA]
  have g9 : (o == 9) = false := by simpa using c9
  by_cases c8 : o = 8
  · have g8 : (o == 8) = true := by simpa using c8
    have g6 : (o == 6) = false := by simp; omega
    have g7 : (o == 7) = false := by simp; omega
    have hl : ks.length = 2 := by subst c8; simpa [kidsOk] using hk
    obtain ⟨p, q, rfl⟩ : ∃ p q, ks = [p, q] := by
      match ks, hl with
      | [p, q], _ => exact ⟨p, q, rfl⟩
    have hp1 : p.op = 1 := h8 c8 p [q] rfl
    have hp2 : (p.op != 1) = false := by simpa using hp1
    have i1 : intN (.prim (.int .i64 1)) = some 1 := rfl
    have hq' : nth (kidsC [p, q]) 1 = some (predC q) := rfl
    have hp' : nth (kidsC [p, q]) 0 = some (predC p) := rfl
    have hN := ih q (by simp)
    have hS := fun S tk k => R11_Scale S tk k (ofF q).1.1 (ofF q).1.2 p.n (by have := ofF_len q; omega)
    simp only [linA, coefsA] at hS
    have hr : ofN o s n [p, q] (ofK [p, q]) = if (ofF q).2 = true then scaleF (ofF q).1.1 (ofF q).1.2 p.n else noR := by simp [ofN, ofK, c8]
    rw [hr]
    rw [predC_cells] at hN hq' hp'
    generalize ofF q = x at *
    obtain ⟨⟨xc, xn⟩, xb⟩ := x
    cases xb
    · simp (maxSteps := 1000000) +contextual (disch := first | with_reducible assumption | exact ⟨rfl⟩ | exact ⟨rfl, rfl⟩ | (refine _root_.id ?_; kernel_rfl) | omega) only [evs, ext_mv, nth, put, putT, getT, binInt, binStr, binBool, aUn, outA, resA, mapO, resA1, oneOf, w1, w2, w3, bots, cond_true, cond_false, if_true, if_false, ite_true, ite_false, reduceIte, reduceCtorEq, implies_true, Nat.reduceAdd, Nat.reduceSub, AV.int, AV.bool, AV.str, Nat.reduceBEq, Nat.reduceEqDiff, Nat.reduceMul, Nat.reduceLT, Nat.reduceLeDiff, Int.reduceNeg, BEq.rfl, beq_self_eq_true, tabl, cellsOf, fldA, ldA, stA, entAt, partA, takeN, over, leafOk, Value.oneCell', idxA, nilA, cellsEq, fillA, elemsA, pure1, pure2, reps, chkA, tys, Tryd.results26, KX_draw, KX_drawQ, KX_tail, lastO_one, lastO_more, dropL_one, dropL_more, callP_eq, callM_true, predC, g1, g3, g6, g7, g9, g8, i1, hq', hp', hp2, hN, linA, coefsA]
      simp [noR]
    · simp only [if_true]
      generalize scaleF xc xn p.n = y at *
      simp (maxSteps := 1000000) +contextual (disch := first | with_reducible assumption | exact ⟨rfl⟩ | exact ⟨rfl, rfl⟩ | (refine _root_.id ?_; kernel_rfl) | omega) only [evs, ext_mv, nth, put, putT, getT, binInt, binStr, binBool, aUn, outA, resA, mapO, resA1, oneOf, w1, w2, w3, bots, cond_true, cond_false, if_true, if_false, ite_true, ite_false, reduceIte, reduceCtorEq, implies_true, Nat.reduceAdd, Nat.reduceSub, AV.int, AV.bool, AV.str, Nat.reduceBEq, Nat.reduceEqDiff, Nat.reduceMul, Nat.reduceLT, Nat.reduceLeDiff, Int.reduceNeg, BEq.rfl, beq_self_eq_true, tabl, cellsOf, fldA, ldA, stA, entAt, partA, takeN, over, leafOk, Value.oneCell', idxA, nilA, cellsEq, fillA, elemsA, pure1, pure2, reps, chkA, tys, Tryd.results26, KX_draw, KX_drawQ, KX_tail, lastO_one, lastO_more, dropL_one, dropL_more, callP_eq, callM_true, predC, g1, g3, g6, g7, g9, g8, i1, hq', hp', hp2, hN, hS, linA, coefsA]
  have g8 : (o == 8) = false := by simpa using c8
  by_cases c67 : o = 6 ∨ o = 7
  case neg =>
    have g6 : (o == 6) = false := by simp; omega
    have g7 : (o == 7) = false := by simp; omega
    have hr : ofN o s n ks (ofK ks) = noR := by
      have h6 : ¬ o = 6 := by omega
      have h7 : ¬ o = 7 := by omega
      simp [ofN, c1, c3, c9, c8, h6, h7]
    rw [hr]
    simp (maxSteps := 1000000) +contextual (disch := first | with_reducible assumption | exact ⟨rfl⟩ | exact ⟨rfl, rfl⟩ | (refine _root_.id ?_; kernel_rfl) | omega) only [evs, ext_mv, nth, put, putT, getT, binInt, binStr, binBool, aUn, outA, resA, mapO, resA1, oneOf, w1, w2, w3, bots, cond_true, cond_false, if_true, if_false, ite_true, ite_false, reduceIte, reduceCtorEq, implies_true, Nat.reduceAdd, Nat.reduceSub, AV.int, AV.bool, AV.str, Nat.reduceBEq, Nat.reduceEqDiff, Nat.reduceMul, Nat.reduceLT, Nat.reduceLeDiff, Int.reduceNeg, BEq.rfl, beq_self_eq_true, tabl, cellsOf, fldA, ldA, stA, entAt, partA, takeN, over, leafOk, Value.oneCell', idxA, nilA, cellsEq, fillA, elemsA, pure1, pure2, reps, chkA, tys, Tryd.results26, KX_draw, KX_drawQ, KX_tail, lastO_one, lastO_more, dropL_one, dropL_more, callP_eq, callM_true, predC, g1, g3, g9, g8, g6, g7, linA, coefsA]
    simp [noR]
  have hl : ks.length = 2 := by rcases c67 with rfl | rfl <;> simpa [kidsOk] using hk
  obtain ⟨p, q, rfl⟩ : ∃ p q, ks = [p, q] := by
    match ks, hl with
    | [p, q], _ => exact ⟨p, q, rfl⟩
  have i1 : intN (.prim (.int .i64 1)) = some 1 := rfl
  have hq' : nth (kidsC [p, q]) 1 = some (predC q) := rfl
  have hp' : nth (kidsC [p, q]) 0 = some (predC p) := rfl
  have hN := ih q (by simp)
  have hM := ih p (by simp)
  have lq := ofF_len q
  have lp := ofF_len p
  rw [predC_cells] at hN hM hq' hp'
  by_cases c6 : o = 6
  · have g6 : (o == 6) = true := by simpa using c6
    have g7 : (o == 7) = false := by simp; omega
    have hr : ofN o s n [p, q] (ofK [p, q]) = subR (ofF p) (ofF q) := by simp [ofN, ofK, c6]
    rw [hr]
    generalize ofF q = x at *
    generalize ofF p = z at *
    obtain ⟨⟨xc, xn⟩, xb⟩ := x
    obtain ⟨⟨zc, zn⟩, zb⟩ := z
    have hA := fun S tk k => R11_Add S tk k zc xc zn xn (by simp only at lp; omega) (by simp only at lq; omega)
    simp only [linA, coefsA] at hA
    unfold subR
    cases xb <;> cases zb
    case true.true =>
      simp only [and_self, if_true]
      generalize addL zc zn xc xn = y at *
      simp (maxSteps := 1000000) +contextual (disch := first | with_reducible assumption | exact ⟨rfl⟩ | exact ⟨rfl, rfl⟩ | (refine _root_.id ?_; kernel_rfl) | omega) only [evs, ext_mv, nth, put, putT, getT, binInt, binStr, binBool, aUn, outA, resA, mapO, resA1, oneOf, w1, w2, w3, bots, cond_true, cond_false, if_true, if_false, ite_true, ite_false, reduceIte, reduceCtorEq, implies_true, Nat.reduceAdd, Nat.reduceSub, AV.int, AV.bool, AV.str, Nat.reduceBEq, Nat.reduceEqDiff, Nat.reduceMul, Nat.reduceLT, Nat.reduceLeDiff, Int.reduceNeg, BEq.rfl, beq_self_eq_true, tabl, cellsOf, fldA, ldA, stA, entAt, partA, takeN, over, leafOk, Value.oneCell', idxA, nilA, cellsEq, fillA, elemsA, pure1, pure2, reps, chkA, tys, Tryd.results26, KX_draw, KX_drawQ, KX_tail, lastO_one, lastO_more, dropL_one, dropL_more, callP_eq, callM_true, predC, g1, g3, g9, g8, g6, g7, i1, hq', hp', hN, hM, hA, linA, coefsA]
    all_goals
      simp (maxSteps := 1000000) +contextual (disch := first | with_reducible assumption | exact ⟨rfl⟩ | exact ⟨rfl, rfl⟩ | (refine _root_.id ?_; kernel_rfl) | omega) only [evs, ext_mv, nth, put, putT, getT, binInt, binStr, binBool, aUn, outA, resA, mapO, resA1, oneOf, w1, w2, w3, bots, cond_true, cond_false, if_true, if_false, ite_true, ite_false, reduceIte, reduceCtorEq, implies_true, Nat.reduceAdd, Nat.reduceSub, AV.int, AV.bool, AV.str, Nat.reduceBEq, Nat.reduceEqDiff, Nat.reduceMul, Nat.reduceLT, Nat.reduceLeDiff, Int.reduceNeg, BEq.rfl, beq_self_eq_true, tabl, cellsOf, fldA, ldA, stA, entAt, partA, takeN, over, leafOk, Value.oneCell', idxA, nilA, cellsEq, fillA, elemsA, pure1, pure2, reps, chkA, tys, Tryd.results26, KX_draw, KX_drawQ, KX_tail, lastO_one, lastO_more, dropL_one, dropL_more, callP_eq, callM_true, predC, g1, g3, g9, g8, g6, g7, i1, hq', hp', hN, hM, linA, coefsA]
      simp [noR]
  · have g6 : (o == 6) = false := by simpa using c6
    have c7 : o = 7 := by omega
    have g7 : (o == 7) = true := by simp; omega
    have hr : ofN o s n [p, q] (ofK [p, q]) = subR (ofF p) (negR (ofF q)) := by simp [ofN, ofK, c7]
    rw [hr]
    generalize ofF q = x at *
    generalize ofF p = z at *
    obtain ⟨⟨xc, xn⟩, xb⟩ := x
    obtain ⟨⟨zc, zn⟩, zb⟩ := z
    have hS := fun S tk k => R11_Scale S tk k xc xn (-1) (by simp only at lq; omega)
    simp only [linA, coefsA] at hS
    have ly := scaleF_len xc xn (-1)
    simp only at lp lq
    unfold subR negR
    cases xb
    · cases zb
      all_goals
        simp (maxSteps := 1000000) +contextual (disch := first | with_reducible assumption | exact ⟨rfl⟩ | exact ⟨rfl, rfl⟩ | (refine _root_.id ?_; kernel_rfl) | omega) only [evs, ext_mv, nth, put, putT, getT, binInt, binStr, binBool, aUn, outA, resA, mapO, resA1, oneOf, w1, w2, w3, bots, cond_true, cond_false, if_true, if_false, ite_true, ite_false, reduceIte, reduceCtorEq, implies_true, Nat.reduceAdd, Nat.reduceSub, AV.int, AV.bool, AV.str, Nat.reduceBEq, Nat.reduceEqDiff, Nat.reduceMul, Nat.reduceLT, Nat.reduceLeDiff, Int.reduceNeg, BEq.rfl, beq_self_eq_true, tabl, cellsOf, fldA, ldA, stA, entAt, partA, takeN, over, leafOk, Value.oneCell', idxA, nilA, cellsEq, fillA, elemsA, pure1, pure2, reps, chkA, tys, Tryd.results26, KX_draw, KX_drawQ, KX_tail, lastO_one, lastO_more, dropL_one, dropL_more, callP_eq, callM_true, predC, g1, g3, g9, g8, g6, g7, i1, hq', hp', hN, hM, linA, coefsA]
        simp [noR]
    · simp only [if_true]
      generalize scaleF xc xn (-1) = y at *
      obtain ⟨⟨yc, yn⟩, yb⟩ := y
      have hA := fun S tk k => R11_Add S tk k zc yc zn yn (by omega) (by simp only at ly; omega)
      simp only [linA, coefsA] at hA
      cases yb <;> cases zb
      case true.true =>
        simp only [and_self, if_true]
        generalize addL zc zn yc yn = y at *
        simp (maxSteps := 1000000) +contextual (disch := first | with_reducible assumption | exact ⟨rfl⟩ | exact ⟨rfl, rfl⟩ | (refine _root_.id ?_; kernel_rfl) | omega) only [evs, ext_mv, nth, put, putT, getT, binInt, binStr, binBool, aUn, outA, resA, mapO, resA1, oneOf, w1, w2, w3, bots, cond_true, cond_false, if_true, if_false, ite_true, ite_false, reduceIte, reduceCtorEq, implies_true, Nat.reduceAdd, Nat.reduceSub, AV.int, AV.bool, AV.str, Nat.reduceBEq, Nat.reduceEqDiff, Nat.reduceMul, Nat.reduceLT, Nat.reduceLeDiff, Int.reduceNeg, BEq.rfl, beq_self_eq_true, tabl, cellsOf, fldA, ldA, stA, entAt, partA, takeN, over, leafOk, Value.oneCell', idxA, nilA, cellsEq, fillA, elemsA, pure1, pure2, reps, chkA, tys, Tryd.results26, KX_draw, KX_drawQ, KX_tail, lastO_one, lastO_more, dropL_one, dropL_more, callP_eq, callM_true, predC, g1, g3, g9, g8, g6, g7, i1, hq', hp', hN, hM, hS, hA, linA, coefsA]
      all_goals
        simp (maxSteps := 1000000) +contextual (disch := first | with_reducible assumption | exact ⟨rfl⟩ | exact ⟨rfl, rfl⟩ | (refine _root_.id ?_; kernel_rfl) | omega) only [evs, ext_mv, nth, put, putT, getT, binInt, binStr, binBool, aUn, outA, resA, mapO, resA1, oneOf, w1, w2, w3, bots, cond_true, cond_false, if_true, if_false, ite_true, ite_false, reduceIte, reduceCtorEq, implies_true, Nat.reduceAdd, Nat.reduceSub, AV.int, AV.bool, AV.str, Nat.reduceBEq, Nat.reduceEqDiff, Nat.reduceMul, Nat.reduceLT, Nat.reduceLeDiff, Int.reduceNeg, BEq.rfl, beq_self_eq_true, tabl, cellsOf, fldA, ldA, stA, entAt, partA, takeN, over, leafOk, Value.oneCell', idxA, nilA, cellsEq, fillA, elemsA, pure1, pure2, reps, chkA, tys, Tryd.results26, KX_draw, KX_drawQ, KX_tail, lastO_one, lastO_more, dropL_one, dropL_more, callP_eq, callM_true, predC, g1, g3, g9, g8, g6, g7, i1, hq', hp', hN, hM, hS, linA, coefsA]
        simp [noR]
end
mutual
theorem linear_of : ∀ (p : PT), formP p = 0 → ∀ (S : List Ent) (tk : List Nat) (k : Nat), cL Tryd.prog 25 [.agg (predC p)] S tk k = some (.tup [linA (ofF p).1.1 (ofF p).1.2, .bool (ofF p).2], S, tk, k)
  | .node o s n ks, h => fun S tk k => of_step S tk k o s n ks (form_kids h).1 (linear_ofL ks (form_kids h).2)
theorem linear_ofL : ∀ (ks : List PT), formL ks = 0 → ∀ q ∈ ks, ∀ (S : List Ent) (tk : List Nat) (k : Nat), cL Tryd.prog 25 [.agg (predC q)] S tk k = some (.tup [linA (ofF q).1.1 (ofF q).1.2, .bool (ofF q).2], S, tk, k)
  | [], _ => fun q h => by simp at h
  | x :: ks, hf => fun q h => by
    rcases List.mem_cons.1 h with e | h
    · rw [e]; exact linear_of x (form_cons hf).1
    · exact linear_ofL ks (form_cons hf).2 q h
end
mutual
theorem R11_of : ∀ (p : PT), formP p = 0 → ∀ (S : List Ent) (tk : List Nat) (k : Nat), cL Tryd.prog 26 [.agg (predC p)] S tk k = some (.tup [linA (ofF p).1.1 (ofF p).1.2, .bool (ofF p).2], S, tk, k)
  | .node o s n ks, h => fun S tk k => R11of_step S tk k o s n ks (form_kids h).1 (R11_ofL ks (form_kids h).2)
theorem R11_ofL : ∀ (ks : List PT), formL ks = 0 → ∀ q ∈ ks, ∀ (S : List Ent) (tk : List Nat) (k : Nat), cL Tryd.prog 26 [.agg (predC q)] S tk k = some (.tup [linA (ofF q).1.1 (ofF q).1.2, .bool (ofF q).2], S, tk, k)
  | [], _ => fun q h => by simp at h
  | x :: ks, hf => fun q h => by
    rcases List.mem_cons.1 h with e | h
    · rw [e]; exact R11_of x (form_cons hf).1
    · exact R11_ofL ks (form_cons hf).2 q h
end
theorem check_form {p : PT} (h : checkP p = 0) : formP p = 0 := by
  unfold checkP at h
  split at h
  · simp at h
  split at h
  · simp at h
  exact h
def OfF (p : PT) : LR := if checkP p = 0 then ofF p else noR
theorem R11_Of (S : List Ent) (tk : List Nat) (k : Nat) (p : PT) (hn : kidsMax p) : cL Tryd.prog 9 [.agg (predC p)] S tk k = some (.tup [linA (OfF p).1.1 (OfF p).1.2, .bool (OfF p).2], S, tk, k) := by
  have c1 := fun S tk k => R07_Check S tk k p hn
  unfold OfF
  by_cases h : checkP p = 0
  · have c2 := R11_of p (check_form h)
    rw [predC_cells] at c1 c2 ⊢
    refine call_pure Tryd.func9 rfl rfl (by decide +kernel) (by decide +kernel) Tryd.ntmps9 rfl rfl _ _ _ rfl ?_; rw [RK_KX]
    have d : (checkP p != 0) = false := by simpa using h
    rw [if_pos h]
    simp (maxSteps := 1000000) +contextual (disch := first | with_reducible assumption | exact ⟨rfl⟩ | exact ⟨rfl, rfl⟩ | (refine _root_.id ?_; kernel_rfl) | omega) only [evs, ext_mv, nth, put, putT, getT, binInt, binStr, binBool, aUn, outA, resA, mapO, resA1, oneOf, w1, w2, w3, bots, cond_true, cond_false, if_true, if_false, ite_true, ite_false, reduceIte, reduceCtorEq, implies_true, Nat.reduceAdd, Nat.reduceSub, AV.int, AV.bool, AV.str, Nat.reduceBEq, Nat.reduceEqDiff, Nat.reduceMul, Nat.reduceLT, Nat.reduceLeDiff, Int.reduceNeg, BEq.rfl, beq_self_eq_true, tabl, cellsOf, fldA, ldA, stA, entAt, partA, takeN, over, leafOk, Value.oneCell', idxA, nilA, cellsEq, fillA, elemsA, pure1, pure2, reps, chkA, tys, Tryd.results9, KX_draw, KX_drawQ, KX_tail, lastO_one, lastO_more, dropL_one, dropL_more, callP_eq, callM_true, c1, c2, d, linA, coefsA]
  · rw [predC_cells] at c1 ⊢
    refine call_pure Tryd.func9 rfl rfl (by decide +kernel) (by decide +kernel) Tryd.ntmps9 rfl rfl _ _ _ rfl ?_; rw [RK_KX]
    have d : (checkP p != 0) = true := by simpa using h
    rw [if_neg h]
    simp (maxSteps := 1000000) +contextual (disch := first | with_reducible assumption | exact ⟨rfl⟩ | exact ⟨rfl, rfl⟩ | (refine _root_.id ?_; kernel_rfl) | omega) only [evs, ext_mv, nth, put, putT, getT, binInt, binStr, binBool, aUn, outA, resA, mapO, resA1, oneOf, w1, w2, w3, bots, cond_true, cond_false, if_true, if_false, ite_true, ite_false, reduceIte, reduceCtorEq, implies_true, Nat.reduceAdd, Nat.reduceSub, AV.int, AV.bool, AV.str, Nat.reduceBEq, Nat.reduceEqDiff, Nat.reduceMul, Nat.reduceLT, Nat.reduceLeDiff, Int.reduceNeg, BEq.rfl, beq_self_eq_true, tabl, cellsOf, fldA, ldA, stA, entAt, partA, takeN, over, leafOk, Value.oneCell', idxA, nilA, cellsEq, fillA, elemsA, pure1, pure2, reps, chkA, tys, Tryd.results9, KX_draw, KX_drawQ, KX_tail, lastO_one, lastO_more, dropL_one, dropL_more, callP_eq, callM_true, c1, d, linA, coefsA]
    simp [noR]
end Go.Proofs.YtkghgdkkholieaaDoor
