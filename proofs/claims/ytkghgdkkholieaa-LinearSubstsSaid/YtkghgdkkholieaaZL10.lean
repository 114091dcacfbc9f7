/-
  Texts laid together: E6, E9, E10, EAwake, E4, E11, LName, LSearch.
-/
import Derived.Test.YtkghgdkkholieaaZL9
/-
  Tight and Form, by the program.
-/

namespace Go.Proofs.Ytkghgdkkholieaa
open Go

theorem chkFrom_ok {n : Int} : ∀ {p : Option ByteArray} {cs : List (ByteArray × Int)}, chkFrom n p cs = 0 → (∀ c ∈ cs, inB c.2 = true ∧ c.2 ≠ 0) ∧ inB n = true
  | p, [], h => by
    simp only [chkFrom] at h
    refine ⟨by simp, ?_⟩
    cases hn : inB n with
    | true => rfl
    | false => rw [hn] at h; simp at h
  | p, c :: cs, h => by
    simp only [chkFrom] at h
    split at h
    · simp at h
    · split at h
      · simp at h
      · rename_i h1
        split at h
        · simp at h
        · obtain ⟨g1, g2⟩ := chkFrom_ok h
          refine ⟨fun d hd => ?_, g2⟩
          rcases List.mem_cons.1 hd with rfl | hd
          · simp at h1; exact ⟨h1.2, h1.1⟩
          · exact g1 d hd
theorem check_ok {cs : List (ByteArray × Int)} {n : Int} (h : checkF cs n = 0) : (∀ c ∈ cs, inB c.2 = true ∧ c.2 ≠ 0) ∧ inB n = true ∧ cs.length ≤ 24 := by
  unfold checkF at h
  split at h
  · simp at h
  · obtain ⟨h1, h2⟩ := chkFrom_ok h
    exact ⟨h1, h2, by omega⟩
theorem gcdL_in : ∀ {cs : List (ByteArray × Int)} {g : Int}, (∀ c ∈ cs, inB c.2 = true ∧ c.2 ≠ 0) → inB g = true → inB (gcdL g cs) = true
  | [], g, _, hg => hg
  | c :: cs, g, h, hg => gcdL_in (cs := cs) (fun d hd => h d (by simp [hd])) (gcdS_in hg (h c (by simp)).1 (h c (by simp)).2)
theorem gcdL_pos : ∀ {cs : List (ByteArray × Int)} {g : Int}, (∀ c ∈ cs, inB c.2 = true ∧ c.2 ≠ 0) → inB g = true → 0 ≤ g → (0 < g ∨ cs ≠ []) → 0 < gcdL g cs
  | [], g, _, _, _, h => by rcases h with h | h; exact h; simp at h
  | c :: cs, g, h, hg, h0, _ => by
    have hc := h c (by simp)
    have hp : 0 < gcdS g c.2 := by
      unfold gcdS
      rw [absS_in hg, absS_in hc.1]
      have : 0 < Int.gcd (g.natAbs : Int) (c.2.natAbs : Int) := Nat.gcd_pos_of_pos_right _ (by have := hc.2; omega)
      omega
    exact gcdL_pos (cs := cs) (fun d hd => h d (by simp [hd])) (gcdS_in hg hc.1 hc.2) (by omega) (.inl hp)

def tightF (cs : List (ByteArray × Int)) (n : Int) (eq : Bool) : List (ByteArray × Int) × Int × Bool :=
  if checkF cs n = 0 then
    if cs = [] then (if (n == 0 || (!eq && decide (n < 0))) = true then ([], 0, false) else ([], 1, false))
    else if (eq && !(n.tmod (gcdL 0 cs) == 0)) = true then ([], 1, false)
    else (cs.map (divC (gcdL 0 cs)), -((-n) / gcdL 0 cs), eq)
  else (cs, n, eq)

section
variable (S : List Ent) (tk : List Nat) (k : Nat)
theorem linear_Tight (cs : List (ByteArray × Int)) (n : Int) (eq : Bool) (hlen : cs.length ≤ 1048576) : cL Try.prog 13 [rowA cs n eq] S tk k = some (rowA (tightF cs n eq).1 (tightF cs n eq).2.1 (tightF cs n eq).2.2, S, tk, k) := by
  have hC := fun S tk k => linear_Check S tk k cs n hlen
  have hcp := fun S tk k => linear_copied S tk k cs n hlen
  simp only [linA, coefsA] at hC hcp
  by_cases h0 : checkF cs n = 0
  · have d0 : (checkF cs n != 0) = false := by simp [h0]
    obtain ⟨hb, hn, -⟩ := check_ok h0
    cases cs with
    | nil =>
      have hvt := fun S tk k => linear_verdict S tk k true
      have hvf := fun S tk k => linear_verdict S tk k false
      simp only [rowA, coefsA, List.map_nil, if_true, Bool.false_eq_true, if_false, AV.bool, AV.int] at hvt hvf hC
      have hz : (((0 : Nat) : Int) == 0) = true := rfl
      have ht : ∀ e, tightF [] n e = if (n == 0 || (!e && decide (n < 0))) = true then ([], 0, false) else ([], 1, false) := fun e => by
        unfold tightF; rw [if_pos h0, if_pos rfl]
      refine call_pure Try.func13 rfl rfl (by decide +kernel) (by decide +kernel) Try.ntmps13 rfl rfl _ _ _ rfl ?_; rw [RK_KX]
      by_cases hz0 : n = 0
      · have d2 : (n == 0) = true := by simpa using hz0
        simp (maxSteps := 1000000) +contextual (disch := first | with_reducible assumption | exact ⟨rfl⟩ | exact ⟨rfl, rfl⟩ | (refine _root_.id ?_; kernel_rfl) | omega) only [evs, ext_mv, nth, put, putT, getT, binInt, binStr, binBool, aUn, outA, resA, mapO, resA1, oneOf, w1, w2, w3, bots, cond_true, cond_false, if_true, if_false, ite_true, ite_false, reduceIte, reduceCtorEq, implies_true, Nat.reduceAdd, Nat.reduceSub, AV.int, AV.bool, AV.str, Nat.reduceBEq, Nat.reduceEqDiff, Nat.reduceMul, Nat.reduceLT, Nat.reduceLeDiff, Int.reduceNeg, BEq.rfl, beq_self_eq_true, tabl, cellsOf, fldA, ldA, stA, entAt, partA, takeN, over, leafOk, Value.oneCell', idxA, nilA, cellsEq, fillA, elemsA, pure1, pure2, reps, chkA, tys, Try.results13, KX_draw, KX_drawQ, KX_tail, lastO_one, lastO_more, dropL_one, dropL_more, callP_eq, callM_true, rowA, coefsA, hC, d0, hvt, hvf, List.map_nil, hz, d2]
        rw [ht, if_pos (by simp [hz0])]; simp [hz0]
      have d2 : (n == 0) = false := by simpa using hz0
      by_cases hn0 : n < 0
      · have d3 : decide (n < 0) = true := by simpa using hn0
        simp (maxSteps := 1000000) +contextual (disch := first | with_reducible assumption | exact ⟨rfl⟩ | exact ⟨rfl, rfl⟩ | (refine _root_.id ?_; kernel_rfl) | omega) only [evs, ext_mv, nth, put, putT, getT, binInt, binStr, binBool, aUn, outA, resA, mapO, resA1, oneOf, w1, w2, w3, bots, cond_true, cond_false, if_true, if_false, ite_true, ite_false, reduceIte, reduceCtorEq, implies_true, Nat.reduceAdd, Nat.reduceSub, AV.int, AV.bool, AV.str, Nat.reduceBEq, Nat.reduceEqDiff, Nat.reduceMul, Nat.reduceLT, Nat.reduceLeDiff, Int.reduceNeg, BEq.rfl, beq_self_eq_true, tabl, cellsOf, fldA, ldA, stA, entAt, partA, takeN, over, leafOk, Value.oneCell', idxA, nilA, cellsEq, fillA, elemsA, pure1, pure2, reps, chkA, tys, Try.results13, KX_draw, KX_drawQ, KX_tail, lastO_one, lastO_more, dropL_one, dropL_more, callP_eq, callM_true, rowA, coefsA, hC, d0, hvt, hvf, List.map_nil, hz, d2, d3]
        simp [ht, hz0, hn0]
      · have d3 : decide (n < 0) = false := by simpa using hn0
        simp (maxSteps := 1000000) +contextual (disch := first | with_reducible assumption | exact ⟨rfl⟩ | exact ⟨rfl, rfl⟩ | (refine _root_.id ?_; kernel_rfl) | omega) only [evs, ext_mv, nth, put, putT, getT, binInt, binStr, binBool, aUn, outA, resA, mapO, resA1, oneOf, w1, w2, w3, bots, cond_true, cond_false, if_true, if_false, ite_true, ite_false, reduceIte, reduceCtorEq, implies_true, Nat.reduceAdd, Nat.reduceSub, AV.int, AV.bool, AV.str, Nat.reduceBEq, Nat.reduceEqDiff, Nat.reduceMul, Nat.reduceLT, Nat.reduceLeDiff, Int.reduceNeg, BEq.rfl, beq_self_eq_true, tabl, cellsOf, fldA, ldA, stA, entAt, partA, takeN, over, leafOk, Value.oneCell', idxA, nilA, cellsEq, fillA, elemsA, pure1, pure2, reps, chkA, tys, Try.results13, KX_draw, KX_drawQ, KX_tail, lastO_one, lastO_more, dropL_one, dropL_more, callP_eq, callM_true, rowA, coefsA, hC, d0, hvt, hvf, List.map_nil, hz, d2, d3]
        simp [ht, hz0, hn0]
    | cons c cs =>
      refine call_pure Try.func13 rfl rfl (by decide +kernel) (by decide +kernel) Try.ntmps13 rfl rfl _ _ _ rfl ?_; rw [RK_KX]
      generalize hl : c :: cs = l at *
      have hne : l ≠ [] := by rw [← hl]; simp
      have hg := gcdL_in hb (g := 0) rfl
      have hp := gcdL_pos hb (g := 0) rfl (by omega) (.inr hne)
      have hD := fun S tk k => linear_divisor S tk k l n 0 hlen hb rfl
      have hQ := fun S tk k => num_Div S tk k (-n) (gcdL 0 l) (by rw [inB_true] at hn ⊢; omega) hp hg
      have hV := fun S tk k => linear_divided S tk k (gcdL 0 l) l hlen (by omega) (fun c hc => (hb c hc).1)
      have hw : IntKind.i64.wrap (0 - n) = -n := by rw [wrap_of (by rw [inB_true] at hn; unfold i64; omega)]; omega
      have d1 : ((l.length : Int) == 0) = false := by rw [← hl]; simp; omega
      have hv := linear_verdict
      simp only [rowA, coefsA, linA] at hv hD hV
      simp (maxSteps := 1000000) +contextual (disch := first | with_reducible assumption | exact ⟨rfl⟩ | exact ⟨rfl, rfl⟩ | (refine _root_.id ?_; kernel_rfl) | omega) only [evs, ext_mv, nth, put, putT, getT, binInt, binStr, binBool, aUn, outA, resA, mapO, resA1, oneOf, w1, w2, w3, bots, cond_true, cond_false, if_true, if_false, ite_true, ite_false, reduceIte, reduceCtorEq, implies_true, Nat.reduceAdd, Nat.reduceSub, AV.int, AV.bool, AV.str, Nat.reduceBEq, Nat.reduceEqDiff, Nat.reduceMul, Nat.reduceLT, Nat.reduceLeDiff, Int.reduceNeg, BEq.rfl, beq_self_eq_true, tabl, cellsOf, fldA, ldA, stA, entAt, partA, takeN, over, leafOk, Value.oneCell', idxA, nilA, cellsEq, fillA, elemsA, pure1, pure2, reps, chkA, tys, Try.results13, KX_draw, KX_drawQ, KX_tail, lastO_one, lastO_more, dropL_one, dropL_more, callP_eq, callM_true, rowA, coefsA, hC, d0, hD, hQ, hV, hw, d1, hv]
      have hq : IntKind.i64.wrap (0 - -n / gcdL 0 l) = -(-n / gcdL 0 l) := by
        rw [inB_true] at hn
        have := tdiv_bound (a := -n) (b := gcdL 0 l) (by omega) (by omega)
        have h1 := Int.natAbs_ediv_le_natAbs (-n) (gcdL 0 l)
        rw [wrap_of (by unfold i64; omega)]; omega
      have ht : ∀ e, tightF l n e = if (e && !(n.tmod (gcdL 0 l) == 0)) = true then ([], 1, false) else (l.map (divC (gcdL 0 l)), -((-n) / gcdL 0 l), e) := fun e => by
        unfold tightF; rw [if_pos h0, if_neg hne]
      refine ⟨fun _ => ⟨by omega, fun h => ?_, fun h => ?_⟩, fun _ => ?_⟩
      · rw [ht, if_pos (by simpa using h)]; simp
      · rw [ht, if_neg (by simpa using h)]; exact ⟨rfl, hq, rfl⟩
      · rw [ht, if_neg (by simp)]; exact ⟨rfl, hq, rfl⟩
  · have d0 : (checkF cs n != 0) = true := by simpa using h0
    refine call_pure Try.func13 rfl rfl (by decide +kernel) (by decide +kernel) Try.ntmps13 rfl rfl _ _ _ rfl ?_; rw [RK_KX]
    simp (maxSteps := 1000000) +contextual (disch := first | with_reducible assumption | exact ⟨rfl⟩ | exact ⟨rfl, rfl⟩ | (refine _root_.id ?_; kernel_rfl) | omega) only [evs, ext_mv, nth, put, putT, getT, binInt, binStr, binBool, aUn, outA, resA, mapO, resA1, oneOf, w1, w2, w3, bots, cond_true, cond_false, if_true, if_false, ite_true, ite_false, reduceIte, reduceCtorEq, implies_true, Nat.reduceAdd, Nat.reduceSub, AV.int, AV.bool, AV.str, Nat.reduceBEq, Nat.reduceEqDiff, Nat.reduceMul, Nat.reduceLT, Nat.reduceLeDiff, Int.reduceNeg, BEq.rfl, beq_self_eq_true, tabl, cellsOf, fldA, ldA, stA, entAt, partA, takeN, over, leafOk, Value.oneCell', idxA, nilA, cellsEq, fillA, elemsA, pure1, pure2, reps, chkA, tys, Try.results13, KX_draw, KX_drawQ, KX_tail, lastO_one, lastO_more, dropL_one, dropL_more, callP_eq, callM_true, rowA, coefsA, hC, d0, hcp]
    simp [tightF, h0]
def formF (cs : List (ByteArray × Int)) (n : Int) : (List (ByteArray × Int) × Int) × Int :=
  if checkF cs n = 0 then
    match cs with
    | [] => if decide (n > 0) = true then (([], 1), 1) else if decide (n < 0) = true then (([], 1), -1) else (([], 0), 1)
    | c :: r => if decide (c.2 < 0) = true then (((c :: r).map (divC (-gcdL (gcdS n 0) (c :: r))), n.tdiv (-gcdL (gcdS n 0) (c :: r))), -1)
      else (((c :: r).map (divC (gcdL (gcdS n 0) (c :: r))), n.tdiv (gcdL (gcdS n 0) (c :: r))), 1)
  else (([], 0), 0)
theorem linear_Form (cs : List (ByteArray × Int)) (n : Int) (hlen : cs.length ≤ 1048576) : cL Try.prog 10 [linA cs n] S tk k = some (.tup [linA (formF cs n).1.1 (formF cs n).1.2, .int (formF cs n).2], S, tk, k) := by
  have hC := fun S tk k => linear_Check S tk k cs n hlen
  simp only [linA, coefsA] at hC
  by_cases h0 : checkF cs n = 0
  · have d0 : (checkF cs n != 0) = false := by simp [h0]
    obtain ⟨hb, hn, -⟩ := check_ok h0
    cases cs with
    | nil =>
      simp only [List.map_nil] at hC
      have hz : (((0 : Nat) : Int) == 0) = true := rfl
      refine call_pure Try.func10 rfl rfl (by decide +kernel) (by decide +kernel) Try.ntmps10 rfl rfl _ _ _ rfl ?_; rw [RK_KX]
      simp (maxSteps := 1000000) +contextual (disch := first | with_reducible assumption | exact ⟨rfl⟩ | exact ⟨rfl, rfl⟩ | (refine _root_.id ?_; kernel_rfl) | omega) only [evs, ext_mv, nth, put, putT, getT, binInt, binStr, binBool, aUn, outA, resA, mapO, resA1, oneOf, w1, w2, w3, bots, cond_true, cond_false, if_true, if_false, ite_true, ite_false, reduceIte, reduceCtorEq, implies_true, Nat.reduceAdd, Nat.reduceSub, AV.int, AV.bool, AV.str, Nat.reduceBEq, Nat.reduceEqDiff, Nat.reduceMul, Nat.reduceLT, Nat.reduceLeDiff, Int.reduceNeg, BEq.rfl, beq_self_eq_true, tabl, cellsOf, fldA, ldA, stA, entAt, partA, takeN, over, leafOk, Value.oneCell', idxA, nilA, cellsEq, fillA, elemsA, pure1, pure2, reps, chkA, tys, Try.results10, KX_draw, KX_drawQ, KX_tail, lastO_one, lastO_more, dropL_one, dropL_more, callP_eq, callM_true, linA, coefsA, hC, d0, List.map_nil, hz]
      unfold formF
      rw [if_pos h0]
      refine ⟨fun h => ?_, fun h => ⟨fun h1 => ?_, fun h1 => ?_⟩⟩
      · simp only [h, if_true]; simp
      · simp only [h, h1, if_true]; simp
      · simp only [h, h1]; simp
    | cons c cs =>
      refine call_pure Try.func10 rfl rfl (by decide +kernel) (by decide +kernel) Try.ntmps10 rfl rfl _ _ _ rfl ?_; rw [RK_KX]
      have hgn : inB (gcdS n 0) = true ∧ 0 ≤ gcdS n 0 := by
        unfold gcdS
        rw [absS_in hn, inB_true]
        rw [inB_true] at hn
        simp [absS]; omega
      have hg := gcdL_in hb hgn.1
      have hp := gcdL_pos hb hgn.1 hgn.2 (.inr (by simp))
      have hG := fun S tk k => num_Gcd S tk k n 0 (inB_i64 hn) (by unfold i64; omega)
      have hD := fun S tk k => linear_divisor S tk k (c :: cs) n (gcdS n 0) hlen hb hgn.1
      have hV := fun S tk k => linear_divided S tk k (gcdL (gcdS n 0) (c :: cs)) (c :: cs) hlen (by omega) (fun c hc => (hb c hc).1)
      have hV' := fun S tk k => linear_divided S tk k (-gcdL (gcdS n 0) (c :: cs)) (c :: cs) hlen (by omega) (fun c hc => (hb c hc).1)
      have hw : ∀ g, inB g = true → IntKind.i64.wrap (0 - g) = -g := fun g hg => by rw [wrap_of (by rw [inB_true] at hg; unfold i64; omega)]; omega
      have hw' := hw _ hg
      have d1 : (((c :: cs).length : Int) == 0) = false := by simp; omega
      simp only [linA, coefsA] at hD hV hV'
      have hf : ∀ n, formF (c :: cs) n = if checkF (c :: cs) n = 0 then (if decide (c.2 < 0) = true then (((c :: cs).map (divC (-gcdL (gcdS n 0) (c :: cs))), n.tdiv (-gcdL (gcdS n 0) (c :: cs))), -1)
        else (((c :: cs).map (divC (gcdL (gcdS n 0) (c :: cs))), n.tdiv (gcdL (gcdS n 0) (c :: cs))), 1)) else (([], 0), 0) := fun _ => rfl
      rw [hf, if_pos h0]
      have hc1 : nth ((c :: cs).map coefC) 0 = some [.prim (.string c.1), .prim (.int .i64 c.2)] := rfl
      generalize gcdL (gcdS n 0) (c :: cs) = g at *
      generalize c :: cs = l at *
      by_cases hs : c.2 < 0
      · have d2 : decide (c.2 < 0) = true := by simpa using hs
        have hq : IntKind.i64.wrap (n.tdiv (-g)) = n.tdiv (-g) := wrap_tdiv hn
        simp (maxSteps := 1000000) +contextual (disch := first | with_reducible assumption | exact ⟨rfl⟩ | exact ⟨rfl, rfl⟩ | (refine _root_.id ?_; kernel_rfl) | omega) only [evs, ext_mv, nth, put, putT, getT, binInt, binStr, binBool, aUn, outA, resA, mapO, resA1, oneOf, w1, w2, w3, bots, cond_true, cond_false, if_true, if_false, ite_true, ite_false, reduceIte, reduceCtorEq, implies_true, Nat.reduceAdd, Nat.reduceSub, AV.int, AV.bool, AV.str, Nat.reduceBEq, Nat.reduceEqDiff, Nat.reduceMul, Nat.reduceLT, Nat.reduceLeDiff, Int.reduceNeg, BEq.rfl, beq_self_eq_true, tabl, cellsOf, fldA, ldA, stA, entAt, partA, takeN, over, leafOk, Value.oneCell', idxA, nilA, cellsEq, fillA, elemsA, pure1, pure2, reps, chkA, tys, Try.results10, KX_draw, KX_drawQ, KX_tail, lastO_one, lastO_more, dropL_one, dropL_more, callP_eq, callM_true, linA, coefsA, hC, d0, hD, hG, hV, hV', hw', d1, hc1, d2, hq]
        omega
      · have d2 : decide (c.2 < 0) = false := by simpa using hs
        have hq : IntKind.i64.wrap (n.tdiv g) = n.tdiv g := wrap_tdiv hn
        simp (maxSteps := 1000000) +contextual (disch := first | with_reducible assumption | exact ⟨rfl⟩ | exact ⟨rfl, rfl⟩ | (refine _root_.id ?_; kernel_rfl) | omega) only [evs, ext_mv, nth, put, putT, getT, binInt, binStr, binBool, aUn, outA, resA, mapO, resA1, oneOf, w1, w2, w3, bots, cond_true, cond_false, if_true, if_false, ite_true, ite_false, reduceIte, reduceCtorEq, implies_true, Nat.reduceAdd, Nat.reduceSub, AV.int, AV.bool, AV.str, Nat.reduceBEq, Nat.reduceEqDiff, Nat.reduceMul, Nat.reduceLT, Nat.reduceLeDiff, Int.reduceNeg, BEq.rfl, beq_self_eq_true, tabl, cellsOf, fldA, ldA, stA, entAt, partA, takeN, over, leafOk, Value.oneCell', idxA, nilA, cellsEq, fillA, elemsA, pure1, pure2, reps, chkA, tys, Try.results10, KX_draw, KX_drawQ, KX_tail, lastO_one, lastO_more, dropL_one, dropL_more, callP_eq, callM_true, linA, coefsA, hC, d0, hD, hG, hV, hV', hw', d1, hc1, d2, hq]
        omega
  · have d0 : (checkF cs n != 0) = true := by simpa using h0
    refine call_pure Try.func10 rfl rfl (by decide +kernel) (by decide +kernel) Try.ntmps10 rfl rfl _ _ _ rfl ?_; rw [RK_KX]
    simp (maxSteps := 1000000) +contextual (disch := first | with_reducible assumption | exact ⟨rfl⟩ | exact ⟨rfl, rfl⟩ | (refine _root_.id ?_; kernel_rfl) | omega) only [evs, ext_mv, nth, put, putT, getT, binInt, binStr, binBool, aUn, outA, resA, mapO, resA1, oneOf, w1, w2, w3, bots, cond_true, cond_false, if_true, if_false, ite_true, ite_false, reduceIte, reduceCtorEq, implies_true, Nat.reduceAdd, Nat.reduceSub, AV.int, AV.bool, AV.str, Nat.reduceBEq, Nat.reduceEqDiff, Nat.reduceMul, Nat.reduceLT, Nat.reduceLeDiff, Int.reduceNeg, BEq.rfl, beq_self_eq_true, tabl, cellsOf, fldA, ldA, stA, entAt, partA, takeN, over, leafOk, Value.oneCell', idxA, nilA, cellsEq, fillA, elemsA, pure1, pure2, reps, chkA, tys, Try.results10, KX_draw, KX_drawQ, KX_tail, lastO_one, lastO_more, dropL_one, dropL_more, callP_eq, callM_true, linA, coefsA, hC, d0]
    simp [formF, h0]
def nearF : List (ByteArray × Int) → Bool
  | [] => true
  | c :: r => if decide (c.2 < -1000) = true then false else if decide (c.2 > 1000) = true then false else nearF r
theorem L11_near (cs : List (ByteArray × Int)) (n : Int) (hlen : cs.length ≤ 1048576) : cL Try.prog 18 [linA cs n] S tk k = some (.bool (nearF cs && (checkF cs n == 0) && decide (n ≥ -1000) && decide (n ≤ 1000)), S, tk, k) := by
  refine call_pure Try.func18 rfl rfl (by decide +kernel) (by decide +kernel) Try.ntmps18 rfl rfl _ _ _ rfl ?_; rw [RK_KX]
  have hC := fun S tk k => linear_Check S tk k cs n hlen
  simp only [linA, coefsA] at hC
  simp (maxSteps := 1000000) +contextual (disch := first | with_reducible assumption | exact ⟨rfl⟩ | exact ⟨rfl, rfl⟩ | (refine _root_.id ?_; kernel_rfl) | omega) only [evs, ext_mv, nth, put, putT, getT, binInt, binStr, binBool, aUn, outA, resA, mapO, resA1, oneOf, w1, w2, w3, bots, cond_true, cond_false, if_true, if_false, ite_true, ite_false, reduceIte, reduceCtorEq, implies_true, Nat.reduceAdd, Nat.reduceSub, AV.int, AV.bool, AV.str, Nat.reduceBEq, Nat.reduceEqDiff, Nat.reduceMul, Nat.reduceLT, Nat.reduceLeDiff, Int.reduceNeg, BEq.rfl, beq_self_eq_true, tabl, cellsOf, fldA, ldA, stA, entAt, partA, takeN, over, leafOk, Value.oneCell', idxA, nilA, cellsEq, fillA, elemsA, pure1, pure2, reps, chkA, tys, Try.results18, KX_draw, KX_drawQ, KX_tail, lastO_one, lastO_more, dropL_one, dropL_more, callP_eq, callM_true, linA, coefsA]
  refine loop1 (P := Try.prog) (fun i st => st.T.length = 40 ∧ i ≤ cs.length ∧ nearF cs = nearF (cs.drop i) ∧ getT st.T 1 = .ref 0 0 0 ∧ getT st.T 3 = .int (i : Nat) ∧ st.S = [⟨0, [coefsA cs, .int n]⟩]) (fun i => cs.length - i) (fun _ => .bool (nearF cs && (checkF cs n == 0) && decide (n ≥ -1000) && decide (n ≤ 1000))) 0 ?_ ?_
  case refine_2 => exact ⟨rfl, Nat.zero_le _, rfl, rfl, rfl, rfl⟩
  rintro i ⟨T, S', tk', n'⟩ ⟨hl, hi, hnf, e1, e3, rfl⟩ IH
  obtain ⟨g, hg, hT⟩ := tab_of hl
  rw [hg] at e1 e3
  subst hT
  clear hg hl
  by_cases hlt : i < cs.length
  · have d1 : decide ((i : Int) < (cs.length : Int)) = true := by simpa using hlt
    obtain ⟨c, hc⟩ := nth_some hlt
    have hc' : nth (cs.map coefC) i = some (coefC c) := by rw [nth_map, hc]; rfl
    have hw := wrap_add (i := i) (m := 0) (by omega)
    rw [nth_drop hc] at hnf
    simp only [nearF] at hnf
    simp (maxSteps := 1000000) +contextual (disch := first | with_reducible assumption | exact ⟨rfl⟩ | exact ⟨rfl, rfl⟩ | (refine _root_.id ?_; kernel_rfl) | omega) only [evs, ext_mv, nth, put, putT, getT, binInt, binStr, binBool, aUn, outA, resA, mapO, resA1, oneOf, w1, w2, w3, bots, cond_true, cond_false, if_true, if_false, ite_true, ite_false, reduceIte, reduceCtorEq, implies_true, Nat.reduceAdd, Nat.reduceSub, AV.int, AV.bool, AV.str, Nat.reduceBEq, Nat.reduceEqDiff, Nat.reduceMul, Nat.reduceLT, Nat.reduceLeDiff, Int.reduceNeg, BEq.rfl, beq_self_eq_true, tabl, cellsOf, fldA, ldA, stA, entAt, partA, takeN, over, leafOk, Value.oneCell', idxA, nilA, cellsEq, fillA, elemsA, pure1, pure2, reps, chkA, tys, Try.results18, KX_draw, KX_drawQ, KX_tail, lastO_one, lastO_more, dropL_one, dropL_more, callP_eq, callM_true, e1, e3, d1, coefsA, hc', hw, coefC]
    refine ⟨fun h1 => ?_, fun h1 => ⟨fun h2 => ?_, fun h2 => ?_⟩⟩
    · rw [hnf, if_pos h1]; rfl
    · rw [hnf, if_neg (by rw [h1]; simp), if_pos h2]; rfl
    · exact IH (i + 1) _ (by omega) ⟨rfl, hlt, by rw [hnf, if_neg (by rw [h1]; simp), if_neg (by rw [h2]; simp)], rfl, rfl, rfl⟩
  · have d1 : decide ((i : Int) < (cs.length : Int)) = false := by simpa using hlt
    have he : i = cs.length := by omega
    rw [he, List.drop_length] at hnf
    rw [show nearF cs = true from hnf]
    simp (maxSteps := 1000000) +contextual (disch := first | with_reducible assumption | exact ⟨rfl⟩ | exact ⟨rfl, rfl⟩ | (refine _root_.id ?_; kernel_rfl) | omega) only [evs, ext_mv, nth, put, putT, getT, binInt, binStr, binBool, aUn, outA, resA, mapO, resA1, oneOf, w1, w2, w3, bots, cond_true, cond_false, if_true, if_false, ite_true, ite_false, reduceIte, reduceCtorEq, implies_true, Nat.reduceAdd, Nat.reduceSub, AV.int, AV.bool, AV.str, Nat.reduceBEq, Nat.reduceEqDiff, Nat.reduceMul, Nat.reduceLT, Nat.reduceLeDiff, Int.reduceNeg, BEq.rfl, beq_self_eq_true, tabl, cellsOf, fldA, ldA, stA, entAt, partA, takeN, over, leafOk, Value.oneCell', idxA, nilA, cellsEq, fillA, elemsA, pure1, pure2, reps, chkA, tys, Try.results18, KX_draw, KX_drawQ, KX_tail, lastO_one, lastO_more, dropL_one, dropL_more, callP_eq, callM_true, e1, e3, d1, coefsA, hC]
end
end Go.Proofs.Ytkghgdkkholieaa
/-
  Sums and multiples of forms, and when forms are the same, by the program.
-/

namespace Go.Proofs.Ytkghgdkkholieaa
open Go

/-- the coefficients of a sum -/
def mergeF : List (ByteArray × Int) → List (ByteArray × Int) → List (ByteArray × Int)
  | [], b => b
  | x :: a, [] => x :: a
  | x :: a, y :: b => if sLt x.1 y.1 then x :: mergeF a (y :: b) else if sLt y.1 x.1 then y :: mergeF (x :: a) b else if x.2 + y.2 = 0 then mergeF a b else (x.1, x.2 + y.2) :: mergeF a b
termination_by a b => a.length + b.length
theorem mergeF_nil (b : List (ByteArray × Int)) : mergeF [] b = b := by rw [mergeF]
theorem mergeF_right (a : List (ByteArray × Int)) : mergeF a [] = a := by cases a <;> rw [mergeF]
theorem mergeF_len (a b : List (ByteArray × Int)) : (mergeF a b).length ≤ a.length + b.length := by
  fun_induction mergeF a b <;> simp only [List.length_cons, List.length_nil] at * <;> omega
def rightF (cs : List (ByteArray × Int)) (n : Int) : (List (ByteArray × Int) × Int) × Bool := if checkF cs n = 0 then ((cs, n), true) else (([], 0), false)
def addL (a : List (ByteArray × Int)) (n : Int) (b : List (ByteArray × Int)) (m : Int) : (List (ByteArray × Int) × Int) × Bool := if checkF a n = 0 ∧ checkF b m = 0 then rightF (mergeF a b) (n + m) else (([], 0), false)

section
variable (S : List Ent) (tk : List Nat) (k : Nat)
theorem linear_right (cs : List (ByteArray × Int)) (n : Int) (c : Cap) (hlen : cs.length ≤ 1048576) : cL Try.prog 46 [.agg [.frz (cs.map coefC) c, .int n]] S tk k = some (.tup [linA (rightF cs n).1.1 (rightF cs n).1.2, .bool (rightF cs n).2], S, tk, k) := by
  have hC := fun S tk k => linear_Check S tk k cs n hlen
  simp only [linA, coefsA] at hC
  refine call_pure Try.func46 rfl rfl (by decide +kernel) (by decide +kernel) Try.ntmps46 rfl rfl _ _ _ rfl ?_; rw [RK_KX]
  by_cases h0 : checkF cs n = 0
  · have d0 : (checkF cs n != 0) = false := by simp [h0]
    simp (maxSteps := 1000000) +contextual (disch := first | with_reducible assumption | exact ⟨rfl⟩ | exact ⟨rfl, rfl⟩ | (refine _root_.id ?_; kernel_rfl) | omega) only [evs, ext_mv, nth, put, putT, getT, binInt, binStr, binBool, aUn, outA, resA, mapO, resA1, oneOf, w1, w2, w3, bots, cond_true, cond_false, if_true, if_false, ite_true, ite_false, reduceIte, reduceCtorEq, implies_true, Nat.reduceAdd, Nat.reduceSub, AV.int, AV.bool, AV.str, Nat.reduceBEq, Nat.reduceEqDiff, Nat.reduceMul, Nat.reduceLT, Nat.reduceLeDiff, Int.reduceNeg, BEq.rfl, beq_self_eq_true, tabl, cellsOf, fldA, ldA, stA, entAt, partA, takeN, over, leafOk, Value.oneCell', idxA, nilA, cellsEq, fillA, elemsA, pure1, pure2, reps, chkA, tys, Try.results46, KX_draw, KX_drawQ, KX_tail, lastO_one, lastO_more, dropL_one, dropL_more, callP_eq, callM_true, hC, d0, w2, w1]
    simp [rightF, h0, linA, coefsA]
  · have d0 : (checkF cs n != 0) = true := by simpa using h0
    simp (maxSteps := 1000000) +contextual (disch := first | with_reducible assumption | exact ⟨rfl⟩ | exact ⟨rfl, rfl⟩ | (refine _root_.id ?_; kernel_rfl) | omega) only [evs, ext_mv, nth, put, putT, getT, binInt, binStr, binBool, aUn, outA, resA, mapO, resA1, oneOf, w1, w2, w3, bots, cond_true, cond_false, if_true, if_false, ite_true, ite_false, reduceIte, reduceCtorEq, implies_true, Nat.reduceAdd, Nat.reduceSub, AV.int, AV.bool, AV.str, Nat.reduceBEq, Nat.reduceEqDiff, Nat.reduceMul, Nat.reduceLT, Nat.reduceLeDiff, Int.reduceNeg, BEq.rfl, beq_self_eq_true, tabl, cellsOf, fldA, ldA, stA, entAt, partA, takeN, over, leafOk, Value.oneCell', idxA, nilA, cellsEq, fillA, elemsA, pure1, pure2, reps, chkA, tys, Try.results46, KX_draw, KX_drawQ, KX_tail, lastO_one, lastO_more, dropL_one, dropL_more, callP_eq, callM_true, hC, d0, w2, w1]
    simp [rightF, h0, linA, coefsA]
theorem take_len {α : Type} {l : List α} {i : Nat} (h : i ≤ l.length) : (l.take i).length = i := by simp; omega
set_option maxRecDepth 100000 in
theorem linear_Add (a b : List (ByteArray × Int)) (n m : Int) (ha : a.length ≤ 100000) (hb : b.length ≤ 100000) : cL Try.prog 19 [linA a n, linA b m] S tk k = some (.tup [linA (addL a n b m).1.1 (addL a n b m).1.2, .bool (addL a n b m).2], S, tk, k) := by
  have hCa := fun S tk k => linear_Check S tk k a n (by omega)
  have hCb := fun S tk k => linear_Check S tk k b m (by omega)
  simp only [linA, coefsA] at hCa hCb
  refine call_pure Try.func19 rfl rfl (by decide +kernel) (by decide +kernel) Try.ntmps19 rfl rfl _ _ _ rfl ?_; rw [RK_KX]
  by_cases ea : checkF a n = 0
  case neg =>
    have da : (checkF a n != 0) = true := by simpa using ea
    simp (maxSteps := 1000000) +contextual (disch := first | with_reducible assumption | exact ⟨rfl⟩ | exact ⟨rfl, rfl⟩ | (refine _root_.id ?_; kernel_rfl) | omega) only [evs, ext_mv, nth, put, putT, getT, binInt, binStr, binBool, aUn, outA, resA, mapO, resA1, oneOf, w1, w2, w3, bots, cond_true, cond_false, if_true, if_false, ite_true, ite_false, reduceIte, reduceCtorEq, implies_true, Nat.reduceAdd, Nat.reduceSub, AV.int, AV.bool, AV.str, Nat.reduceBEq, Nat.reduceEqDiff, Nat.reduceMul, Nat.reduceLT, Nat.reduceLeDiff, Int.reduceNeg, BEq.rfl, beq_self_eq_true, tabl, cellsOf, fldA, ldA, stA, entAt, partA, takeN, over, leafOk, Value.oneCell', idxA, nilA, cellsEq, fillA, elemsA, pure1, pure2, reps, chkA, tys, Try.results19, KX_draw, KX_drawQ, KX_tail, lastO_one, lastO_more, dropL_one, dropL_more, callP_eq, callM_true, linA, coefsA, hCa, da]
    simp [addL, ea]
  have da : (checkF a n != 0) = false := by simp [ea]
  by_cases eb : checkF b m = 0
  case neg =>
    have db : (checkF b m != 0) = true := by simpa using eb
    simp (maxSteps := 1000000) +contextual (disch := first | with_reducible assumption | exact ⟨rfl⟩ | exact ⟨rfl, rfl⟩ | (refine _root_.id ?_; kernel_rfl) | omega) only [evs, ext_mv, nth, put, putT, getT, binInt, binStr, binBool, aUn, outA, resA, mapO, resA1, oneOf, w1, w2, w3, bots, cond_true, cond_false, if_true, if_false, ite_true, ite_false, reduceIte, reduceCtorEq, implies_true, Nat.reduceAdd, Nat.reduceSub, AV.int, AV.bool, AV.str, Nat.reduceBEq, Nat.reduceEqDiff, Nat.reduceMul, Nat.reduceLT, Nat.reduceLeDiff, Int.reduceNeg, BEq.rfl, beq_self_eq_true, tabl, cellsOf, fldA, ldA, stA, entAt, partA, takeN, over, leafOk, Value.oneCell', idxA, nilA, cellsEq, fillA, elemsA, pure1, pure2, reps, chkA, tys, Try.results19, KX_draw, KX_drawQ, KX_tail, lastO_one, lastO_more, dropL_one, dropL_more, callP_eq, callM_true, linA, coefsA, hCa, da, hCb, db]
    simp [addL, eb]
  have db : (checkF b m != 0) = false := by simp [eb]
  have hw := add_wrap (check_ok ea).2.1 (check_ok eb).2.1
  simp (maxSteps := 1000000) +contextual (disch := first | with_reducible assumption | exact ⟨rfl⟩ | exact ⟨rfl, rfl⟩ | (refine _root_.id ?_; kernel_rfl) | omega) only [evs, ext_mv, nth, put, putT, getT, binInt, binStr, binBool, aUn, outA, resA, mapO, resA1, oneOf, w1, w2, w3, bots, cond_true, cond_false, if_true, if_false, ite_true, ite_false, reduceIte, reduceCtorEq, implies_true, Nat.reduceAdd, Nat.reduceSub, AV.int, AV.bool, AV.str, Nat.reduceBEq, Nat.reduceEqDiff, Nat.reduceMul, Nat.reduceLT, Nat.reduceLeDiff, Int.reduceNeg, BEq.rfl, beq_self_eq_true, tabl, cellsOf, fldA, ldA, stA, entAt, partA, takeN, over, leafOk, Value.oneCell', idxA, nilA, cellsEq, fillA, elemsA, pure1, pure2, reps, chkA, tys, Try.results19, KX_draw, KX_drawQ, KX_tail, lastO_one, lastO_more, dropL_one, dropL_more, callP_eq, callM_true, linA, coefsA, hCa, da, hCb, db, hw]
  have hba := (check_ok ea).1
  have hbb := (check_ok eb).1
  have hadd : addL a n b m = rightF (mergeF a b) (n + m) := by simp [addL, ea, eb]
  rw [hadd]
  clear hadd hCa hCb da db hw
  refine loop1 (P := Try.prog) (fun x st => st.T.length = 146 ∧ (x.1 ≤ a.length) ∧ (x.2.1 ≤ b.length) ∧ (x.2.2.1.length ≤ x.1 + x.2.1) ∧ (okCap st.tk x.2.2.2 2 = true) ∧ (mergeF a b = x.2.2.1 ++ mergeF (a.drop x.1) (b.drop x.2.1)) ∧ getT st.T 2 = .ref 0 0 0 ∧ getT st.T 3 = .ref 1 1 0 ∧ getT st.T 4 = .ref 2 2 0 ∧ getT st.T 6 = .ref 3 3 0 ∧ getT st.T 7 = .int (x.1 : Nat) ∧ getT st.T 8 = .int (x.2.1 : Nat) ∧ st.S = [⟨0, [coefsA a, .int n]⟩, ⟨1, [coefsA b, .int m]⟩, ⟨2, [.frz [] .nilc, .int 0]⟩, ⟨3, [.frz (x.2.2.1.map coefC) x.2.2.2, .int (n + m)]⟩]) (fun x => a.length - x.1 + (b.length - x.2.1)) (fun x => .tup [linA (rightF (mergeF a b) (n + m)).1.1 (rightF (mergeF a b) (n + m)).1.2, .bool (rightF (mergeF a b) (n + m)).2]) (0, 0, [], .nilc) ?_ ?_
  case refine_2 => exact ⟨rfl, Nat.zero_le _, Nat.zero_le _, Nat.le_refl _, rfl, rfl, rfl, rfl, rfl, rfl, rfl, rfl, rfl⟩
  rintro ⟨i, j, o, c⟩ ⟨T, S', tk', n'⟩ ⟨hl, hi, hj, ho, hok, hm, e2, e3, e4, e6, e7, e8, eS⟩ IH
  simp only at hi hj ho hok hm e2 e3 e4 e6 e7 e8 eS
  subst eS
  obtain ⟨g, hg, hT⟩ := tab_of hl
  rw [hg] at e2 e3 e4 e6 e7 e8
  subst hT
  clear hg hl
  have hr := rowsOk_map (f := coefC) (sz := 2) (fun _ => rfl) o
  have hn : (o.map coefC).length + 1 ≤ 1048576 := by simp; omega
  have hok' := okCap_new hok
  by_cases la : i < a.length
  · have d1 : decide ((i : Int) < (a.length : Int)) = true := by simpa using la
    have d1' : ((i : Int) == (a.length : Int)) = false := by simp; omega
    obtain ⟨x, hx⟩ := nth_some la
    have hx' : nth (a.map coefC) i = some (coefC x) := by rw [nth_map, hx]; rfl
    have hwi := wrap_add (i := i) (m := 0) (by omega)
    rw [nth_drop hx] at hm
    by_cases lb : j < b.length
    · have d2 : decide ((j : Int) < (b.length : Int)) = true := by simpa using lb
      have d2' : ((j : Int) == (b.length : Int)) = false := by simp; omega
      obtain ⟨y, hy⟩ := nth_some lb
      have hy' : nth (b.map coefC) j = some (coefC y) := by rw [nth_map, hy]; rfl
      have hwj := wrap_add (i := j) (m := 0) (by omega)
      have hxm : x ∈ a := by rw [nth_get] at hx; exact List.mem_of_getElem? hx
      have hym : y ∈ b := by rw [nth_get] at hy; exact List.mem_of_getElem? hy
      have hws := add_wrap (hba x hxm).1 (hbb y hym).1
      rw [nth_drop hy, mergeF] at hm
      simp (maxSteps := 1000000) +contextual (disch := first | with_reducible assumption | exact ⟨rfl⟩ | exact ⟨rfl, rfl⟩ | (refine _root_.id ?_; kernel_rfl) | omega) only [evs, ext_mv, nth, put, putT, getT, binInt, binStr, binBool, aUn, outA, resA, mapO, resA1, oneOf, w1, w2, w3, bots, cond_true, cond_false, if_true, if_false, ite_true, ite_false, reduceIte, reduceCtorEq, implies_true, Nat.reduceAdd, Nat.reduceSub, AV.int, AV.bool, AV.str, Nat.reduceBEq, Nat.reduceEqDiff, Nat.reduceMul, Nat.reduceLT, Nat.reduceLeDiff, Int.reduceNeg, BEq.rfl, beq_self_eq_true, tabl, cellsOf, fldA, ldA, stA, entAt, partA, takeN, over, leafOk, Value.oneCell', idxA, nilA, cellsEq, fillA, elemsA, pure1, pure2, reps, chkA, tys, Try.results19, KX_draw, KX_drawQ, KX_tail, lastO_one, lastO_more, dropL_one, dropL_more, callP_eq, callM_true, e2, e3, e4, e6, e7, e8, d1, d1', d2, d2', coefsA, hx', hy', hwi, hwj, hws, coefC, hr]
      refine ⟨fun h1 => ?_, fun h1 => ⟨fun h2 => ?_, fun h2 => ⟨fun h3 => ?_, fun h3 => ?_⟩⟩⟩
      · rw [if_pos h1] at hm
        exact IH (i + 1, j, o ++ [x], capNew tk' c 2) _ (by first | omega | (simp only; omega)) ⟨rfl, by first | omega | (dsimp only; omega), hj, by simp; omega, hok', by simp only [hm, nth_drop hy, List.append_assoc, List.cons_append, List.nil_append], (by first | rfl | simp only [getT, List.map_append, List.map_cons, List.map_nil, coefC, coefsA]), (by first | rfl | simp only [getT, List.map_append, List.map_cons, List.map_nil, coefC, coefsA]), (by first | rfl | simp only [getT, List.map_append, List.map_cons, List.map_nil, coefC, coefsA]), (by first | rfl | simp only [getT, List.map_append, List.map_cons, List.map_nil, coefC, coefsA]), (by first | rfl | simp only [getT, List.map_append, List.map_cons, List.map_nil, coefC, coefsA]), (by first | rfl | simp only [getT, List.map_append, List.map_cons, List.map_nil, coefC, coefsA]), (by first | rfl | simp only [getT, List.map_append, List.map_cons, List.map_nil, coefC, coefsA])⟩
      · rw [if_neg (by rw [h1]; simp), if_pos h2] at hm
        exact IH (i, j + 1, o ++ [y], capNew tk' c 2) _ (by first | omega | (simp only; omega)) ⟨rfl, hi, by first | omega | (dsimp only; omega), by simp; omega, hok', by simp only [hm, nth_drop hx, List.append_assoc, List.cons_append, List.nil_append], (by first | rfl | simp only [getT, List.map_append, List.map_cons, List.map_nil, coefC, coefsA]), (by first | rfl | simp only [getT, List.map_append, List.map_cons, List.map_nil, coefC, coefsA]), (by first | rfl | simp only [getT, List.map_append, List.map_cons, List.map_nil, coefC, coefsA]), (by first | rfl | simp only [getT, List.map_append, List.map_cons, List.map_nil, coefC, coefsA]), (by first | rfl | simp only [getT, List.map_append, List.map_cons, List.map_nil, coefC, coefsA]), (by first | rfl | simp only [getT, List.map_append, List.map_cons, List.map_nil, coefC, coefsA]), (by first | rfl | simp only [getT, List.map_append, List.map_cons, List.map_nil, coefC, coefsA])⟩
      · have h3' : ¬ x.2 + y.2 = 0 := by simpa using h3
        rw [if_neg (by rw [h1]; simp), if_neg (by rw [h2]; simp), if_neg h3'] at hm
        exact IH (i + 1, j + 1, o ++ [(x.1, x.2 + y.2)], capNew tk' c 2) _ (by first | omega | (simp only; omega)) ⟨rfl, by first | omega | (dsimp only; omega), by first | omega | (dsimp only; omega), by simp; omega, hok', by simp only [hm, List.append_assoc, List.cons_append, List.nil_append], (by first | rfl | simp only [getT, List.map_append, List.map_cons, List.map_nil, coefC, coefsA]), (by first | rfl | simp only [getT, List.map_append, List.map_cons, List.map_nil, coefC, coefsA]), (by first | rfl | simp only [getT, List.map_append, List.map_cons, List.map_nil, coefC, coefsA]), (by first | rfl | simp only [getT, List.map_append, List.map_cons, List.map_nil, coefC, coefsA]), (by first | rfl | simp only [getT, List.map_append, List.map_cons, List.map_nil, coefC, coefsA]), (by first | rfl | simp only [getT, List.map_append, List.map_cons, List.map_nil, coefC, coefsA]), (by first | rfl | simp only [getT, List.map_append, List.map_cons, List.map_nil, coefC, coefsA])⟩
      · have h3' : x.2 + y.2 = 0 := by simpa using h3
        rw [if_neg (by rw [h1]; simp), if_neg (by rw [h2]; simp), if_pos h3'] at hm
        exact IH (i + 1, j + 1, o, c) _ (by first | omega | (simp only; omega)) ⟨rfl, by first | omega | (dsimp only; omega), by first | omega | (dsimp only; omega), by first | omega | (dsimp only; omega), hok, hm, (by first | rfl | simp only [getT, List.map_append, List.map_cons, List.map_nil, coefC, coefsA]), (by first | rfl | simp only [getT, List.map_append, List.map_cons, List.map_nil, coefC, coefsA]), (by first | rfl | simp only [getT, List.map_append, List.map_cons, List.map_nil, coefC, coefsA]), (by first | rfl | simp only [getT, List.map_append, List.map_cons, List.map_nil, coefC, coefsA]), (by first | rfl | simp only [getT, List.map_append, List.map_cons, List.map_nil, coefC, coefsA]), (by first | rfl | simp only [getT, List.map_append, List.map_cons, List.map_nil, coefC, coefsA]), (by first | rfl | simp only [getT, List.map_append, List.map_cons, List.map_nil, coefC, coefsA])⟩
    · have d2 : decide ((j : Int) < (b.length : Int)) = false := by simpa using lb
      have hj2 : j = b.length := by omega
      have d2' : ((j : Int) == (b.length : Int)) = true := by simp; omega
      rw [hj2, List.drop_length, mergeF_right] at hm
      simp (maxSteps := 1000000) +contextual (disch := first | with_reducible assumption | exact ⟨rfl⟩ | exact ⟨rfl, rfl⟩ | (refine _root_.id ?_; kernel_rfl) | omega) only [evs, ext_mv, nth, put, putT, getT, binInt, binStr, binBool, aUn, outA, resA, mapO, resA1, oneOf, w1, w2, w3, bots, cond_true, cond_false, if_true, if_false, ite_true, ite_false, reduceIte, reduceCtorEq, implies_true, Nat.reduceAdd, Nat.reduceSub, AV.int, AV.bool, AV.str, Nat.reduceBEq, Nat.reduceEqDiff, Nat.reduceMul, Nat.reduceLT, Nat.reduceLeDiff, Int.reduceNeg, BEq.rfl, beq_self_eq_true, tabl, cellsOf, fldA, ldA, stA, entAt, partA, takeN, over, leafOk, Value.oneCell', idxA, nilA, cellsEq, fillA, elemsA, pure1, pure2, reps, chkA, tys, Try.results19, KX_draw, KX_drawQ, KX_tail, lastO_one, lastO_more, dropL_one, dropL_more, callP_eq, callM_true, e2, e3, e4, e6, e7, e8, d1, d1', d2, d2', coefsA, hx', hwi, coefC, hr]
      exact IH (i + 1, j, o ++ [x], capNew tk' c 2) _ (by first | omega | (simp only; omega)) ⟨rfl, by first | omega | (dsimp only; omega), hj, by simp; omega, hok', by simp only [hj2, hm, List.drop_length, mergeF_right, List.append_assoc, List.cons_append, List.nil_append], (by first | rfl | simp only [getT, List.map_append, List.map_cons, List.map_nil, coefC, coefsA]), (by first | rfl | simp only [getT, List.map_append, List.map_cons, List.map_nil, coefC, coefsA]), (by first | rfl | simp only [getT, List.map_append, List.map_cons, List.map_nil, coefC, coefsA]), (by first | rfl | simp only [getT, List.map_append, List.map_cons, List.map_nil, coefC, coefsA]), (by first | rfl | simp only [getT, List.map_append, List.map_cons, List.map_nil, coefC, coefsA]), (by first | rfl | simp only [getT, List.map_append, List.map_cons, List.map_nil, coefC, coefsA]), (by first | rfl | simp only [getT, List.map_append, List.map_cons, List.map_nil, coefC, coefsA])⟩
  · have d1 : decide ((i : Int) < (a.length : Int)) = false := by simpa using la
    have hi2 : i = a.length := by omega
    have d1' : ((i : Int) == (a.length : Int)) = true := by simp; omega
    rw [hi2, List.drop_length, mergeF_nil] at hm
    by_cases lb : j < b.length
    · have d2 : decide ((j : Int) < (b.length : Int)) = true := by simpa using lb
      have d2' : ((j : Int) == (b.length : Int)) = false := by simp; omega
      obtain ⟨y, hy⟩ := nth_some lb
      have hy' : nth (b.map coefC) j = some (coefC y) := by rw [nth_map, hy]; rfl
      have hwj := wrap_add (i := j) (m := 0) (by omega)
      rw [nth_drop hy] at hm
      simp (maxSteps := 1000000) +contextual (disch := first | with_reducible assumption | exact ⟨rfl⟩ | exact ⟨rfl, rfl⟩ | (refine _root_.id ?_; kernel_rfl) | omega) only [evs, ext_mv, nth, put, putT, getT, binInt, binStr, binBool, aUn, outA, resA, mapO, resA1, oneOf, w1, w2, w3, bots, cond_true, cond_false, if_true, if_false, ite_true, ite_false, reduceIte, reduceCtorEq, implies_true, Nat.reduceAdd, Nat.reduceSub, AV.int, AV.bool, AV.str, Nat.reduceBEq, Nat.reduceEqDiff, Nat.reduceMul, Nat.reduceLT, Nat.reduceLeDiff, Int.reduceNeg, BEq.rfl, beq_self_eq_true, tabl, cellsOf, fldA, ldA, stA, entAt, partA, takeN, over, leafOk, Value.oneCell', idxA, nilA, cellsEq, fillA, elemsA, pure1, pure2, reps, chkA, tys, Try.results19, KX_draw, KX_drawQ, KX_tail, lastO_one, lastO_more, dropL_one, dropL_more, callP_eq, callM_true, e2, e3, e4, e6, e7, e8, d1, d1', d2, d2', coefsA, hy', hwj, coefC, hr]
      exact IH (i, j + 1, o ++ [y], capNew tk' c 2) _ (by first | omega | (simp only; omega)) ⟨rfl, hi, by first | omega | (dsimp only; omega), by simp; omega, hok', by simp only [hi2, hm, List.drop_length, mergeF_nil, List.append_assoc, List.cons_append, List.nil_append], (by first | rfl | simp only [getT, List.map_append, List.map_cons, List.map_nil, coefC, coefsA]), (by first | rfl | simp only [getT, List.map_append, List.map_cons, List.map_nil, coefC, coefsA]), (by first | rfl | simp only [getT, List.map_append, List.map_cons, List.map_nil, coefC, coefsA]), (by first | rfl | simp only [getT, List.map_append, List.map_cons, List.map_nil, coefC, coefsA]), (by first | rfl | simp only [getT, List.map_append, List.map_cons, List.map_nil, coefC, coefsA]), (by first | rfl | simp only [getT, List.map_append, List.map_cons, List.map_nil, coefC, coefsA]), (by first | rfl | simp only [getT, List.map_append, List.map_cons, List.map_nil, coefC, coefsA])⟩
    · have d2 : decide ((j : Int) < (b.length : Int)) = false := by simpa using lb
      have hj2 : j = b.length := by omega
      rw [hj2, List.drop_length, List.append_nil] at hm
      have hR := fun S tk k => linear_right S tk k o (n + m) c (by omega)
      simp (maxSteps := 1000000) +contextual (disch := first | with_reducible assumption | exact ⟨rfl⟩ | exact ⟨rfl, rfl⟩ | (refine _root_.id ?_; kernel_rfl) | omega) only [evs, ext_mv, nth, put, putT, getT, binInt, binStr, binBool, aUn, outA, resA, mapO, resA1, oneOf, w1, w2, w3, bots, cond_true, cond_false, if_true, if_false, ite_true, ite_false, reduceIte, reduceCtorEq, implies_true, Nat.reduceAdd, Nat.reduceSub, AV.int, AV.bool, AV.str, Nat.reduceBEq, Nat.reduceEqDiff, Nat.reduceMul, Nat.reduceLT, Nat.reduceLeDiff, Int.reduceNeg, BEq.rfl, beq_self_eq_true, tabl, cellsOf, fldA, ldA, stA, entAt, partA, takeN, over, leafOk, Value.oneCell', idxA, nilA, cellsEq, fillA, elemsA, pure1, pure2, reps, chkA, tys, Try.results19, KX_draw, KX_drawQ, KX_tail, lastO_one, lastO_more, dropL_one, dropL_more, callP_eq, callM_true, e2, e3, e4, e6, e7, e8, d1, d2, coefsA, linA, hR]
      rw [hm]
      simp [linA, coefsA]
end
end Go.Proofs.Ytkghgdkkholieaa
/-
  Sums and multiples of forms by the reference, multiples by the program, and when forms are the same.
-/

namespace Go.Proofs.Ytkghgdkkholieaa
open Go

section
variable (S : List Ent) (tk : List Nat) (k : Nat)
theorem R11_right (cs : List (ByteArray × Int)) (n : Int) (c : Cap) (hlen : cs.length ≤ 1048576) : cL Try.prog 47 [.agg [.frz (cs.map coefC) c, .int n]] S tk k = some (.tup [linA (rightF cs n).1.1 (rightF cs n).1.2, .bool (rightF cs n).2], S, tk, k) := by
  have hC := fun S tk k => R11_Check S tk k cs n hlen
  have hr := rowsOk_map (f := coefC) (sz := 2) (fun _ => rfl) cs
  have hl : ([] : List (List AV)).length + (cs.map coefC).length ≤ 1048576 := by simp; omega
  simp only [linA, coefsA] at hC
  refine call_pure Try.func47 rfl rfl (by decide +kernel) (by decide +kernel) Try.ntmps47 rfl rfl _ _ _ rfl ?_; rw [RK_KX]
  by_cases h0 : checkF cs n = 0
  · have d0 : (checkF cs n != 0) = false := by simp [h0]
    simp (maxSteps := 1000000) +contextual (disch := first | with_reducible assumption | exact ⟨rfl⟩ | exact ⟨rfl, rfl⟩ | (refine _root_.id ?_; kernel_rfl) | omega) only [evs, ext_mv, nth, put, putT, getT, binInt, binStr, binBool, aUn, outA, resA, mapO, resA1, oneOf, w1, w2, w3, bots, cond_true, cond_false, if_true, if_false, ite_true, ite_false, reduceIte, reduceCtorEq, implies_true, Nat.reduceAdd, Nat.reduceSub, AV.int, AV.bool, AV.str, Nat.reduceBEq, Nat.reduceEqDiff, Nat.reduceMul, Nat.reduceLT, Nat.reduceLeDiff, Int.reduceNeg, BEq.rfl, beq_self_eq_true, tabl, cellsOf, fldA, ldA, stA, entAt, partA, takeN, over, leafOk, Value.oneCell', idxA, nilA, cellsEq, fillA, elemsA, pure1, pure2, reps, chkA, tys, Try.results47, KX_draw, KX_drawQ, KX_tail, lastO_one, lastO_more, dropL_one, dropL_more, callP_eq, callM_true, hC, d0, w2, w1, litA_nil, hr]
    simp [rightF, h0, linA, coefsA]
  · have d0 : (checkF cs n != 0) = true := by simpa using h0
    simp (maxSteps := 1000000) +contextual (disch := first | with_reducible assumption | exact ⟨rfl⟩ | exact ⟨rfl, rfl⟩ | (refine _root_.id ?_; kernel_rfl) | omega) only [evs, ext_mv, nth, put, putT, getT, binInt, binStr, binBool, aUn, outA, resA, mapO, resA1, oneOf, w1, w2, w3, bots, cond_true, cond_false, if_true, if_false, ite_true, ite_false, reduceIte, reduceCtorEq, implies_true, Nat.reduceAdd, Nat.reduceSub, AV.int, AV.bool, AV.str, Nat.reduceBEq, Nat.reduceEqDiff, Nat.reduceMul, Nat.reduceLT, Nat.reduceLeDiff, Int.reduceNeg, BEq.rfl, beq_self_eq_true, tabl, cellsOf, fldA, ldA, stA, entAt, partA, takeN, over, leafOk, Value.oneCell', idxA, nilA, cellsEq, fillA, elemsA, pure1, pure2, reps, chkA, tys, Try.results47, KX_draw, KX_drawQ, KX_tail, lastO_one, lastO_more, dropL_one, dropL_more, callP_eq, callM_true, hC, d0, w2, w1]
    simp [rightF, h0, linA, coefsA]
set_option maxRecDepth 100000 in
theorem R11_Add (a b : List (ByteArray × Int)) (n m : Int) (ha : a.length ≤ 100000) (hb : b.length ≤ 100000) : cL Try.prog 20 [linA a n, linA b m] S tk k = some (.tup [linA (addL a n b m).1.1 (addL a n b m).1.2, .bool (addL a n b m).2], S, tk, k) := by
  have hCa := fun S tk k => R11_Check S tk k a n (by omega)
  have hCb := fun S tk k => R11_Check S tk k b m (by omega)
  simp only [linA, coefsA] at hCa hCb
  refine call_pure Try.func20 rfl rfl (by decide +kernel) (by decide +kernel) Try.ntmps20 rfl rfl _ _ _ rfl ?_; rw [RK_KX]
  by_cases ea : checkF a n = 0
  case neg =>
    have da : (checkF a n != 0) = true := by simpa using ea
    simp (maxSteps := 1000000) +contextual (disch := first | with_reducible assumption | exact ⟨rfl⟩ | exact ⟨rfl, rfl⟩ | (refine _root_.id ?_; kernel_rfl) | omega) only [evs, ext_mv, nth, put, putT, getT, binInt, binStr, binBool, aUn, outA, resA, mapO, resA1, oneOf, w1, w2, w3, bots, cond_true, cond_false, if_true, if_false, ite_true, ite_false, reduceIte, reduceCtorEq, implies_true, Nat.reduceAdd, Nat.reduceSub, AV.int, AV.bool, AV.str, Nat.reduceBEq, Nat.reduceEqDiff, Nat.reduceMul, Nat.reduceLT, Nat.reduceLeDiff, Int.reduceNeg, BEq.rfl, beq_self_eq_true, tabl, cellsOf, fldA, ldA, stA, entAt, partA, takeN, over, leafOk, Value.oneCell', idxA, nilA, cellsEq, fillA, elemsA, pure1, pure2, reps, chkA, tys, Try.results20, KX_draw, KX_drawQ, KX_tail, lastO_one, lastO_more, dropL_one, dropL_more, callP_eq, callM_true, linA, coefsA, hCa, da]
    simp [addL, ea]
  have da : (checkF a n != 0) = false := by simp [ea]
  by_cases eb : checkF b m = 0
  case neg =>
    have db : (checkF b m != 0) = true := by simpa using eb
    simp (maxSteps := 1000000) +contextual (disch := first | with_reducible assumption | exact ⟨rfl⟩ | exact ⟨rfl, rfl⟩ | (refine _root_.id ?_; kernel_rfl) | omega) only [evs, ext_mv, nth, put, putT, getT, binInt, binStr, binBool, aUn, outA, resA, mapO, resA1, oneOf, w1, w2, w3, bots, cond_true, cond_false, if_true, if_false, ite_true, ite_false, reduceIte, reduceCtorEq, implies_true, Nat.reduceAdd, Nat.reduceSub, AV.int, AV.bool, AV.str, Nat.reduceBEq, Nat.reduceEqDiff, Nat.reduceMul, Nat.reduceLT, Nat.reduceLeDiff, Int.reduceNeg, BEq.rfl, beq_self_eq_true, tabl, cellsOf, fldA, ldA, stA, entAt, partA, takeN, over, leafOk, Value.oneCell', idxA, nilA, cellsEq, fillA, elemsA, pure1, pure2, reps, chkA, tys, Try.results20, KX_draw, KX_drawQ, KX_tail, lastO_one, lastO_more, dropL_one, dropL_more, callP_eq, callM_true, linA, coefsA, hCa, da, hCb, db]
    simp [addL, eb]
  have db : (checkF b m != 0) = false := by simp [eb]
  have hw := add_wrap (check_ok ea).2.1 (check_ok eb).2.1
  simp (maxSteps := 1000000) +contextual (disch := first | with_reducible assumption | exact ⟨rfl⟩ | exact ⟨rfl, rfl⟩ | (refine _root_.id ?_; kernel_rfl) | omega) only [evs, ext_mv, nth, put, putT, getT, binInt, binStr, binBool, aUn, outA, resA, mapO, resA1, oneOf, w1, w2, w3, bots, cond_true, cond_false, if_true, if_false, ite_true, ite_false, reduceIte, reduceCtorEq, implies_true, Nat.reduceAdd, Nat.reduceSub, AV.int, AV.bool, AV.str, Nat.reduceBEq, Nat.reduceEqDiff, Nat.reduceMul, Nat.reduceLT, Nat.reduceLeDiff, Int.reduceNeg, BEq.rfl, beq_self_eq_true, tabl, cellsOf, fldA, ldA, stA, entAt, partA, takeN, over, leafOk, Value.oneCell', idxA, nilA, cellsEq, fillA, elemsA, pure1, pure2, reps, chkA, tys, Try.results20, KX_draw, KX_drawQ, KX_tail, lastO_one, lastO_more, dropL_one, dropL_more, callP_eq, callM_true, linA, coefsA, hCa, da, hCb, db, hw]
  have hba := (check_ok ea).1
  have hbb := (check_ok eb).1
  have hadd : addL a n b m = rightF (mergeF a b) (n + m) := by simp [addL, ea, eb]
  rw [hadd]
  clear hadd hCa hCb da db hw
  refine loop1 (P := Try.prog) (fun x st => st.T.length = 146 ∧ (x.1 ≤ a.length) ∧ (x.2.1 ≤ b.length) ∧ (x.2.2.1.length ≤ x.1 + x.2.1) ∧ (okCap st.tk x.2.2.2 2 = true) ∧ (mergeF a b = x.2.2.1 ++ mergeF (a.drop x.1) (b.drop x.2.1)) ∧ getT st.T 2 = .ref 0 0 0 ∧ getT st.T 3 = .ref 1 1 0 ∧ getT st.T 4 = .ref 2 2 0 ∧ getT st.T 6 = .ref 3 3 0 ∧ getT st.T 7 = .int (x.1 : Nat) ∧ getT st.T 8 = .int (x.2.1 : Nat) ∧ st.S = [⟨0, [coefsA a, .int n]⟩, ⟨1, [coefsA b, .int m]⟩, ⟨2, [.frz [] .nilc, .int 0]⟩, ⟨3, [.frz (x.2.2.1.map coefC) x.2.2.2, .int (n + m)]⟩]) (fun x => a.length - x.1 + (b.length - x.2.1)) (fun x => .tup [linA (rightF (mergeF a b) (n + m)).1.1 (rightF (mergeF a b) (n + m)).1.2, .bool (rightF (mergeF a b) (n + m)).2]) (0, 0, [], .nilc) ?_ ?_
  case refine_2 => exact ⟨rfl, Nat.zero_le _, Nat.zero_le _, Nat.le_refl _, rfl, rfl, rfl, rfl, rfl, rfl, rfl, rfl, rfl⟩
  rintro ⟨i, j, o, c⟩ ⟨T, S', tk', n'⟩ ⟨hl, hi, hj, ho, hok, hm, e2, e3, e4, e6, e7, e8, eS⟩ IH
  simp only at hi hj ho hok hm e2 e3 e4 e6 e7 e8 eS
  subst eS
  obtain ⟨g, hg, hT⟩ := tab_of hl
  rw [hg] at e2 e3 e4 e6 e7 e8
  subst hT
  clear hg hl
  have hr := rowsOk_map (f := coefC) (sz := 2) (fun _ => rfl) o
  have hn : (o.map coefC).length + 1 ≤ 1048576 := by simp; omega
  have hok' := okCap_new hok
  by_cases la : i < a.length
  · have d1 : decide ((i : Int) < (a.length : Int)) = true := by simpa using la
    have d1' : ((i : Int) == (a.length : Int)) = false := by simp; omega
    obtain ⟨x, hx⟩ := nth_some la
    have hx' : nth (a.map coefC) i = some (coefC x) := by rw [nth_map, hx]; rfl
    have hwi := wrap_add (i := i) (m := 0) (by omega)
    rw [nth_drop hx] at hm
    by_cases lb : j < b.length
    · have d2 : decide ((j : Int) < (b.length : Int)) = true := by simpa using lb
      have d2' : ((j : Int) == (b.length : Int)) = false := by simp; omega
      obtain ⟨y, hy⟩ := nth_some lb
      have hy' : nth (b.map coefC) j = some (coefC y) := by rw [nth_map, hy]; rfl
      have hwj := wrap_add (i := j) (m := 0) (by omega)
      have hxm : x ∈ a := by rw [nth_get] at hx; exact List.mem_of_getElem? hx
      have hym : y ∈ b := by rw [nth_get] at hy; exact List.mem_of_getElem? hy
      have hws := add_wrap (hba x hxm).1 (hbb y hym).1
      rw [nth_drop hy, mergeF] at hm
      simp (maxSteps := 1000000) +contextual (disch := first | with_reducible assumption | exact ⟨rfl⟩ | exact ⟨rfl, rfl⟩ | (refine _root_.id ?_; kernel_rfl) | omega) only [evs, ext_mv, nth, put, putT, getT, binInt, binStr, binBool, aUn, outA, resA, mapO, resA1, oneOf, w1, w2, w3, bots, cond_true, cond_false, if_true, if_false, ite_true, ite_false, reduceIte, reduceCtorEq, implies_true, Nat.reduceAdd, Nat.reduceSub, AV.int, AV.bool, AV.str, Nat.reduceBEq, Nat.reduceEqDiff, Nat.reduceMul, Nat.reduceLT, Nat.reduceLeDiff, Int.reduceNeg, BEq.rfl, beq_self_eq_true, tabl, cellsOf, fldA, ldA, stA, entAt, partA, takeN, over, leafOk, Value.oneCell', idxA, nilA, cellsEq, fillA, elemsA, pure1, pure2, reps, chkA, tys, Try.results20, KX_draw, KX_drawQ, KX_tail, lastO_one, lastO_more, dropL_one, dropL_more, callP_eq, callM_true, e2, e3, e4, e6, e7, e8, d1, d1', d2, d2', coefsA, hx', hy', hwi, hwj, hws, coefC, hr]
      refine ⟨fun h1 => ?_, fun h1 => ⟨fun h2 => ?_, fun h2 => ⟨fun h3 => ?_, fun h3 => ?_⟩⟩⟩
      · rw [if_pos h1] at hm
        exact IH (i + 1, j, o ++ [x], capNew tk' c 2) _ (by first | omega | (simp only; omega)) ⟨rfl, by first | omega | (dsimp only; omega), hj, by simp; omega, hok', by simp only [hm, nth_drop hy, List.append_assoc, List.cons_append, List.nil_append], (by first | rfl | simp only [getT, List.map_append, List.map_cons, List.map_nil, coefC, coefsA]), (by first | rfl | simp only [getT, List.map_append, List.map_cons, List.map_nil, coefC, coefsA]), (by first | rfl | simp only [getT, List.map_append, List.map_cons, List.map_nil, coefC, coefsA]), (by first | rfl | simp only [getT, List.map_append, List.map_cons, List.map_nil, coefC, coefsA]), (by first | rfl | simp only [getT, List.map_append, List.map_cons, List.map_nil, coefC, coefsA]), (by first | rfl | simp only [getT, List.map_append, List.map_cons, List.map_nil, coefC, coefsA]), (by first | rfl | simp only [getT, List.map_append, List.map_cons, List.map_nil, coefC, coefsA])⟩
      · rw [if_neg (by rw [h1]; simp), if_pos h2] at hm
        exact IH (i, j + 1, o ++ [y], capNew tk' c 2) _ (by first | omega | (simp only; omega)) ⟨rfl, hi, by first | omega | (dsimp only; omega), by simp; omega, hok', by simp only [hm, nth_drop hx, List.append_assoc, List.cons_append, List.nil_append], (by first | rfl | simp only [getT, List.map_append, List.map_cons, List.map_nil, coefC, coefsA]), (by first | rfl | simp only [getT, List.map_append, List.map_cons, List.map_nil, coefC, coefsA]), (by first | rfl | simp only [getT, List.map_append, List.map_cons, List.map_nil, coefC, coefsA]), (by first | rfl | simp only [getT, List.map_append, List.map_cons, List.map_nil, coefC, coefsA]), (by first | rfl | simp only [getT, List.map_append, List.map_cons, List.map_nil, coefC, coefsA]), (by first | rfl | simp only [getT, List.map_append, List.map_cons, List.map_nil, coefC, coefsA]), (by first | rfl | simp only [getT, List.map_append, List.map_cons, List.map_nil, coefC, coefsA])⟩
      · have h3' : ¬ x.2 + y.2 = 0 := by simpa using h3
        rw [if_neg (by rw [h1]; simp), if_neg (by rw [h2]; simp), if_neg h3'] at hm
        exact IH (i + 1, j + 1, o ++ [(x.1, x.2 + y.2)], capNew tk' c 2) _ (by first | omega | (simp only; omega)) ⟨rfl, by first | omega | (dsimp only; omega), by first | omega | (dsimp only; omega), by simp; omega, hok', by simp only [hm, List.append_assoc, List.cons_append, List.nil_append], (by first | rfl | simp only [getT, List.map_append, List.map_cons, List.map_nil, coefC, coefsA]), (by first | rfl | simp only [getT, List.map_append, List.map_cons, List.map_nil, coefC, coefsA]), (by first | rfl | simp only [getT, List.map_append, List.map_cons, List.map_nil, coefC, coefsA]), (by first | rfl | simp only [getT, List.map_append, List.map_cons, List.map_nil, coefC, coefsA]), (by first | rfl | simp only [getT, List.map_append, List.map_cons, List.map_nil, coefC, coefsA]), (by first | rfl | simp only [getT, List.map_append, List.map_cons, List.map_nil, coefC, coefsA]), (by first | rfl | simp only [getT, List.map_append, List.map_cons, List.map_nil, coefC, coefsA])⟩
      · have h3' : x.2 + y.2 = 0 := by simpa using h3
        rw [if_neg (by rw [h1]; simp), if_neg (by rw [h2]; simp), if_pos h3'] at hm
        exact IH (i + 1, j + 1, o, c) _ (by first | omega | (simp only; omega)) ⟨rfl, by first | omega | (dsimp only; omega), by first | omega | (dsimp only; omega), by first | omega | (dsimp only; omega), hok, hm, (by first | rfl | simp only [getT, List.map_append, List.map_cons, List.map_nil, coefC, coefsA]), (by first | rfl | simp only [getT, List.map_append, List.map_cons, List.map_nil, coefC, coefsA]), (by first | rfl | simp only [getT, List.map_append, List.map_cons, List.map_nil, coefC, coefsA]), (by first | rfl | simp only [getT, List.map_append, List.map_cons, List.map_nil, coefC, coefsA]), (by first | rfl | simp only [getT, List.map_append, List.map_cons, List.map_nil, coefC, coefsA]), (by first | rfl | simp only [getT, List.map_append, List.map_cons, List.map_nil, coefC, coefsA]), (by first | rfl | simp only [getT, List.map_append, List.map_cons, List.map_nil, coefC, coefsA])⟩
    · have d2 : decide ((j : Int) < (b.length : Int)) = false := by simpa using lb
      have hj2 : j = b.length := by omega
      have d2' : ((j : Int) == (b.length : Int)) = true := by simp; omega
      rw [hj2, List.drop_length, mergeF_right] at hm
      simp (maxSteps := 1000000) +contextual (disch := first | with_reducible assumption | exact ⟨rfl⟩ | exact ⟨rfl, rfl⟩ | (refine _root_.id ?_; kernel_rfl) | omega) only [evs, ext_mv, nth, put, putT, getT, binInt, binStr, binBool, aUn, outA, resA, mapO, resA1, oneOf, w1, w2, w3, bots, cond_true, cond_false, if_true, if_false, ite_true, ite_false, reduceIte, reduceCtorEq, implies_true, Nat.reduceAdd, Nat.reduceSub, AV.int, AV.bool, AV.str, Nat.reduceBEq, Nat.reduceEqDiff, Nat.reduceMul, Nat.reduceLT, Nat.reduceLeDiff, Int.reduceNeg, BEq.rfl, beq_self_eq_true, tabl, cellsOf, fldA, ldA, stA, entAt, partA, takeN, over, leafOk, Value.oneCell', idxA, nilA, cellsEq, fillA, elemsA, pure1, pure2, reps, chkA, tys, Try.results20, KX_draw, KX_drawQ, KX_tail, lastO_one, lastO_more, dropL_one, dropL_more, callP_eq, callM_true, e2, e3, e4, e6, e7, e8, d1, d1', d2, d2', coefsA, hx', hwi, coefC, hr]
      exact IH (i + 1, j, o ++ [x], capNew tk' c 2) _ (by first | omega | (simp only; omega)) ⟨rfl, by first | omega | (dsimp only; omega), hj, by simp; omega, hok', by simp only [hj2, hm, List.drop_length, mergeF_right, List.append_assoc, List.cons_append, List.nil_append], (by first | rfl | simp only [getT, List.map_append, List.map_cons, List.map_nil, coefC, coefsA]), (by first | rfl | simp only [getT, List.map_append, List.map_cons, List.map_nil, coefC, coefsA]), (by first | rfl | simp only [getT, List.map_append, List.map_cons, List.map_nil, coefC, coefsA]), (by first | rfl | simp only [getT, List.map_append, List.map_cons, List.map_nil, coefC, coefsA]), (by first | rfl | simp only [getT, List.map_append, List.map_cons, List.map_nil, coefC, coefsA]), (by first | rfl | simp only [getT, List.map_append, List.map_cons, List.map_nil, coefC, coefsA]), (by first | rfl | simp only [getT, List.map_append, List.map_cons, List.map_nil, coefC, coefsA])⟩
  · have d1 : decide ((i : Int) < (a.length : Int)) = false := by simpa using la
    have hi2 : i = a.length := by omega
    have d1' : ((i : Int) == (a.length : Int)) = true := by simp; omega
    rw [hi2, List.drop_length, mergeF_nil] at hm
    by_cases lb : j < b.length
    · have d2 : decide ((j : Int) < (b.length : Int)) = true := by simpa using lb
      have d2' : ((j : Int) == (b.length : Int)) = false := by simp; omega
      obtain ⟨y, hy⟩ := nth_some lb
      have hy' : nth (b.map coefC) j = some (coefC y) := by rw [nth_map, hy]; rfl
      have hwj := wrap_add (i := j) (m := 0) (by omega)
      rw [nth_drop hy] at hm
      simp (maxSteps := 1000000) +contextual (disch := first | with_reducible assumption | exact ⟨rfl⟩ | exact ⟨rfl, rfl⟩ | (refine _root_.id ?_; kernel_rfl) | omega) only [evs, ext_mv, nth, put, putT, getT, binInt, binStr, binBool, aUn, outA, resA, mapO, resA1, oneOf, w1, w2, w3, bots, cond_true, cond_false, if_true, if_false, ite_true, ite_false, reduceIte, reduceCtorEq, implies_true, Nat.reduceAdd, Nat.reduceSub, AV.int, AV.bool, AV.str, Nat.reduceBEq, Nat.reduceEqDiff, Nat.reduceMul, Nat.reduceLT, Nat.reduceLeDiff, Int.reduceNeg, BEq.rfl, beq_self_eq_true, tabl, cellsOf, fldA, ldA, stA, entAt, partA, takeN, over, leafOk, Value.oneCell', idxA, nilA, cellsEq, fillA, elemsA, pure1, pure2, reps, chkA, tys, Try.results20, KX_draw, KX_drawQ, KX_tail, lastO_one, lastO_more, dropL_one, dropL_more, callP_eq, callM_true, e2, e3, e4, e6, e7, e8, d1, d1', d2, d2', coefsA, hy', hwj, coefC, hr]
      exact IH (i, j + 1, o ++ [y], capNew tk' c 2) _ (by first | omega | (simp only; omega)) ⟨rfl, hi, by first | omega | (dsimp only; omega), by simp; omega, hok', by simp only [hi2, hm, List.drop_length, mergeF_nil, List.append_assoc, List.cons_append, List.nil_append], (by first | rfl | simp only [getT, List.map_append, List.map_cons, List.map_nil, coefC, coefsA]), (by first | rfl | simp only [getT, List.map_append, List.map_cons, List.map_nil, coefC, coefsA]), (by first | rfl | simp only [getT, List.map_append, List.map_cons, List.map_nil, coefC, coefsA]), (by first | rfl | simp only [getT, List.map_append, List.map_cons, List.map_nil, coefC, coefsA]), (by first | rfl | simp only [getT, List.map_append, List.map_cons, List.map_nil, coefC, coefsA]), (by first | rfl | simp only [getT, List.map_append, List.map_cons, List.map_nil, coefC, coefsA]), (by first | rfl | simp only [getT, List.map_append, List.map_cons, List.map_nil, coefC, coefsA])⟩
    · have d2 : decide ((j : Int) < (b.length : Int)) = false := by simpa using lb
      have hj2 : j = b.length := by omega
      rw [hj2, List.drop_length, List.append_nil] at hm
      have hR := fun S tk k => R11_right S tk k o (n + m) c (by omega)
      simp (maxSteps := 1000000) +contextual (disch := first | with_reducible assumption | exact ⟨rfl⟩ | exact ⟨rfl, rfl⟩ | (refine _root_.id ?_; kernel_rfl) | omega) only [evs, ext_mv, nth, put, putT, getT, binInt, binStr, binBool, aUn, outA, resA, mapO, resA1, oneOf, w1, w2, w3, bots, cond_true, cond_false, if_true, if_false, ite_true, ite_false, reduceIte, reduceCtorEq, implies_true, Nat.reduceAdd, Nat.reduceSub, AV.int, AV.bool, AV.str, Nat.reduceBEq, Nat.reduceEqDiff, Nat.reduceMul, Nat.reduceLT, Nat.reduceLeDiff, Int.reduceNeg, BEq.rfl, beq_self_eq_true, tabl, cellsOf, fldA, ldA, stA, entAt, partA, takeN, over, leafOk, Value.oneCell', idxA, nilA, cellsEq, fillA, elemsA, pure1, pure2, reps, chkA, tys, Try.results20, KX_draw, KX_drawQ, KX_tail, lastO_one, lastO_more, dropL_one, dropL_more, callP_eq, callM_true, e2, e3, e4, e6, e7, e8, d1, d2, coefsA, linA, hR]
      rw [hm]
      simp [linA, coefsA]
def mulC (q : Int) (c : ByteArray × Int) : ByteArray × Int := (c.1, (mulS c.2 q).1)
def scaleF (cs : List (ByteArray × Int)) (n q : Int) : (List (ByteArray × Int) × Int) × Bool :=
  if checkF cs n = 0 then
    if q = 0 then (([], 0), true)
    else if inB q = true then (if (mulS n q).2 = true ∧ (cs.all fun c => (mulS c.2 q).2) = true then ((cs.map (mulC q), (mulS n q).1), true) else (([], 0), false))
    else (([], 0), decide (cs = []) && (n == 0))
  else (([], 0), false)
theorem scale_fn (q : Int) (c : ByteArray × Int) (id ep : Nat) (h : entAt S id ep = some [.int q]) : cL Try.prog 50 [.agg (coefC c), .ref id ep 0] S tk k = some (.tup [.agg (coefC (mulC q c)), .bool (mulS c.2 q).2], S, tk, k + 2) := by
  refine call_shared Try.func50 rfl rfl (by decide +kernel) Try.ntmps50 rfl ?_; rw [RK_KX]
  simp (maxSteps := 1000000) +contextual (disch := first | with_reducible assumption | exact ⟨rfl⟩ | exact ⟨rfl, rfl⟩ | (refine _root_.id ?_; kernel_rfl) | omega) only [evs, ext_mv, nth, put, putT, getT, binInt, binStr, binBool, aUn, outA, resA, mapO, resA1, oneOf, w1, w2, w3, bots, cond_true, cond_false, if_true, if_false, ite_true, ite_false, reduceIte, reduceCtorEq, implies_true, Nat.reduceAdd, Nat.reduceSub, AV.int, AV.bool, AV.str, Nat.reduceBEq, Nat.reduceEqDiff, Nat.reduceMul, Nat.reduceLT, Nat.reduceLeDiff, Int.reduceNeg, BEq.rfl, beq_self_eq_true, tabl, cellsOf, fldA, ldA, stA, entAt_new, entAt_old, entAt_old2, List.take_left, List.take_length, partA, takeN, over, leafOk, Value.oneCell', idxA, nilA, cellsEq, fillA, elemsA, pure1, pure2, reps, chkA, tys, Try.results50, KX_draw, KX_drawQ, KX_tail, lastO_one, lastO_more, dropL_one, dropL_more, callP_eq, callM_true, coefC, h, num_Mul, mulC]
def eachR (q : Int) : List (ByteArray × Int) → List (ByteArray × Int) → Cap → List Nat → Nat → AV × List Nat × Nat
  | [], acc, c, tk, n => (.tup [.frz (acc.map coefC) c, .bool true], tk, n)
  | x :: r, acc, c, tk, n => if (mulS x.2 q).2 = true then eachR q r (acc ++ [mulC q x]) (capNew tk c 2) (capPut tk c) (n + 4) else (.tup [.frz [] .nilc, .bool false], tk, n + 4)
theorem eachR_ok (q : Int) : ∀ (l acc : List (ByteArray × Int)) (c : Cap) (tk : List Nat) (n : Nat), (l.all fun c => (mulS c.2 q).2) = true → ∃ c' tk' n', eachR q l acc c tk n = (.tup [.frz ((acc ++ l.map (mulC q)).map coefC) c', .bool true], tk', n')
  | [], acc, c, tk, n, _ => ⟨c, tk, n, by simp [eachR]⟩
  | x :: r, acc, c, tk, n, h => by
    simp only [List.all_cons, Bool.and_eq_true] at h
    obtain ⟨c', tk', n', e⟩ := eachR_ok q r (acc ++ [mulC q x]) (capNew tk c 2) (capPut tk c) (n + 4) h.2
    exact ⟨c', tk', n', by rw [eachR, if_pos h.1, e]; simp⟩
theorem eachR_no (q : Int) : ∀ (l acc : List (ByteArray × Int)) (c : Cap) (tk : List Nat) (n : Nat), (l.all fun c => (mulS c.2 q).2) = false → ∃ tk' n', eachR q l acc c tk n = (.tup [.frz [] .nilc, .bool false], tk', n')
  | [], acc, c, tk, n, h => by simp at h
  | x :: r, acc, c, tk, n, h => by
    rw [eachR]
    by_cases hx : (mulS x.2 q).2 = true
    · rw [if_pos hx]
      exact eachR_no q r _ _ _ _ (by simpa [hx] using h)
    · rw [if_neg hx]; exact ⟨_, _, rfl⟩
set_option maxRecDepth 100000 in
theorem each_scale (q : Int) (cs : List (ByteArray × Int)) (id ep : Nat) (hlen : cs.length ≤ 1048576) (h : entAt S id ep = some [.int q]) :
    cL Try.prog 49 [coefsA cs, .fn 50 [.ref id ep 0]] S tk k = some ((eachR q cs [] .nilc tk k).1, S, (eachR q cs [] .nilc tk k).2.1, (eachR q cs [] .nilc tk k).2.2) := by
  refine call_shared Try.func49 rfl rfl (by decide +kernel) Try.ntmps49 rfl ?_; rw [RK_KX]
  simp (maxSteps := 1000000) +contextual (disch := first | with_reducible assumption | exact ⟨rfl⟩ | exact ⟨rfl, rfl⟩ | (refine _root_.id ?_; kernel_rfl) | omega) only [evs, ext_mv, nth, put, putT, getT, binInt, binStr, binBool, aUn, outA, resA, mapO, resA1, oneOf, w1, w2, w3, bots, cond_true, cond_false, if_true, if_false, ite_true, ite_false, reduceIte, reduceCtorEq, implies_true, Nat.reduceAdd, Nat.reduceSub, AV.int, AV.bool, AV.str, Nat.reduceBEq, Nat.reduceEqDiff, Nat.reduceMul, Nat.reduceLT, Nat.reduceLeDiff, Int.reduceNeg, BEq.rfl, beq_self_eq_true, tabl, cellsOf, fldA, ldA, stA, entAt_new, entAt_old, entAt_old2, List.take_left, List.take_length, partA, takeN, over, leafOk, Value.oneCell', idxA, nilA, cellsEq, fillA, elemsA, pure1, pure2, reps, chkA, tys, Try.results49, KX_draw, KX_drawQ, KX_tail, lastO_one, lastO_more, dropL_one, dropL_more, callP_eq, callM_true, coefsA]
  refine loopS (P := Try.prog) (fun x st => st.T.length = 31 ∧ (x.1 ≤ cs.length) ∧ (x.2.1.length ≤ x.1) ∧ (okCap x.2.2.2.1 x.2.2.1 2 = true) ∧ getT st.T 1 = .fn 50 [.ref id ep 0] ∧ getT st.T 6 = .frz (x.2.1.map coefC) x.2.2.1 ∧ getT st.T 11 = coefsA cs ∧ getT st.T 12 = .int cs.length ∧ getT st.T 13 = .int (x.1 : Nat) ∧ st.S = S ∧ st.tk = x.2.2.2.1 ∧ st.n = x.2.2.2.2) (fun x => cs.length - x.1) (fun x => ((eachR q (cs.drop x.1) x.2.1 x.2.2.1 x.2.2.2.1 x.2.2.2.2).1, S, (eachR q (cs.drop x.1) x.2.1 x.2.2.1 x.2.2.2.1 x.2.2.2.2).2.1, (eachR q (cs.drop x.1) x.2.1 x.2.2.1 x.2.2.2.1 x.2.2.2.2).2.2)) (0, [], .nilc, tk, k) ?_ ?_
  case refine_2 => exact ⟨rfl, Nat.zero_le _, Nat.le_refl _, rfl, rfl, rfl, rfl, rfl, rfl, rfl, rfl, rfl⟩
  rintro ⟨i, o, c, t, m⟩ ⟨T, S', tk', n'⟩ ⟨hl, hi, ho, hok, e1, e6, e11, e12, e13, eS, eT, eN⟩ IH
  simp only at hi ho hok e1 e6 e11 e12 e13 eS eT eN
  subst eS eT eN
  obtain ⟨g, hg, hT⟩ := tab_of hl
  rw [hg] at e1 e6 e11 e12 e13
  subst hT
  clear hg hl
  by_cases hlt : i < cs.length
  · have d1 : decide ((i : Int) < (cs.length : Int)) = true := by simpa using hlt
    obtain ⟨x, hc⟩ := nth_some hlt
    have hc' : nth (cs.map coefC) i = some (coefC x) := by rw [nth_map, hc]; rfl
    have hw := wrap_add (i := i) (m := 0) (by omega)
    have hf := fun e tk k => scale_fn (S' ++ [e]) tk k q x id ep (entAt_old h)
    have hr := rowsOk_map (f := coefC) (sz := 2) (fun _ => rfl) o
    have hn : (o.map coefC).length + 1 ≤ 1048576 := by simp; omega
    have hok' := okCap_new hok
    simp only [coefC] at hf hc'
    rw [nth_drop hc]
    by_cases hx : (mulS x.2 q).2 = true
    · rw [eachR, if_pos hx]
      simp (maxSteps := 1000000) +contextual (disch := first | with_reducible assumption | exact ⟨rfl⟩ | exact ⟨rfl, rfl⟩ | (refine _root_.id ?_; kernel_rfl) | omega) only [evs, ext_mv, nth, put, putT, getT, binInt, binStr, binBool, aUn, outA, resA, mapO, resA1, oneOf, w1, w2, w3, bots, cond_true, cond_false, if_true, if_false, ite_true, ite_false, reduceIte, reduceCtorEq, implies_true, Nat.reduceAdd, Nat.reduceSub, AV.int, AV.bool, AV.str, Nat.reduceBEq, Nat.reduceEqDiff, Nat.reduceMul, Nat.reduceLT, Nat.reduceLeDiff, Int.reduceNeg, BEq.rfl, beq_self_eq_true, tabl, cellsOf, fldA, ldA, stA, entAt_new, entAt_old, entAt_old2, List.take_left, List.take_length, partA, takeN, over, leafOk, Value.oneCell', idxA, nilA, cellsEq, fillA, elemsA, pure1, pure2, reps, chkA, tys, Try.results49, KX_draw, KX_drawQ, KX_tail, lastO_one, lastO_more, dropL_one, dropL_more, callP_eq, callM_true, e1, e6, e11, e12, e13, d1, coefsA, hc', hw, hf, coefC, hx]
      exact IH (i + 1, o ++ [mulC q x], capNew tk' c 2, capPut tk' c, n' + 4) _ (by first | omega | (simp only; omega)) ⟨rfl, hlt, by simp; omega, hok', (by first | rfl | simp only [getT, List.map_append, List.map_cons, List.map_nil, coefC, coefsA]), (by first | rfl | simp only [getT, List.map_append, List.map_cons, List.map_nil, coefC, coefsA]), (by first | rfl | simp only [getT, List.map_append, List.map_cons, List.map_nil, coefC, coefsA]), (by first | rfl | simp only [getT, List.map_append, List.map_cons, List.map_nil, coefC, coefsA]), (by first | rfl | simp only [getT, List.map_append, List.map_cons, List.map_nil, coefC, coefsA]), (by first | rfl | simp only [getT, List.map_append, List.map_cons, List.map_nil, coefC, coefsA]), rfl, rfl⟩
    · rw [eachR, if_neg hx]
      have hx' : (mulS x.2 q).2 = false := by simpa using hx
      simp (maxSteps := 1000000) +contextual (disch := first | with_reducible assumption | exact ⟨rfl⟩ | exact ⟨rfl, rfl⟩ | (refine _root_.id ?_; kernel_rfl) | omega) only [evs, ext_mv, nth, put, putT, getT, binInt, binStr, binBool, aUn, outA, resA, mapO, resA1, oneOf, w1, w2, w3, bots, cond_true, cond_false, if_true, if_false, ite_true, ite_false, reduceIte, reduceCtorEq, implies_true, Nat.reduceAdd, Nat.reduceSub, AV.int, AV.bool, AV.str, Nat.reduceBEq, Nat.reduceEqDiff, Nat.reduceMul, Nat.reduceLT, Nat.reduceLeDiff, Int.reduceNeg, BEq.rfl, beq_self_eq_true, tabl, cellsOf, fldA, ldA, stA, entAt_new, entAt_old, entAt_old2, List.take_left, List.take_length, partA, takeN, over, leafOk, Value.oneCell', idxA, nilA, cellsEq, fillA, elemsA, pure1, pure2, reps, chkA, tys, Try.results49, KX_draw, KX_drawQ, KX_tail, lastO_one, lastO_more, dropL_one, dropL_more, callP_eq, callM_true, e1, e6, e11, e12, e13, d1, coefsA, hc', hw, hf, coefC, hx']
  · have d1 : decide ((i : Int) < (cs.length : Int)) = false := by simpa using hlt
    have he : i = cs.length := by omega
    simp (maxSteps := 1000000) +contextual (disch := first | with_reducible assumption | exact ⟨rfl⟩ | exact ⟨rfl, rfl⟩ | (refine _root_.id ?_; kernel_rfl) | omega) only [evs, ext_mv, nth, put, putT, getT, binInt, binStr, binBool, aUn, outA, resA, mapO, resA1, oneOf, w1, w2, w3, bots, cond_true, cond_false, if_true, if_false, ite_true, ite_false, reduceIte, reduceCtorEq, implies_true, Nat.reduceAdd, Nat.reduceSub, AV.int, AV.bool, AV.str, Nat.reduceBEq, Nat.reduceEqDiff, Nat.reduceMul, Nat.reduceLT, Nat.reduceLeDiff, Int.reduceNeg, BEq.rfl, beq_self_eq_true, tabl, cellsOf, fldA, ldA, stA, entAt_new, entAt_old, entAt_old2, List.take_left, List.take_length, partA, takeN, over, leafOk, Value.oneCell', idxA, nilA, cellsEq, fillA, elemsA, pure1, pure2, reps, chkA, tys, Try.results49, KX_draw, KX_drawQ, KX_tail, lastO_one, lastO_more, dropL_one, dropL_more, callP_eq, callM_true, e1, e6, e11, e12, e13, d1, coefsA]
    rw [he, List.drop_length]; simp [eachR]
end
end Go.Proofs.Ytkghgdkkholieaa
/-
  The examples that the laws of the linear forms check: all as said.
-/

namespace Go.Proofs.Ytkghgdkkholieaa
open Go
theorem awake_run : evF Try.prog drawOk 60 9 [] [] [] 0 = some (.prim (.bool true), [], [], 0) := by kernel_rfl
theorem L11_awake (S : List Ent) (tk : List Nat) (k : Nat) : cL Try.prog 9 [] S tk k = some (.bool true, S, tk, k) := cL_closed awake_run rfl rfl S tk k
end Go.Proofs.Ytkghgdkkholieaa
/-
  The law LinearValues, as the evaluator sees it: true of every form and every point.
-/


namespace Go.Proofs.Ytkghgdkkholieaa
open Go

def smallFrom : Nat → List (ByteArray × Int) → Bool
  | _, [] => true
  | i, c :: r => if decide ((i : Int) ≥ 40) || decide ((c.1.size : Int) > 500) then false else smallFrom (i + 1) r
theorem small_len : ∀ {l : List (ByteArray × Int)} {i : Nat}, smallFrom i l = true → l.length ≤ 40 - i ∨ l = []
  | [], _, _ => .inr rfl
  | c :: r, i, h => by
    simp only [smallFrom] at h
    split at h
    · simp at h
    · rename_i hn
      simp only [Bool.or_eq_true, decide_eq_true_eq, not_or] at hn
      left
      rcases small_len h with h' | h'
      · simp; omega
      · subst h'; simp; omega
section
variable (S : List Ent) (tk : List Nat) (k : Nat)
theorem L11_small (cs : List (ByteArray × Int)) (n : Int) : cL Try.prog 8 [linA cs n] S tk k = some (.bool (smallFrom 0 cs), S, tk, k) := by
  refine call_pure Try.func8 rfl rfl (by decide +kernel) (by decide +kernel) Try.ntmps8 rfl rfl _ _ _ rfl ?_; rw [RK_KX]
  simp (maxSteps := 1000000) +contextual (disch := first | with_reducible assumption | exact ⟨rfl⟩ | exact ⟨rfl, rfl⟩ | (refine _root_.id ?_; kernel_rfl) | omega) only [evs, ext_mv, nth, put, putT, getT, binInt, binStr, binBool, aUn, outA, resA, mapO, resA1, oneOf, w1, w2, w3, bots, cond_true, cond_false, if_true, if_false, ite_true, ite_false, reduceIte, reduceCtorEq, implies_true, Nat.reduceAdd, Nat.reduceSub, AV.int, AV.bool, AV.str, Nat.reduceBEq, Nat.reduceEqDiff, Nat.reduceMul, Nat.reduceLT, Nat.reduceLeDiff, Int.reduceNeg, BEq.rfl, beq_self_eq_true, tabl, cellsOf, fldA, ldA, stA, entAt, partA, takeN, over, leafOk, Value.oneCell', idxA, nilA, cellsEq, fillA, elemsA, pure1, pure2, reps, chkA, tys, Try.results8, KX_draw, KX_drawQ, KX_tail, lastO_one, lastO_more, dropL_one, dropL_more, callP_eq, callM_true, linA, coefsA]
  refine loop1 (P := Try.prog) (fun i st => st.T.length = 23 ∧ i ≤ cs.length ∧ i ≤ 40 ∧ getT st.T 1 = .ref 0 0 0 ∧ getT st.T 3 = .int (i : Nat) ∧ st.S = [⟨0, [coefsA cs, .int n]⟩]) (fun i => cs.length - i) (fun i => .bool (smallFrom i (cs.drop i))) 0 ?_ ?_
  case refine_2 => exact ⟨rfl, Nat.zero_le _, by omega, rfl, rfl, rfl⟩
  rintro i ⟨T, S', tk', n'⟩ ⟨hl, hi, hi40, e1, e3, rfl⟩ IH
  obtain ⟨g, hg, hT⟩ := tab_of hl
  rw [hg] at e1 e3
  subst hT
  clear hg hl
  by_cases hlt : i < cs.length
  · have d1 : decide ((i : Int) < (cs.length : Int)) = true := by simpa using hlt
    obtain ⟨c, hc⟩ := nth_some hlt
    have hc' : nth (cs.map coefC) i = some (coefC c) := by rw [nth_map, hc]; rfl
    have hw := wrap_add (i := i) (m := 0) (by omega)
    rw [nth_drop hc]
    simp (maxSteps := 1000000) +contextual (disch := first | with_reducible assumption | exact ⟨rfl⟩ | exact ⟨rfl, rfl⟩ | (refine _root_.id ?_; kernel_rfl) | omega) only [evs, ext_mv, nth, put, putT, getT, binInt, binStr, binBool, aUn, outA, resA, mapO, resA1, oneOf, w1, w2, w3, bots, cond_true, cond_false, if_true, if_false, ite_true, ite_false, reduceIte, reduceCtorEq, implies_true, Nat.reduceAdd, Nat.reduceSub, AV.int, AV.bool, AV.str, Nat.reduceBEq, Nat.reduceEqDiff, Nat.reduceMul, Nat.reduceLT, Nat.reduceLeDiff, Int.reduceNeg, BEq.rfl, beq_self_eq_true, tabl, cellsOf, fldA, ldA, stA, entAt, partA, takeN, over, leafOk, Value.oneCell', idxA, nilA, cellsEq, fillA, elemsA, pure1, pure2, reps, chkA, tys, Try.results8, KX_draw, KX_drawQ, KX_tail, lastO_one, lastO_more, dropL_one, dropL_more, callP_eq, callM_true, e1, e3, d1, coefsA, hc', hw, coefC]
    refine ⟨fun h1 => by simp only [smallFrom, h1]; rfl, fun h1 => ⟨fun h2 => by simp only [smallFrom, h1, h2]; rfl, fun h2 => ?_⟩⟩
    rw [IH (i + 1) _ (by omega) ⟨rfl, hlt, by simp at h1; omega, rfl, rfl, rfl⟩]
    simp only [smallFrom, h1, h2]; rfl
  · have d1 : decide ((i : Int) < (cs.length : Int)) = false := by simpa using hlt
    have he : i = cs.length := by omega
    simp (maxSteps := 1000000) +contextual (disch := first | with_reducible assumption | exact ⟨rfl⟩ | exact ⟨rfl, rfl⟩ | (refine _root_.id ?_; kernel_rfl) | omega) only [evs, ext_mv, nth, put, putT, getT, binInt, binStr, binBool, aUn, outA, resA, mapO, resA1, oneOf, w1, w2, w3, bots, cond_true, cond_false, if_true, if_false, ite_true, ite_false, reduceIte, reduceCtorEq, implies_true, Nat.reduceAdd, Nat.reduceSub, AV.int, AV.bool, AV.str, Nat.reduceBEq, Nat.reduceEqDiff, Nat.reduceMul, Nat.reduceLT, Nat.reduceLeDiff, Int.reduceNeg, BEq.rfl, beq_self_eq_true, tabl, cellsOf, fldA, ldA, stA, entAt, partA, takeN, over, leafOk, Value.oneCell', idxA, nilA, cellsEq, fillA, elemsA, pure1, pure2, reps, chkA, tys, Try.results8, KX_draw, KX_drawQ, KX_tail, lastO_one, lastO_more, dropL_one, dropL_more, callP_eq, callM_true, e1, e3, d1, coefsA]
    rw [he, List.drop_length]; rfl
theorem L11_LinearValues (cs : List (ByteArray × Int)) (n : Int) (pt : List (ByteArray × Int)) : cL Try.prog 4 [linA cs n, coefsA pt] S tk k = some (.bool true, S, tk, k) := by
  refine call_pure Try.func4 rfl rfl (by decide +kernel) (by decide +kernel) Try.ntmps4 rfl rfl _ _ _ rfl ?_; rw [RK_KX]
  simp (maxSteps := 1000000) +contextual (disch := first | with_reducible assumption | exact ⟨rfl⟩ | exact ⟨rfl, rfl⟩ | (refine _root_.id ?_; kernel_rfl) | omega) only [evs, ext_mv, nth, put, putT, getT, binInt, binStr, binBool, aUn, outA, resA, mapO, resA1, oneOf, w1, w2, w3, bots, cond_true, cond_false, if_true, if_false, ite_true, ite_false, reduceIte, reduceCtorEq, implies_true, Nat.reduceAdd, Nat.reduceSub, AV.int, AV.bool, AV.str, Nat.reduceBEq, Nat.reduceEqDiff, Nat.reduceMul, Nat.reduceLT, Nat.reduceLeDiff, Int.reduceNeg, BEq.rfl, beq_self_eq_true, tabl, cellsOf, fldA, ldA, stA, entAt, partA, takeN, over, leafOk, Value.oneCell', idxA, nilA, cellsEq, fillA, elemsA, pure1, pure2, reps, chkA, tys, Try.results4, KX_draw, KX_drawQ, KX_tail, lastO_one, lastO_more, dropL_one, dropL_more, callP_eq, callM_true, linA, coefsA]
  refine loop1 (P := Try.prog) (fun i st => st.T.length = 55 ∧ i ≤ pt.length ∧ i ≤ 60 ∧ getT st.T 1 = coefsA pt ∧ getT st.T 2 = .ref 0 0 0 ∧ getT st.T 5 = .int (i : Nat) ∧ st.S = [⟨0, [coefsA cs, .int n]⟩]) (fun i => pt.length - i) (fun _ => .bool true) 0 ?_ ?_
  case refine_2 => exact ⟨rfl, Nat.zero_le _, by omega, rfl, rfl, rfl, rfl⟩
  rintro i ⟨T, S', tk', n'⟩ ⟨hl, hi, hi60, e1, e2, e5, rfl⟩ IH
  obtain ⟨g, hg, hT⟩ := tab_of hl
  rw [hg] at e1 e2 e5
  subst hT
  clear hg hl
  by_cases hlt : i < pt.length
  · have d1 : decide ((i : Int) < (pt.length : Int)) = true := by simpa using hlt
    obtain ⟨c, hc⟩ := nth_some hlt
    have hc' : nth (pt.map coefC) i = some (coefC c) := by rw [nth_map, hc]; rfl
    have hw := wrap_add (i := i) (m := 0) (by omega)
    simp (maxSteps := 1000000) +contextual (disch := first | with_reducible assumption | exact ⟨rfl⟩ | exact ⟨rfl, rfl⟩ | (refine _root_.id ?_; kernel_rfl) | omega) only [evs, ext_mv, nth, put, putT, getT, binInt, binStr, binBool, aUn, outA, resA, mapO, resA1, oneOf, w1, w2, w3, bots, cond_true, cond_false, if_true, if_false, ite_true, ite_false, reduceIte, reduceCtorEq, implies_true, Nat.reduceAdd, Nat.reduceSub, AV.int, AV.bool, AV.str, Nat.reduceBEq, Nat.reduceEqDiff, Nat.reduceMul, Nat.reduceLT, Nat.reduceLeDiff, Int.reduceNeg, BEq.rfl, beq_self_eq_true, tabl, cellsOf, fldA, ldA, stA, entAt, partA, takeN, over, leafOk, Value.oneCell', idxA, nilA, cellsEq, fillA, elemsA, pure1, pure2, reps, chkA, tys, Try.results4, KX_draw, KX_drawQ, KX_tail, lastO_one, lastO_more, dropL_one, dropL_more, callP_eq, callM_true, e1, e2, e5, d1, coefsA, hc', hw, coefC, L11_awake]
    refine fun h1 h2 => ?_
    exact IH (i + 1) _ (by omega) ⟨rfl, hlt, by simp at h1; omega, rfl, rfl, rfl, rfl⟩
  · have d1 : decide ((i : Int) < (pt.length : Int)) = false := by simpa using hlt
    have hS := fun S tk k => L11_small S tk k cs n
    simp only [linA, coefsA] at hS
    by_cases hsm : smallFrom 0 cs = true
    · have hlen : cs.length ≤ 1048576 := by
        rcases small_len hsm with h | h
        · omega
        · subst h; simp
      have hP := fun S tk k => linear_Value S tk k cs n pt hlen (by omega)
      have hR := fun S tk k => R11_Value S tk k cs n pt hlen (by omega)
      simp only [linA, coefsA] at hP hR
      simp (maxSteps := 1000000) +contextual (disch := first | with_reducible assumption | exact ⟨rfl⟩ | exact ⟨rfl, rfl⟩ | (refine _root_.id ?_; kernel_rfl) | omega) only [evs, ext_mv, nth, put, putT, getT, binInt, binStr, binBool, aUn, outA, resA, mapO, resA1, oneOf, w1, w2, w3, bots, cond_true, cond_false, if_true, if_false, ite_true, ite_false, reduceIte, reduceCtorEq, implies_true, Nat.reduceAdd, Nat.reduceSub, AV.int, AV.bool, AV.str, Nat.reduceBEq, Nat.reduceEqDiff, Nat.reduceMul, Nat.reduceLT, Nat.reduceLeDiff, Int.reduceNeg, BEq.rfl, beq_self_eq_true, tabl, cellsOf, fldA, ldA, stA, entAt, partA, takeN, over, leafOk, Value.oneCell', idxA, nilA, cellsEq, fillA, elemsA, pure1, pure2, reps, chkA, tys, Try.results4, KX_draw, KX_drawQ, KX_tail, lastO_one, lastO_more, dropL_one, dropL_more, callP_eq, callM_true, e1, e2, e5, d1, coefsA, L11_awake, hS, hsm, hP, hR]
    · have hsm' : smallFrom 0 cs = false := by simpa using hsm
      simp (maxSteps := 1000000) +contextual (disch := first | with_reducible assumption | exact ⟨rfl⟩ | exact ⟨rfl, rfl⟩ | (refine _root_.id ?_; kernel_rfl) | omega) only [evs, ext_mv, nth, put, putT, getT, binInt, binStr, binBool, aUn, outA, resA, mapO, resA1, oneOf, w1, w2, w3, bots, cond_true, cond_false, if_true, if_false, ite_true, ite_false, reduceIte, reduceCtorEq, implies_true, Nat.reduceAdd, Nat.reduceSub, AV.int, AV.bool, AV.str, Nat.reduceBEq, Nat.reduceEqDiff, Nat.reduceMul, Nat.reduceLT, Nat.reduceLeDiff, Int.reduceNeg, BEq.rfl, beq_self_eq_true, tabl, cellsOf, fldA, ldA, stA, entAt, partA, takeN, over, leafOk, Value.oneCell', idxA, nilA, cellsEq, fillA, elemsA, pure1, pure2, reps, chkA, tys, Try.results4, KX_draw, KX_drawQ, KX_tail, lastO_one, lastO_more, dropL_one, dropL_more, callP_eq, callM_true, e1, e2, e5, d1, coefsA, L11_awake, hS, hsm']
end
end Go.Proofs.Ytkghgdkkholieaa
/-
  Multiples of forms, and when forms are the same, by the program; the law LinearSums.
-/


namespace Go.Proofs.Ytkghgdkkholieaa
open Go

section
variable (S : List Ent) (tk : List Nat) (k : Nat)
theorem mulS_no {a b : Int} (h : inB b = false) : mulS a b = (0, false) := by simp [mulS, chk, h]
set_option maxRecDepth 100000 in
theorem linear_Scale (cs : List (ByteArray × Int)) (n q : Int) (hlen : cs.length ≤ 1048576) : cL Try.prog 21 [linA cs n, .int q] S tk k = some (.tup [linA (scaleF cs n q).1.1 (scaleF cs n q).1.2, .bool (scaleF cs n q).2], S, tk, k) := by
  have hC := fun S tk k => linear_Check S tk k cs n hlen
  simp only [linA, coefsA] at hC
  refine call_pure Try.func21 rfl rfl (by decide +kernel) (by decide +kernel) Try.ntmps21 rfl rfl _ _ _ rfl ?_; rw [RK_KX]
  by_cases h0 : checkF cs n = 0
  case neg =>
    have d0 : (checkF cs n != 0) = true := by simpa using h0
    simp (maxSteps := 1000000) +contextual (disch := first | with_reducible assumption | exact ⟨rfl⟩ | exact ⟨rfl, rfl⟩ | (refine _root_.id ?_; kernel_rfl) | omega) only [evs, ext_mv, nth, put, putT, getT, binInt, binStr, binBool, aUn, outA, resA, mapO, resA1, oneOf, w1, w2, w3, bots, cond_true, cond_false, if_true, if_false, ite_true, ite_false, reduceIte, reduceCtorEq, implies_true, Nat.reduceAdd, Nat.reduceSub, AV.int, AV.bool, AV.str, Nat.reduceBEq, Nat.reduceEqDiff, Nat.reduceMul, Nat.reduceLT, Nat.reduceLeDiff, Int.reduceNeg, BEq.rfl, beq_self_eq_true, tabl, cellsOf, fldA, ldA, stA, entAt, partA, takeN, over, leafOk, Value.oneCell', idxA, nilA, cellsEq, fillA, elemsA, pure1, pure2, reps, chkA, tys, Try.results21, KX_draw, KX_drawQ, KX_tail, lastO_one, lastO_more, dropL_one, dropL_more, callP_eq, callM_true, linA, coefsA, hC, d0]
    simp [scaleF, h0]
  have d0 : (checkF cs n != 0) = false := by simp [h0]
  by_cases hq : q = 0
  · have d1 : (q == 0) = true := by simpa using hq
    simp (maxSteps := 1000000) +contextual (disch := first | with_reducible assumption | exact ⟨rfl⟩ | exact ⟨rfl, rfl⟩ | (refine _root_.id ?_; kernel_rfl) | omega) only [evs, ext_mv, nth, put, putT, getT, binInt, binStr, binBool, aUn, outA, resA, mapO, resA1, oneOf, w1, w2, w3, bots, cond_true, cond_false, if_true, if_false, ite_true, ite_false, reduceIte, reduceCtorEq, implies_true, Nat.reduceAdd, Nat.reduceSub, AV.int, AV.bool, AV.str, Nat.reduceBEq, Nat.reduceEqDiff, Nat.reduceMul, Nat.reduceLT, Nat.reduceLeDiff, Int.reduceNeg, BEq.rfl, beq_self_eq_true, tabl, cellsOf, fldA, ldA, stA, entAt, partA, takeN, over, leafOk, Value.oneCell', idxA, nilA, cellsEq, fillA, elemsA, pure1, pure2, reps, chkA, tys, Try.results21, KX_draw, KX_drawQ, KX_tail, lastO_one, lastO_more, dropL_one, dropL_more, callP_eq, callM_true, linA, coefsA, hC, d0, d1]
    simp [scaleF, h0, hq]
  have d1 : (q == 0) = false := by simpa using hq
  cases hb : inB q with
  | false =>
    by_cases hcs : cs = []
    · subst hcs
      have hz : (((0 : Nat) : Int) == 0) = true := rfl
      simp only [List.map_nil] at hC
      simp (maxSteps := 1000000) +contextual (disch := first | with_reducible assumption | exact ⟨rfl⟩ | exact ⟨rfl, rfl⟩ | (refine _root_.id ?_; kernel_rfl) | omega) only [evs, ext_mv, nth, put, putT, getT, binInt, binStr, binBool, aUn, outA, resA, mapO, resA1, oneOf, w1, w2, w3, bots, cond_true, cond_false, if_true, if_false, ite_true, ite_false, reduceIte, reduceCtorEq, implies_true, Nat.reduceAdd, Nat.reduceSub, AV.int, AV.bool, AV.str, Nat.reduceBEq, Nat.reduceEqDiff, Nat.reduceMul, Nat.reduceLT, Nat.reduceLeDiff, Int.reduceNeg, BEq.rfl, beq_self_eq_true, tabl, cellsOf, fldA, ldA, stA, entAt, partA, takeN, over, leafOk, Value.oneCell', idxA, nilA, cellsEq, fillA, elemsA, pure1, pure2, reps, chkA, tys, Try.results21, KX_draw, KX_drawQ, KX_tail, lastO_one, lastO_more, dropL_one, dropL_more, callP_eq, callM_true, linA, coefsA, hC, d0, d1, hb, num_In, List.map_nil, hz]
      simp [scaleF, h0, hq, hb]
    · have hz : ((cs.length : Int) == 0) = false := by
        have : cs.length ≠ 0 := fun h => hcs (List.length_eq_zero_iff.1 h)
        simp; omega
      simp (maxSteps := 1000000) +contextual (disch := first | with_reducible assumption | exact ⟨rfl⟩ | exact ⟨rfl, rfl⟩ | (refine _root_.id ?_; kernel_rfl) | omega) only [evs, ext_mv, nth, put, putT, getT, binInt, binStr, binBool, aUn, outA, resA, mapO, resA1, oneOf, w1, w2, w3, bots, cond_true, cond_false, if_true, if_false, ite_true, ite_false, reduceIte, reduceCtorEq, implies_true, Nat.reduceAdd, Nat.reduceSub, AV.int, AV.bool, AV.str, Nat.reduceBEq, Nat.reduceEqDiff, Nat.reduceMul, Nat.reduceLT, Nat.reduceLeDiff, Int.reduceNeg, BEq.rfl, beq_self_eq_true, tabl, cellsOf, fldA, ldA, stA, entAt, partA, takeN, over, leafOk, Value.oneCell', idxA, nilA, cellsEq, fillA, elemsA, pure1, pure2, reps, chkA, tys, Try.results21, KX_draw, KX_drawQ, KX_tail, lastO_one, lastO_more, dropL_one, dropL_more, callP_eq, callM_true, linA, coefsA, hC, d0, d1, hb, num_In, hz]
      simp [scaleF, h0, hq, hb, hcs]
  | true =>
    have hE := fun tk k => each_scale [⟨0, [coefsA cs, .int n]⟩, ⟨1, [.int q]⟩, ⟨2, [.frz [] .nilc, .int 0]⟩] tk k q cs 1 1 hlen rfl
    simp only [coefsA] at hE
    cases hall : cs.all fun c => (mulS c.2 q).2 with
    | true =>
      obtain ⟨c', tk', n', e⟩ := eachR_ok q cs [] .nilc [] 3 hall
      simp only [List.nil_append] at e
      have hE' := hE [] 3
      rw [e] at hE'
      simp (maxSteps := 1000000) +contextual (disch := first | with_reducible assumption | exact ⟨rfl⟩ | exact ⟨rfl, rfl⟩ | (refine _root_.id ?_; kernel_rfl) | omega) only [evs, ext_mv, nth, put, putT, getT, binInt, binStr, binBool, aUn, outA, resA, mapO, resA1, oneOf, w1, w2, w3, bots, cond_true, cond_false, if_true, if_false, ite_true, ite_false, reduceIte, reduceCtorEq, implies_true, Nat.reduceAdd, Nat.reduceSub, AV.int, AV.bool, AV.str, Nat.reduceBEq, Nat.reduceEqDiff, Nat.reduceMul, Nat.reduceLT, Nat.reduceLeDiff, Int.reduceNeg, BEq.rfl, beq_self_eq_true, tabl, cellsOf, fldA, ldA, stA, entAt, partA, takeN, over, leafOk, Value.oneCell', idxA, nilA, cellsEq, fillA, elemsA, pure1, pure2, reps, chkA, tys, Try.results21, KX_draw, KX_drawQ, KX_tail, lastO_one, lastO_more, dropL_one, dropL_more, callP_eq, callM_true, linA, coefsA, hC, d0, d1, hb, num_In, num_Mul, hE', capsOk]
      refine ⟨fun h1 => ?_, fun h1 => ?_⟩
      · simp [scaleF, h0, hq, hb, hall, h1]
      · simp [scaleF, h0, hq, hb, hall, h1]
    | false =>
      obtain ⟨tk', n', e⟩ := eachR_no q cs [] .nilc [] 3 hall
      have hE' := hE [] 3
      rw [e] at hE'
      have hs : scaleF cs n q = (([], 0), false) := by simp [scaleF, h0, hq, hb, hall]
      rw [hs]
      simp (maxSteps := 1000000) +contextual (disch := first | with_reducible assumption | exact ⟨rfl⟩ | exact ⟨rfl, rfl⟩ | (refine _root_.id ?_; kernel_rfl) | omega) only [evs, ext_mv, nth, put, putT, getT, binInt, binStr, binBool, aUn, outA, resA, mapO, resA1, oneOf, w1, w2, w3, bots, cond_true, cond_false, if_true, if_false, ite_true, ite_false, reduceIte, reduceCtorEq, implies_true, Nat.reduceAdd, Nat.reduceSub, AV.int, AV.bool, AV.str, Nat.reduceBEq, Nat.reduceEqDiff, Nat.reduceMul, Nat.reduceLT, Nat.reduceLeDiff, Int.reduceNeg, BEq.rfl, beq_self_eq_true, tabl, cellsOf, fldA, ldA, stA, entAt, partA, takeN, over, leafOk, Value.oneCell', idxA, nilA, cellsEq, fillA, elemsA, pure1, pure2, reps, chkA, tys, Try.results21, KX_draw, KX_drawQ, KX_tail, lastO_one, lastO_more, dropL_one, dropL_more, callP_eq, callM_true, linA, coefsA, hC, d0, d1, hb, num_In, num_Mul, hE', capsOk]
set_option maxRecDepth 100000 in
theorem R11_Scale (cs : List (ByteArray × Int)) (n q : Int) (hlen : cs.length ≤ 1000000) : cL Try.prog 22 [linA cs n, .int q] S tk k = some (.tup [linA (scaleF cs n q).1.1 (scaleF cs n q).1.2, .bool (scaleF cs n q).2], S, tk, k) := by
  have hC := fun S tk k => R11_Check S tk k cs n (by omega)
  simp only [linA, coefsA] at hC
  refine call_pure Try.func22 rfl rfl (by decide +kernel) (by decide +kernel) Try.ntmps22 rfl rfl _ _ _ rfl ?_; rw [RK_KX]
  by_cases h0 : checkF cs n = 0
  case neg =>
    have d0 : (checkF cs n != 0) = true := by simpa using h0
    simp (maxSteps := 1000000) +contextual (disch := first | with_reducible assumption | exact ⟨rfl⟩ | exact ⟨rfl, rfl⟩ | (refine _root_.id ?_; kernel_rfl) | omega) only [evs, ext_mv, nth, put, putT, getT, binInt, binStr, binBool, aUn, outA, resA, mapO, resA1, oneOf, w1, w2, w3, bots, cond_true, cond_false, if_true, if_false, ite_true, ite_false, reduceIte, reduceCtorEq, implies_true, Nat.reduceAdd, Nat.reduceSub, AV.int, AV.bool, AV.str, Nat.reduceBEq, Nat.reduceEqDiff, Nat.reduceMul, Nat.reduceLT, Nat.reduceLeDiff, Int.reduceNeg, BEq.rfl, beq_self_eq_true, tabl, cellsOf, fldA, ldA, stA, entAt, partA, takeN, over, leafOk, Value.oneCell', idxA, nilA, cellsEq, fillA, elemsA, pure1, pure2, reps, chkA, tys, Try.results22, KX_draw, KX_drawQ, KX_tail, lastO_one, lastO_more, dropL_one, dropL_more, callP_eq, callM_true, linA, coefsA, hC, d0]
    simp [scaleF, h0]
  have d0 : (checkF cs n != 0) = false := by simp [h0]
  by_cases hq : q = 0
  · have d1 : (q == 0) = true := by simpa using hq
    simp (maxSteps := 1000000) +contextual (disch := first | with_reducible assumption | exact ⟨rfl⟩ | exact ⟨rfl, rfl⟩ | (refine _root_.id ?_; kernel_rfl) | omega) only [evs, ext_mv, nth, put, putT, getT, binInt, binStr, binBool, aUn, outA, resA, mapO, resA1, oneOf, w1, w2, w3, bots, cond_true, cond_false, if_true, if_false, ite_true, ite_false, reduceIte, reduceCtorEq, implies_true, Nat.reduceAdd, Nat.reduceSub, AV.int, AV.bool, AV.str, Nat.reduceBEq, Nat.reduceEqDiff, Nat.reduceMul, Nat.reduceLT, Nat.reduceLeDiff, Int.reduceNeg, BEq.rfl, beq_self_eq_true, tabl, cellsOf, fldA, ldA, stA, entAt, partA, takeN, over, leafOk, Value.oneCell', idxA, nilA, cellsEq, fillA, elemsA, pure1, pure2, reps, chkA, tys, Try.results22, KX_draw, KX_drawQ, KX_tail, lastO_one, lastO_more, dropL_one, dropL_more, callP_eq, callM_true, linA, coefsA, hC, d0, d1]
    simp [scaleF, h0, hq]
  have d1 : (q == 0) = false := by simpa using hq
  simp (maxSteps := 1000000) +contextual (disch := first | with_reducible assumption | exact ⟨rfl⟩ | exact ⟨rfl, rfl⟩ | (refine _root_.id ?_; kernel_rfl) | omega) only [evs, ext_mv, nth, put, putT, getT, binInt, binStr, binBool, aUn, outA, resA, mapO, resA1, oneOf, w1, w2, w3, bots, cond_true, cond_false, if_true, if_false, ite_true, ite_false, reduceIte, reduceCtorEq, implies_true, Nat.reduceAdd, Nat.reduceSub, AV.int, AV.bool, AV.str, Nat.reduceBEq, Nat.reduceEqDiff, Nat.reduceMul, Nat.reduceLT, Nat.reduceLeDiff, Int.reduceNeg, BEq.rfl, beq_self_eq_true, tabl, cellsOf, fldA, ldA, stA, entAt, partA, takeN, over, leafOk, Value.oneCell', idxA, nilA, cellsEq, fillA, elemsA, pure1, pure2, reps, chkA, tys, Try.results22, KX_draw, KX_drawQ, KX_tail, lastO_one, lastO_more, dropL_one, dropL_more, callP_eq, callM_true, linA, coefsA, hC, d0, d1]
  refine loop1 (P := Try.prog) (fun x st => st.T.length = 70 ∧ (x.1 ≤ cs.length) ∧ (okCap st.tk x.2 2 = true) ∧ (((cs.take x.1).all fun y => (mulS y.2 q).2) = true) ∧ getT st.T 1 = .int q ∧ getT st.T 2 = .ref 0 0 0 ∧ getT st.T 4 = .ref 1 1 0 ∧ getT st.T 6 = .ref 2 2 0 ∧ getT st.T 7 = .int (x.1 : Nat) ∧ st.S = [⟨0, [coefsA cs, .int n]⟩, ⟨1, [.frz [] .nilc, .int 0]⟩, ⟨2, [.frz (((cs.take x.1).map (mulC q)).map coefC) x.2, .int 0]⟩]) (fun x => cs.length - x.1) (fun x => .tup [linA (scaleF cs n q).1.1 (scaleF cs n q).1.2, .bool (scaleF cs n q).2]) (0, .nilc) ?_ ?_
  case refine_2 => exact ⟨rfl, Nat.zero_le _, rfl, rfl, rfl, rfl, rfl, rfl, rfl, rfl⟩
  rintro ⟨i, c⟩ ⟨T, S', tk', n'⟩ ⟨hl, hi, hok, hall, e1, e2, e4, e6, e7, eS⟩ IH
  simp only at hi hok hall e1 e2 e4 e6 e7 eS
  subst eS
  obtain ⟨g, hg, hT⟩ := tab_of hl
  rw [hg] at e1 e2 e4 e6 e7
  subst hT
  clear hg hl
  by_cases hlt : i < cs.length
  · have d1 : decide ((i : Int) < (cs.length : Int)) = true := by simpa using hlt
    obtain ⟨x, hc⟩ := nth_some hlt
    have hc' : nth (cs.map coefC) i = some (coefC x) := by rw [nth_map, hc]; rfl
    have hw := wrap_add (i := i) (m := 0) (by omega)
    have hr := rowsOk_map (f := coefC) (sz := 2) (fun _ => rfl) ((cs.take i).map (mulC q))
    have hn : (((cs.take i).map (mulC q)).map coefC).length + 1 ≤ 1048576 := by simp; omega
    have hok' := okCap_new hok
    simp only [coefC] at hc'
    by_cases hx : (mulS x.2 q).2 = true
    · simp (maxSteps := 1000000) +contextual (disch := first | with_reducible assumption | exact ⟨rfl⟩ | exact ⟨rfl, rfl⟩ | (refine _root_.id ?_; kernel_rfl) | omega) only [evs, ext_mv, nth, put, putT, getT, binInt, binStr, binBool, aUn, outA, resA, mapO, resA1, oneOf, w1, w2, w3, bots, cond_true, cond_false, if_true, if_false, ite_true, ite_false, reduceIte, reduceCtorEq, implies_true, Nat.reduceAdd, Nat.reduceSub, AV.int, AV.bool, AV.str, Nat.reduceBEq, Nat.reduceEqDiff, Nat.reduceMul, Nat.reduceLT, Nat.reduceLeDiff, Int.reduceNeg, BEq.rfl, beq_self_eq_true, tabl, cellsOf, fldA, ldA, stA, entAt, partA, takeN, over, leafOk, Value.oneCell', idxA, nilA, cellsEq, fillA, elemsA, pure1, pure2, reps, chkA, tys, Try.results22, KX_draw, KX_drawQ, KX_tail, lastO_one, lastO_more, dropL_one, dropL_more, callP_eq, callM_true, e1, e2, e4, e6, e7, d1, coefsA, hc', hw, coefC, hx, R01_Mul, hr]
      exact IH (i + 1, capNew tk' c 2) _ (by first | omega | (simp only; omega)) ⟨rfl, hlt, hok', by rw [take_succ_nth hc, List.all_append, hall]; simp [hx], (by first | rfl | simp only [getT, List.map_append, List.map_cons, List.map_nil, coefC, coefsA]), (by first | rfl | simp only [getT, List.map_append, List.map_cons, List.map_nil, coefC, coefsA]), (by first | rfl | simp only [getT, List.map_append, List.map_cons, List.map_nil, coefC, coefsA]), (by first | rfl | simp only [getT, List.map_append, List.map_cons, List.map_nil, coefC, coefsA]), (by first | rfl | simp only [getT, List.map_append, List.map_cons, List.map_nil, coefC, coefsA]), by simp only [take_succ_nth hc, List.map_append, List.map_cons, List.map_nil, coefC, coefsA, mulC]⟩
    · have hx' : (mulS x.2 q).2 = false := by simpa using hx
      have hs : scaleF cs n q = (([], 0), false) := by
        have hcs : cs ≠ [] := by rintro rfl; simp at hlt
        have ha : ¬ (cs.all fun c => (mulS c.2 q).2) = true := fun h => by
          have := List.all_eq_true.1 h x (by rw [nth_get] at hc; exact List.mem_of_getElem? hc)
          rw [hx'] at this; simp at this
        simp only [scaleF, h0, hq, if_true, if_false, ha, and_false, hcs]
        cases inB q <;> simp
      rw [hs]
      simp (maxSteps := 1000000) +contextual (disch := first | with_reducible assumption | exact ⟨rfl⟩ | exact ⟨rfl, rfl⟩ | (refine _root_.id ?_; kernel_rfl) | omega) only [evs, ext_mv, nth, put, putT, getT, binInt, binStr, binBool, aUn, outA, resA, mapO, resA1, oneOf, w1, w2, w3, bots, cond_true, cond_false, if_true, if_false, ite_true, ite_false, reduceIte, reduceCtorEq, implies_true, Nat.reduceAdd, Nat.reduceSub, AV.int, AV.bool, AV.str, Nat.reduceBEq, Nat.reduceEqDiff, Nat.reduceMul, Nat.reduceLT, Nat.reduceLeDiff, Int.reduceNeg, BEq.rfl, beq_self_eq_true, tabl, cellsOf, fldA, ldA, stA, entAt, partA, takeN, over, leafOk, Value.oneCell', idxA, nilA, cellsEq, fillA, elemsA, pure1, pure2, reps, chkA, tys, Try.results22, KX_draw, KX_drawQ, KX_tail, lastO_one, lastO_more, dropL_one, dropL_more, callP_eq, callM_true, e1, e2, e4, e6, e7, d1, coefsA, hc', hw, coefC, hx', R01_Mul, hr, linA, List.map_nil]
  · have d1 : decide ((i : Int) < (cs.length : Int)) = false := by simpa using hlt
    have he : i = cs.length := by omega
    rw [he, List.take_length] at hall
    by_cases hn0 : n = 0
    · have d2 : (n != 0) = false := by simp [hn0]
      simp (maxSteps := 1000000) +contextual (disch := first | with_reducible assumption | exact ⟨rfl⟩ | exact ⟨rfl, rfl⟩ | (refine _root_.id ?_; kernel_rfl) | omega) only [evs, ext_mv, nth, put, putT, getT, binInt, binStr, binBool, aUn, outA, resA, mapO, resA1, oneOf, w1, w2, w3, bots, cond_true, cond_false, if_true, if_false, ite_true, ite_false, reduceIte, reduceCtorEq, implies_true, Nat.reduceAdd, Nat.reduceSub, AV.int, AV.bool, AV.str, Nat.reduceBEq, Nat.reduceEqDiff, Nat.reduceMul, Nat.reduceLT, Nat.reduceLeDiff, Int.reduceNeg, BEq.rfl, beq_self_eq_true, tabl, cellsOf, fldA, ldA, stA, entAt, partA, takeN, over, leafOk, Value.oneCell', idxA, nilA, cellsEq, fillA, elemsA, pure1, pure2, reps, chkA, tys, Try.results22, KX_draw, KX_drawQ, KX_tail, lastO_one, lastO_more, dropL_one, dropL_more, callP_eq, callM_true, e1, e2, e4, e6, e7, d1, d2, coefsA, linA]
      rw [he, List.take_length]
      subst hn0
      cases hb : inB q with
      | true =>
        have hm : mulS 0 q = (0, true) := by unfold mulS chk; rw [hb]; simp [inB]
        simp [scaleF, h0, hq, hb, hall, hm]
      | false =>
        cases cs with
        | nil => simp [scaleF, h0, hq, hb]
        | cons c cs => simp [mulS_no hb] at hall
    · have d2 : (n != 0) = true := by simpa using hn0
      simp (maxSteps := 1000000) +contextual (disch := first | with_reducible assumption | exact ⟨rfl⟩ | exact ⟨rfl, rfl⟩ | (refine _root_.id ?_; kernel_rfl) | omega) only [evs, ext_mv, nth, put, putT, getT, binInt, binStr, binBool, aUn, outA, resA, mapO, resA1, oneOf, w1, w2, w3, bots, cond_true, cond_false, if_true, if_false, ite_true, ite_false, reduceIte, reduceCtorEq, implies_true, Nat.reduceAdd, Nat.reduceSub, AV.int, AV.bool, AV.str, Nat.reduceBEq, Nat.reduceEqDiff, Nat.reduceMul, Nat.reduceLT, Nat.reduceLeDiff, Int.reduceNeg, BEq.rfl, beq_self_eq_true, tabl, cellsOf, fldA, ldA, stA, entAt, partA, takeN, over, leafOk, Value.oneCell', idxA, nilA, cellsEq, fillA, elemsA, pure1, pure2, reps, chkA, tys, Try.results22, KX_draw, KX_drawQ, KX_tail, lastO_one, lastO_more, dropL_one, dropL_more, callP_eq, callM_true, e1, e2, e4, e6, e7, d1, d2, coefsA, linA, R01_Mul]
      rw [he, List.take_length]
      cases hb : inB q with
      | true =>
        refine ⟨fun h1 => ?_, fun h1 => ?_⟩
        · simp [scaleF, h0, hq, hb, hall, h1]
        · simp [scaleF, h0, hq, hb, hall, h1]
      | false =>
        rw [mulS_no hb]
        simp [scaleF, h0, hq, hb, hn0]
theorem Same_fn (c d : ByteArray × Int) : cL Try.prog 53 [.agg (coefC c), .agg (coefC d)] S tk k = some (.bool (eqC c d), S, tk, k) := by
  refine call_pure Try.func53 rfl rfl (by decide +kernel) (by decide +kernel) Try.ntmps53 rfl rfl _ _ _ rfl ?_; rw [RK_KX]
  simp (maxSteps := 1000000) +contextual (disch := first | with_reducible assumption | exact ⟨rfl⟩ | exact ⟨rfl, rfl⟩ | (refine _root_.id ?_; kernel_rfl) | omega) only [evs, ext_mv, nth, put, putT, getT, binInt, binStr, binBool, aUn, outA, resA, mapO, resA1, oneOf, w1, w2, w3, bots, cond_true, cond_false, if_true, if_false, ite_true, ite_false, reduceIte, reduceCtorEq, implies_true, Nat.reduceAdd, Nat.reduceSub, AV.int, AV.bool, AV.str, Nat.reduceBEq, Nat.reduceEqDiff, Nat.reduceMul, Nat.reduceLT, Nat.reduceLeDiff, Int.reduceNeg, BEq.rfl, beq_self_eq_true, tabl, cellsOf, fldA, ldA, stA, entAt, partA, takeN, over, leafOk, Value.oneCell', idxA, nilA, cellsEq, fillA, elemsA, pure1, pure2, reps, chkA, tys, Try.results53, KX_draw, KX_drawQ, KX_tail, lastO_one, lastO_more, dropL_one, dropL_more, callP_eq, callM_true, coefC]
  simp [eqC]
theorem EqualFunc_Same (cs ds : List (ByteArray × Int)) (hlen : cs.length ≤ 1048576) : cL Try.prog 52 [coefsA cs, coefsA ds, .fn 53 []] S tk k = some (.bool (if cs.length = ds.length then eqL cs ds else false), S, tk, k) := by
  refine call_pure Try.func52 rfl rfl (by decide +kernel) (by decide +kernel) Try.ntmps52 rfl rfl _ _ _ rfl ?_; rw [RK_KX]
  by_cases hl0 : cs.length = ds.length
  case neg =>
    have d0 : ((cs.length : Int) != (ds.length : Int)) = true := by simp; omega
    simp (maxSteps := 1000000) +contextual (disch := first | with_reducible assumption | exact ⟨rfl⟩ | exact ⟨rfl, rfl⟩ | (refine _root_.id ?_; kernel_rfl) | omega) only [evs, ext_mv, nth, put, putT, getT, binInt, binStr, binBool, aUn, outA, resA, mapO, resA1, oneOf, w1, w2, w3, bots, cond_true, cond_false, if_true, if_false, ite_true, ite_false, reduceIte, reduceCtorEq, implies_true, Nat.reduceAdd, Nat.reduceSub, AV.int, AV.bool, AV.str, Nat.reduceBEq, Nat.reduceEqDiff, Nat.reduceMul, Nat.reduceLT, Nat.reduceLeDiff, Int.reduceNeg, BEq.rfl, beq_self_eq_true, tabl, cellsOf, fldA, ldA, stA, entAt, partA, takeN, over, leafOk, Value.oneCell', idxA, nilA, cellsEq, fillA, elemsA, pure1, pure2, reps, chkA, tys, Try.results52, KX_draw, KX_drawQ, KX_tail, lastO_one, lastO_more, dropL_one, dropL_more, callP_eq, callM_true, coefsA, d0]
    simp [hl0]
  have d0 : ((cs.length : Int) != (ds.length : Int)) = false := by simp; omega
  simp (maxSteps := 1000000) +contextual (disch := first | with_reducible assumption | exact ⟨rfl⟩ | exact ⟨rfl, rfl⟩ | (refine _root_.id ?_; kernel_rfl) | omega) only [evs, ext_mv, nth, put, putT, getT, binInt, binStr, binBool, aUn, outA, resA, mapO, resA1, oneOf, w1, w2, w3, bots, cond_true, cond_false, if_true, if_false, ite_true, ite_false, reduceIte, reduceCtorEq, implies_true, Nat.reduceAdd, Nat.reduceSub, AV.int, AV.bool, AV.str, Nat.reduceBEq, Nat.reduceEqDiff, Nat.reduceMul, Nat.reduceLT, Nat.reduceLeDiff, Int.reduceNeg, BEq.rfl, beq_self_eq_true, tabl, cellsOf, fldA, ldA, stA, entAt, partA, takeN, over, leafOk, Value.oneCell', idxA, nilA, cellsEq, fillA, elemsA, pure1, pure2, reps, chkA, tys, Try.results52, KX_draw, KX_drawQ, KX_tail, lastO_one, lastO_more, dropL_one, dropL_more, callP_eq, callM_true, coefsA, d0]
  rw [if_pos hl0]
  refine loop1 (P := Try.prog) (fun x st => st.T.length = 32 ∧ (x ≤ cs.length) ∧ getT st.T 1 = coefsA ds ∧ getT st.T 2 = .fn 53 [] ∧ getT st.T 15 = coefsA cs ∧ getT st.T 16 = .int cs.length ∧ getT st.T 17 = .int (x : Nat) ∧ st.S = []) (fun x => cs.length - x) (fun x => .bool (eqL (cs.drop x) (ds.drop x))) (0) ?_ ?_
  case refine_2 => exact ⟨rfl, Nat.zero_le _, rfl, rfl, rfl, rfl, rfl, rfl⟩
  rintro i ⟨T, S', tk', n'⟩ ⟨hl, hi, e1, e2, e15, e16, e17, eS⟩ IH
  subst eS
  obtain ⟨g, hg, hT⟩ := tab_of hl
  rw [hg] at e1 e2 e15 e16 e17
  subst hT
  clear hg hl
  by_cases hlt : i < cs.length
  · have d1 : decide ((i : Int) < (cs.length : Int)) = true := by simpa using hlt
    obtain ⟨c, hc⟩ := nth_some hlt
    obtain ⟨d, hd⟩ := nth_some (show i < ds.length by omega)
    have hc' : nth (cs.map coefC) i = some (coefC c) := by rw [nth_map, hc]; rfl
    have hd' : nth (ds.map coefC) i = some (coefC d) := by rw [nth_map, hd]; rfl
    have hw := wrap_add (i := i) (m := 0) (by omega)
    have hS := fun S tk k => Same_fn S tk k c d
    simp only [coefC] at hS hc' hd'
    rw [nth_drop hc, nth_drop hd]
    simp (maxSteps := 1000000) +contextual (disch := first | with_reducible assumption | exact ⟨rfl⟩ | exact ⟨rfl, rfl⟩ | (refine _root_.id ?_; kernel_rfl) | omega) only [evs, ext_mv, nth, put, putT, getT, binInt, binStr, binBool, aUn, outA, resA, mapO, resA1, oneOf, w1, w2, w3, bots, cond_true, cond_false, if_true, if_false, ite_true, ite_false, reduceIte, reduceCtorEq, implies_true, Nat.reduceAdd, Nat.reduceSub, AV.int, AV.bool, AV.str, Nat.reduceBEq, Nat.reduceEqDiff, Nat.reduceMul, Nat.reduceLT, Nat.reduceLeDiff, Int.reduceNeg, BEq.rfl, beq_self_eq_true, tabl, cellsOf, fldA, ldA, stA, entAt, partA, takeN, over, leafOk, Value.oneCell', idxA, nilA, cellsEq, fillA, elemsA, pure1, pure2, reps, chkA, tys, Try.results52, KX_draw, KX_drawQ, KX_tail, lastO_one, lastO_more, dropL_one, dropL_more, callP_eq, callM_true, e1, e2, e15, e16, e17, d1, coefsA, hc', hd', hw, coefC, hS]
    refine ⟨fun h1 => ?_, fun h1 => ?_⟩
    · rw [IH (i + 1) _ (by first | omega | (simp only; omega)) ⟨rfl, hlt, (by first | rfl | simp only [getT, List.map_append, List.map_cons, List.map_nil, coefC, coefsA]), (by first | rfl | simp only [getT, List.map_append, List.map_cons, List.map_nil, coefC, coefsA]), (by first | rfl | simp only [getT, List.map_append, List.map_cons, List.map_nil, coefC, coefsA]), (by first | rfl | simp only [getT, List.map_append, List.map_cons, List.map_nil, coefC, coefsA]), (by first | rfl | simp only [getT, List.map_append, List.map_cons, List.map_nil, coefC, coefsA]), (by first | rfl | simp only [getT, List.map_append, List.map_cons, List.map_nil, coefC, coefsA])⟩]
      simp [eqL, h1]
    · simp [eqL, h1]
  · have d1 : decide ((i : Int) < (cs.length : Int)) = false := by simpa using hlt
    have he : i = cs.length := by omega
    simp (maxSteps := 1000000) +contextual (disch := first | with_reducible assumption | exact ⟨rfl⟩ | exact ⟨rfl, rfl⟩ | (refine _root_.id ?_; kernel_rfl) | omega) only [evs, ext_mv, nth, put, putT, getT, binInt, binStr, binBool, aUn, outA, resA, mapO, resA1, oneOf, w1, w2, w3, bots, cond_true, cond_false, if_true, if_false, ite_true, ite_false, reduceIte, reduceCtorEq, implies_true, Nat.reduceAdd, Nat.reduceSub, AV.int, AV.bool, AV.str, Nat.reduceBEq, Nat.reduceEqDiff, Nat.reduceMul, Nat.reduceLT, Nat.reduceLeDiff, Int.reduceNeg, BEq.rfl, beq_self_eq_true, tabl, cellsOf, fldA, ldA, stA, entAt, partA, takeN, over, leafOk, Value.oneCell', idxA, nilA, cellsEq, fillA, elemsA, pure1, pure2, reps, chkA, tys, Try.results52, KX_draw, KX_drawQ, KX_tail, lastO_one, lastO_more, dropL_one, dropL_more, callP_eq, callM_true, e1, e2, e15, e16, e17, d1, coefsA]
    rw [he, List.drop_length]; simp [eqL]
theorem sameF_if (cs ds : List (ByteArray × Int)) (n m : Int) : sameF cs n ds m = if cs.length = ds.length then (if n = m then eqL cs ds else false) else false := by
  unfold sameF
  by_cases h : cs.length = ds.length
  · have h' : ((cs.length : Int) == ds.length) = true := by simp; omega
    rw [if_pos h', if_pos h]
    by_cases h2 : n = m <;> simp [h2]
  · have h' : ¬ ((cs.length : Int) == ds.length) = true := by simp; omega
    rw [if_neg h', if_neg h]
theorem linear_Same (cs ds : List (ByteArray × Int)) (n m : Int) (hlen : cs.length ≤ 1048576) : cL Try.prog 25 [linA cs n, linA ds m] S tk k = some (.bool (sameF cs n ds m), S, tk, k) := by
  have hE := fun S tk k => EqualFunc_Same S tk k cs ds hlen
  simp only [coefsA] at hE
  refine call_pure Try.func25 rfl rfl (by decide +kernel) (by decide +kernel) Try.ntmps25 rfl rfl _ _ _ rfl ?_; rw [RK_KX]
  simp (maxSteps := 1000000) +contextual (disch := first | with_reducible assumption | exact ⟨rfl⟩ | exact ⟨rfl, rfl⟩ | (refine _root_.id ?_; kernel_rfl) | omega) only [evs, ext_mv, nth, put, putT, getT, binInt, binStr, binBool, aUn, outA, resA, mapO, resA1, oneOf, w1, w2, w3, bots, cond_true, cond_false, if_true, if_false, ite_true, ite_false, reduceIte, reduceCtorEq, implies_true, Nat.reduceAdd, Nat.reduceSub, AV.int, AV.bool, AV.str, Nat.reduceBEq, Nat.reduceEqDiff, Nat.reduceMul, Nat.reduceLT, Nat.reduceLeDiff, Int.reduceNeg, BEq.rfl, beq_self_eq_true, tabl, cellsOf, fldA, ldA, stA, entAt, partA, takeN, over, leafOk, Value.oneCell', idxA, nilA, cellsEq, fillA, elemsA, pure1, pure2, reps, chkA, tys, Try.results25, KX_draw, KX_drawQ, KX_tail, lastO_one, lastO_more, dropL_one, dropL_more, callP_eq, callM_true, linA, coefsA, hE]
  refine ⟨fun h1 => ?_, fun h1 => ?_⟩
  · have h2 : n = m := by simpa using h1
    rw [sameF_if]; simp [h2]
  · have h2 : ¬ n = m := by simpa using h1
    rw [sameF_if]; simp [h2]
theorem eqL_same : ∀ l : List (ByteArray × Int), eqL l l = true
  | [] => rfl
  | c :: r => by simp [eqL, eqC, sEq, eqL_same r]
theorem sameF_self (l : List (ByteArray × Int)) (n : Int) : sameF l n l n = true := by simp [sameF, eqL_same]
theorem scaleF_len (cs : List (ByteArray × Int)) (n q : Int) : (scaleF cs n q).1.1.length ≤ cs.length := by
  unfold scaleF
  split
  · split
    · simp
    · split
      · split <;> simp
      · simp
  · simp
theorem rightF_len (cs : List (ByteArray × Int)) (n : Int) : (rightF cs n).1.1.length ≤ cs.length := by
  unfold rightF; split <;> simp
theorem addL_len (a b : List (ByteArray × Int)) (n m : Int) : (addL a n b m).1.1.length ≤ a.length + b.length := by
  unfold addL
  split
  · exact Nat.le_trans (rightF_len _ _) (mergeF_len a b)
  · simp
set_option maxRecDepth 100000 in
theorem L11_LinearSums (cs : List (ByteArray × Int)) (n : Int) (ds : List (ByteArray × Int)) (m q : Int) : cL Try.prog 6 [linA cs n, linA ds m, .int q] S tk k = some (.bool true, S, tk, k) := by
  have hS1 := fun S tk k => L11_small S tk k cs n
  have hS2 := fun S tk k => L11_small S tk k ds m
  simp only [linA, coefsA] at hS1 hS2
  refine call_pure Try.func6 rfl rfl (by decide +kernel) (by decide +kernel) Try.ntmps6 rfl rfl _ _ _ rfl ?_; rw [RK_KX]
  cases h1 : smallFrom 0 cs with
  | false => simp (maxSteps := 1000000) +contextual (disch := first | with_reducible assumption | exact ⟨rfl⟩ | exact ⟨rfl, rfl⟩ | (refine _root_.id ?_; kernel_rfl) | omega) only [evs, ext_mv, nth, put, putT, getT, binInt, binStr, binBool, aUn, outA, resA, mapO, resA1, oneOf, w1, w2, w3, bots, cond_true, cond_false, if_true, if_false, ite_true, ite_false, reduceIte, reduceCtorEq, implies_true, Nat.reduceAdd, Nat.reduceSub, AV.int, AV.bool, AV.str, Nat.reduceBEq, Nat.reduceEqDiff, Nat.reduceMul, Nat.reduceLT, Nat.reduceLeDiff, Int.reduceNeg, BEq.rfl, beq_self_eq_true, tabl, cellsOf, fldA, ldA, stA, entAt, partA, takeN, over, leafOk, Value.oneCell', idxA, nilA, cellsEq, fillA, elemsA, pure1, pure2, reps, chkA, tys, Try.results6, KX_draw, KX_drawQ, KX_tail, lastO_one, lastO_more, dropL_one, dropL_more, callP_eq, callM_true, linA, coefsA, hS1, h1, L11_awake]
  | true =>
    cases h2 : smallFrom 0 ds with
    | false => simp (maxSteps := 1000000) +contextual (disch := first | with_reducible assumption | exact ⟨rfl⟩ | exact ⟨rfl, rfl⟩ | (refine _root_.id ?_; kernel_rfl) | omega) only [evs, ext_mv, nth, put, putT, getT, binInt, binStr, binBool, aUn, outA, resA, mapO, resA1, oneOf, w1, w2, w3, bots, cond_true, cond_false, if_true, if_false, ite_true, ite_false, reduceIte, reduceCtorEq, implies_true, Nat.reduceAdd, Nat.reduceSub, AV.int, AV.bool, AV.str, Nat.reduceBEq, Nat.reduceEqDiff, Nat.reduceMul, Nat.reduceLT, Nat.reduceLeDiff, Int.reduceNeg, BEq.rfl, beq_self_eq_true, tabl, cellsOf, fldA, ldA, stA, entAt, partA, takeN, over, leafOk, Value.oneCell', idxA, nilA, cellsEq, fillA, elemsA, pure1, pure2, reps, chkA, tys, Try.results6, KX_draw, KX_drawQ, KX_tail, lastO_one, lastO_more, dropL_one, dropL_more, callP_eq, callM_true, linA, coefsA, hS1, h1, hS2, h2, L11_awake]
    | true =>
      have hl1 : cs.length ≤ 40 := by
        rcases small_len h1 with h | h
        · omega
        · subst h; simp
      have hl2 : ds.length ≤ 40 := by
        rcases small_len h2 with h | h
        · omega
        · subst h; simp
      have hA := fun S tk k => linear_Add S tk k cs ds n m (by omega) (by omega)
      have hA' := fun S tk k => R11_Add S tk k cs ds n m (by omega) (by omega)
      have hM := fun S tk k => linear_Scale S tk k cs n q (by omega)
      have hM' := fun S tk k => R11_Scale S tk k cs n q (by omega)
      have hC := fun S tk k => linear_Check S tk k cs n (by omega)
      have hC' := fun S tk k => R11_Check S tk k cs n (by omega)
      have hT := fun S tk k => linear_Same S tk k cs ds n m (by omega)
      have hT' := fun S tk k => R11_Same S tk k cs ds n m (by omega)
      have hT2 := fun S tk k => linear_Same S tk k cs cs n n (by omega)
      have hU1 := fun S tk k => R11_Same S tk k (addL cs n ds m).1.1 (addL cs n ds m).1.1 (addL cs n ds m).1.2 (addL cs n ds m).1.2 (by have := addL_len cs ds n m; omega)
      have hU2 := fun S tk k => R11_Same S tk k (scaleF cs n q).1.1 (scaleF cs n q).1.1 (scaleF cs n q).1.2 (scaleF cs n q).1.2 (by have := scaleF_len cs n q; omega)
      rw [sameF_self] at hT2 hU1 hU2
      simp only [linA, coefsA] at hA hA' hM hM' hC hC' hT hT' hT2 hU1 hU2
      simp (maxSteps := 1000000) +contextual (disch := first | with_reducible assumption | exact ⟨rfl⟩ | exact ⟨rfl, rfl⟩ | (refine _root_.id ?_; kernel_rfl) | omega) only [evs, ext_mv, nth, put, putT, getT, binInt, binStr, binBool, aUn, outA, resA, mapO, resA1, oneOf, w1, w2, w3, bots, cond_true, cond_false, if_true, if_false, ite_true, ite_false, reduceIte, reduceCtorEq, implies_true, Nat.reduceAdd, Nat.reduceSub, AV.int, AV.bool, AV.str, Nat.reduceBEq, Nat.reduceEqDiff, Nat.reduceMul, Nat.reduceLT, Nat.reduceLeDiff, Int.reduceNeg, BEq.rfl, beq_self_eq_true, tabl, cellsOf, fldA, ldA, stA, entAt, partA, takeN, over, leafOk, Value.oneCell', idxA, nilA, cellsEq, fillA, elemsA, pure1, pure2, reps, chkA, tys, Try.results6, KX_draw, KX_drawQ, KX_tail, lastO_one, lastO_more, dropL_one, dropL_more, callP_eq, callM_true, linA, coefsA, hS1, h1, hS2, h2, L11_awake, hA, hA', hM, hM', hC, hC', hT, hT', hT2, hU1, hU2]
end
end Go.Proofs.Ytkghgdkkholieaa
/-
  Names and their order; increasing lists of names.
-/

namespace Go.Proofs.Ytkghgdkkholieaa
open Go

theorem nloop_eq (s : ByteArray) : ∀ (n i : Nat) (r : List UInt8), s.size - i = n → ByteArray.toList.loop s i r = r.reverse ++ s.data.toList.drop i := by
  intro n
  induction n with
  | zero =>
    intro i r h
    rw [ByteArray.toList.loop, if_neg (by omega), List.drop_eq_nil_of_le (by simp; omega), List.append_nil]
  | succ n ih =>
    intro i r h
    have hi : i < s.data.size := by simp; omega
    rw [ByteArray.toList.loop, if_pos (by omega), ih (i + 1) _ (by omega), List.reverse_cons, List.append_assoc]
    congr 1
    have e : s.data.toList.drop i = s.data[i] :: s.data.toList.drop (i + 1) := by
      rw [← Array.getElem_toList hi, List.getElem_cons_drop]
    rw [e, List.singleton_append]
    congr 1
    show s.data[i]! = _
    rw [getElem!_pos s.data i hi]
def nm (s : ByteArray) : List UInt8 := s.data.toList
theorem nm_list (s : ByteArray) : s.toList = nm s := by rw [ByteArray.toList, nloop_eq s _ 0 [] rfl]; simp [nm]
theorem nm_inj {a b : ByteArray} (h : nm a = nm b) : a = b := by
  apply ByteArray.ext; exact Array.ext' h
theorem bytesLess_lt : ∀ (x y : List UInt8), Op.bytesLess x y = decide (x < y)
  | [], [] => by simp [Op.bytesLess]
  | a :: x, [] => by simp [Op.bytesLess]
  | [], b :: y => by simp [Op.bytesLess]
  | a :: x, b :: y => by
    rw [Op.bytesLess, bytesLess_lt x y]
    by_cases h1 : a < b
    · simp [h1, List.cons_lt_cons_iff]
    · by_cases h2 : a = b
      · subst h2; simp [List.cons_lt_cons_iff]
      · simp [h1, h2, List.cons_lt_cons_iff]
theorem sLt_nm (a b : ByteArray) : sLt a b = decide (nm a < nm b) := by
  unfold sLt; rw [nm_list, nm_list, bytesLess_lt]
theorem sEq_nm (a b : ByteArray) : sEq a b = decide (a = b) := by
  unfold sEq; rw [nm_list, nm_list]
  by_cases h : a = b
  · subst h; simp
  · have : nm a ≠ nm b := fun h' => h (nm_inj h')
    simp [h, this]
theorem nlt_trans {a b c : List UInt8} (h1 : a < b) (h2 : b < c) : a < c := List.lt_trans h1 h2
theorem nlt_irrefl (a : List UInt8) : ¬ a < a := List.lt_irrefl a
theorem nlt_tri (a b : ByteArray) : nm a < nm b ∨ a = b ∨ nm b < nm a := by
  by_cases h1 : nm a < nm b
  · exact .inl h1
  · by_cases h2 : nm b < nm a
    · exact .inr (.inr h2)
    · exact .inr (.inl (nm_inj (List.le_antisymm (List.not_lt.1 h2) (List.not_lt.1 h1))))
/-- each name is less than those behind it -/
def Inc (l : List ByteArray) : Prop := l.Pairwise fun a b => nm a < nm b
theorem chk_inc : ∀ {n : Int} {p : Option ByteArray} {cs : List (ByteArray × Int)}, chkFrom n p cs = 0 → Inc (cs.map (·.1)) ∧ ∀ c ∈ cs, ∀ b, p = some b → nm b < nm c.1
  | n, p, [], h => ⟨List.Pairwise.nil, fun c hc => by simp at hc⟩
  | n, p, c :: cs, h => by
    unfold chkFrom at h
    split at h
    · cases h
    · split at h
      · cases h
      · split at h
        · cases h
        · rename_i h3
          obtain ⟨a, b⟩ := chk_inc h
          have hc : ∀ x ∈ cs, nm c.1 < nm x.1 := fun x hx => b x hx c.1 rfl
          refine ⟨List.pairwise_cons.2 ⟨fun y hy => ?_, a⟩, ?_⟩
          · obtain ⟨x, hx, rfl⟩ := List.mem_map.1 hy; exact hc x hx
          · intro x hx d hd
            subst hd
            have hdc : nm d < nm c.1 := by
              simp only [notAbove, Bool.or_eq_true, not_or, Bool.not_eq_true] at h3
              obtain ⟨e1, e2⟩ := h3
              rw [sLt_nm] at e1
              rw [sEq_nm] at e2
              rcases nlt_tri d c.1 with h | h | h
              · exact h
              · exact absurd h.symm (by simpa using e2)
              · exact absurd h (by simpa using e1)
            rcases List.mem_cons.1 hx with rfl | hx
            · exact hdc
            · exact List.lt_trans hdc (hc x hx)
theorem check_inc {cs : List (ByteArray × Int)} {n : Int} (h : checkF cs n = 0) : Inc (cs.map (·.1)) := by
  unfold checkF at h
  split at h
  · cases h
  · exact (chk_inc h).1
theorem sEq_self (s : ByteArray) : sEq s s = true := by rw [sEq_nm]; simp
theorem lt_irr (s : ByteArray) : sLt s s = false := by rw [sLt_nm]; simp [List.lt_irrefl]
theorem lt_asym {a b : ByteArray} (h : sLt a b = true) : sLt b a = false := by
  rw [sLt_nm] at h ⊢
  simp only [decide_eq_true_eq, decide_eq_false_iff_not] at h ⊢
  exact fun h2 => List.lt_irrefl _ (List.lt_trans h h2)
theorem mem_nth {α : Type} : ∀ {l : List α} {i : Nat} {x : α}, nth l i = some x → x ∈ l
  | y :: l, 0, x, h => by simp only [nth, Option.some.injEq] at h; subst h; simp
  | y :: l, i + 1, x, h => by
    have := mem_nth (l := l) (i := i) h
    simp [this]
  | [], _, _, h => by simp [nth] at h
/-- how many names come before a name -/
def posF (s : ByteArray) : List (ByteArray × Int) → Nat
  | [] => 0
  | c :: r => if sLt c.1 s = true then posF s r + 1 else 0
theorem posF_le (s : ByteArray) : ∀ cs : List (ByteArray × Int), posF s cs ≤ cs.length
  | [] => Nat.le_refl _
  | c :: r => by
    have := posF_le s r
    unfold posF
    split <;> simp only [List.length_cons] <;> omega
theorem posF_less {s : ByteArray} : ∀ {cs : List (ByteArray × Int)} {j : Nat} {c : ByteArray × Int}, Inc (cs.map (·.1)) → nth cs j = some c → sLt c.1 s = decide (j < posF s cs)
  | [], _, _, _, h => by simp [nth] at h
  | x :: r, 0, c, hi, h => by
    simp only [nth, Option.some.injEq] at h
    subst h
    unfold posF
    cases hx : sLt x.1 s with
    | true => simp
    | false => simp
  | x :: r, j + 1, c, hi, h => by
    have hi2 := List.pairwise_cons.1 hi
    have h' : nth r j = some c := h
    unfold posF
    cases hx : sLt x.1 s with
    | true => rw [if_pos rfl, posF_less hi2.2 h']; simp
    | false =>
      rw [if_neg (by simp)]
      have hlt : nm x.1 < nm c.1 := hi2.1 c.1 (List.mem_map_of_mem (mem_nth h'))
      cases hc : sLt c.1 s with
      | false => simp
      | true =>
        exfalso
        rw [sLt_nm] at hx hc
        simp only [decide_eq_true_eq, decide_eq_false_iff_not] at hx hc
        exact hx (nlt_trans hlt hc)
/-- is a name found -/
def hitF (s : ByteArray) (cs : List (ByteArray × Int)) : Bool := match nth cs (posF s cs) with | some c => sEq c.1 s | none => false
/-- the number of a name -/
def coefOf (s : ByteArray) (cs : List (ByteArray × Int)) : Int := match nth cs (posF s cs) with | some c => if sEq c.1 s = true then c.2 else 0 | none => 0
end Go.Proofs.Ytkghgdkkholieaa
/-
  A name is looked for in increasing names.
-/

namespace Go.Proofs.Ytkghgdkkholieaa
open Go
def cmpS (a b : ByteArray) : Int := if sLt a b = true then -1 else if sLt b a = true then 1 else 0
theorem cmpS_lt (a b : ByteArray) : decide (cmpS a b < 0) = sLt a b := by
  unfold cmpS
  cases sLt a b <;> cases sLt b a <;> rfl
theorem cmpS_eq (a b : ByteArray) : (cmpS a b == 0) = sEq a b := by
  unfold cmpS
  rw [sEq_nm, sLt_nm, sLt_nm]
  rcases nlt_tri a b with h | h | h
  · have hne : ¬ a = b := fun e => by rw [e] at h; exact nlt_irrefl _ h
    simp [h, hne]
  · subst h; simp [nlt_irrefl]
  · have hne : ¬ a = b := fun e => by rw [e] at h; exact nlt_irrefl _ h
    have h2 : ¬ nm a < nm b := fun h2 => nlt_irrefl _ (nlt_trans h h2)
    simp [h, h2, hne]
theorem nth_coef {l : List (ByteArray × Int)} {i : Nat} {c : ByteArray × Int} (h : nth l i = some c) : nth (l.map coefC) i = some (coefC c) := by rw [nth_map, h]; rfl
theorem uwrap_of {n : Int} (h0 : 0 ≤ n) (h1 : n < 18446744073709551616) : IntKind.u64.wrap n = n := by
  have e : (n.toNat : Int) = n := by omega
  rw [← e]
  exact Go.IntWalk.u64_in _ (by omega)
section
variable (S : List Ent) (tk : List Nat) (k : Nat)
theorem cmp_isNaN (s : ByteArray) : cL Try.prog 65 [.prim (.string s)] S tk k = some (.bool false, S, tk, k) := by
  refine call_pure Try.func65 rfl rfl (by decide +kernel) (by decide +kernel) Try.ntmps65 rfl rfl _ _ _ rfl ?_; rw [RK_KX]
  simp (maxSteps := 1000000) +contextual (disch := first | with_reducible assumption | exact ⟨rfl⟩ | exact ⟨rfl, rfl⟩ | (refine _root_.id ?_; kernel_rfl) | omega) only [evs, ext_mv, nth, put, putT, getT, binInt, binStr, binBool, aUn, outA, resA, mapO, resA1, oneOf, w1, w2, w3, bots, cond_true, cond_false, if_true, if_false, ite_true, ite_false, reduceIte, reduceCtorEq, implies_true, Nat.reduceAdd, Nat.reduceSub, AV.int, AV.bool, AV.str, Nat.reduceBEq, Nat.reduceEqDiff, Nat.reduceMul, Nat.reduceLT, Nat.reduceLeDiff, Int.reduceNeg, BEq.rfl, beq_self_eq_true, tabl, cellsOf, fldA, ldA, stA, entAt, partA, takeN, over, leafOk, Value.oneCell', idxA, nilA, cellsEq, fillA, elemsA, pure1, pure2, reps, chkA, tys, Try.results65, KX_draw, KX_drawQ, KX_tail, lastO_one, lastO_more, dropL_one, dropL_more, callP_eq, callM_true, sEq_self, Bool.not_true]
theorem cmp_Compare (a b : ByteArray) : cL Try.prog 56 [.prim (.string a), .prim (.string b)] S tk k = some (.int (cmpS a b), S, tk, k) := by
  have h1 := fun S tk k => cmp_isNaN S tk k a
  have h2 := fun S tk k => cmp_isNaN S tk k b
  have hg : (!(sLt a b || sEq a b)) = sLt b a := by
    rw [sEq_nm, sLt_nm, sLt_nm]
    rcases nlt_tri a b with h | h | h
    · have h2 : ¬ nm b < nm a := fun h2 => nlt_irrefl _ (nlt_trans h h2)
      simp [h, h2]
    · subst h; simp [nlt_irrefl]
    · have hne : ¬ a = b := fun e => by rw [e] at h; exact nlt_irrefl _ h
      have h2 : ¬ nm a < nm b := fun h2 => nlt_irrefl _ (nlt_trans h h2)
      simp [h, h2, hne]
  unfold cmpS
  refine call_pure Try.func56 rfl rfl (by decide +kernel) (by decide +kernel) Try.ntmps56 rfl rfl _ _ _ rfl ?_; rw [RK_KX]
  cases hl : sLt a b with
  | true => simp (maxSteps := 1000000) +contextual (disch := first | with_reducible assumption | exact ⟨rfl⟩ | exact ⟨rfl, rfl⟩ | (refine _root_.id ?_; kernel_rfl) | omega) only [evs, ext_mv, nth, put, putT, getT, binInt, binStr, binBool, aUn, outA, resA, mapO, resA1, oneOf, w1, w2, w3, bots, cond_true, cond_false, if_true, if_false, ite_true, ite_false, reduceIte, reduceCtorEq, implies_true, Nat.reduceAdd, Nat.reduceSub, AV.int, AV.bool, AV.str, Nat.reduceBEq, Nat.reduceEqDiff, Nat.reduceMul, Nat.reduceLT, Nat.reduceLeDiff, Int.reduceNeg, BEq.rfl, beq_self_eq_true, tabl, cellsOf, fldA, ldA, stA, entAt, partA, takeN, over, leafOk, Value.oneCell', idxA, nilA, cellsEq, fillA, elemsA, pure1, pure2, reps, chkA, tys, Try.results56, KX_draw, KX_drawQ, KX_tail, lastO_one, lastO_more, dropL_one, dropL_more, callP_eq, callM_true, h1, h2, hl]
  | false =>
    rw [hl, Bool.false_or] at hg
    cases hl2 : sLt b a with
    | true => rw [hl2] at hg; simp (maxSteps := 1000000) +contextual (disch := first | with_reducible assumption | exact ⟨rfl⟩ | exact ⟨rfl, rfl⟩ | (refine _root_.id ?_; kernel_rfl) | omega) only [evs, ext_mv, nth, put, putT, getT, binInt, binStr, binBool, aUn, outA, resA, mapO, resA1, oneOf, w1, w2, w3, bots, cond_true, cond_false, if_true, if_false, ite_true, ite_false, reduceIte, reduceCtorEq, implies_true, Nat.reduceAdd, Nat.reduceSub, AV.int, AV.bool, AV.str, Nat.reduceBEq, Nat.reduceEqDiff, Nat.reduceMul, Nat.reduceLT, Nat.reduceLeDiff, Int.reduceNeg, BEq.rfl, beq_self_eq_true, tabl, cellsOf, fldA, ldA, stA, entAt, partA, takeN, over, leafOk, Value.oneCell', idxA, nilA, cellsEq, fillA, elemsA, pure1, pure2, reps, chkA, tys, Try.results56, KX_draw, KX_drawQ, KX_tail, lastO_one, lastO_more, dropL_one, dropL_more, callP_eq, callM_true, h1, h2, hl, Bool.false_or, hg]
    | false => rw [hl2] at hg; simp (maxSteps := 1000000) +contextual (disch := first | with_reducible assumption | exact ⟨rfl⟩ | exact ⟨rfl, rfl⟩ | (refine _root_.id ?_; kernel_rfl) | omega) only [evs, ext_mv, nth, put, putT, getT, binInt, binStr, binBool, aUn, outA, resA, mapO, resA1, oneOf, w1, w2, w3, bots, cond_true, cond_false, if_true, if_false, ite_true, ite_false, reduceIte, reduceCtorEq, implies_true, Nat.reduceAdd, Nat.reduceSub, AV.int, AV.bool, AV.str, Nat.reduceBEq, Nat.reduceEqDiff, Nat.reduceMul, Nat.reduceLT, Nat.reduceLeDiff, Int.reduceNeg, BEq.rfl, beq_self_eq_true, tabl, cellsOf, fldA, ldA, stA, entAt, partA, takeN, over, leafOk, Value.oneCell', idxA, nilA, cellsEq, fillA, elemsA, pure1, pure2, reps, chkA, tys, Try.results56, KX_draw, KX_drawQ, KX_tail, lastO_one, lastO_more, dropL_one, dropL_more, callP_eq, callM_true, h1, h2, hl, Bool.false_or, hg]
theorem subst_fn (c : ByteArray × Int) (s : ByteArray) : cL Try.prog 55 [.agg (coefC c), .prim (.string s)] S tk k = some (.int (cmpS c.1 s), S, tk, k) := by
  have hC := fun S tk k => cmp_Compare S tk k c.1 s
  refine call_pure Try.func55 rfl rfl (by decide +kernel) (by decide +kernel) Try.ntmps55 rfl rfl _ _ _ rfl ?_; rw [RK_KX]
  simp (maxSteps := 1000000) +contextual (disch := first | with_reducible assumption | exact ⟨rfl⟩ | exact ⟨rfl, rfl⟩ | (refine _root_.id ?_; kernel_rfl) | omega) only [evs, ext_mv, nth, put, putT, getT, binInt, binStr, binBool, aUn, outA, resA, mapO, resA1, oneOf, w1, w2, w3, bots, cond_true, cond_false, if_true, if_false, ite_true, ite_false, reduceIte, reduceCtorEq, implies_true, Nat.reduceAdd, Nat.reduceSub, AV.int, AV.bool, AV.str, Nat.reduceBEq, Nat.reduceEqDiff, Nat.reduceMul, Nat.reduceLT, Nat.reduceLeDiff, Int.reduceNeg, BEq.rfl, beq_self_eq_true, tabl, cellsOf, fldA, ldA, stA, entAt, partA, takeN, over, leafOk, Value.oneCell', idxA, nilA, cellsEq, fillA, elemsA, pure1, pure2, reps, chkA, tys, Try.results55, KX_draw, KX_drawQ, KX_tail, lastO_one, lastO_more, dropL_one, dropL_more, callP_eq, callM_true, coefC, hC]
theorem search_fn (cs : List (ByteArray × Int)) (s : ByteArray) (hinc : Inc (cs.map (·.1))) (hl : cs.length ≤ 100000) : cL Try.prog 54 [coefsA cs, .prim (.string s), .fn 55 []] S tk k = some (.tup [.int (posF s cs : Nat), .bool (hitF s cs)], S, tk, k) := by
  have hpl := posF_le s cs
  refine call_pure Try.func54 rfl rfl (by decide +kernel) (by decide +kernel) Try.ntmps54 rfl rfl _ _ _ rfl ?_; rw [RK_KX]
  simp (maxSteps := 1000000) +contextual (disch := first | with_reducible assumption | exact ⟨rfl⟩ | exact ⟨rfl, rfl⟩ | (refine _root_.id ?_; kernel_rfl) | omega) only [evs, ext_mv, nth, put, putT, getT, binInt, binStr, binBool, aUn, outA, resA, mapO, resA1, oneOf, w1, w2, w3, bots, cond_true, cond_false, if_true, if_false, ite_true, ite_false, reduceIte, reduceCtorEq, implies_true, Nat.reduceAdd, Nat.reduceSub, AV.int, AV.bool, AV.str, Nat.reduceBEq, Nat.reduceEqDiff, Nat.reduceMul, Nat.reduceLT, Nat.reduceLeDiff, Int.reduceNeg, BEq.rfl, beq_self_eq_true, tabl, cellsOf, fldA, ldA, stA, entAt, partA, takeN, over, leafOk, Value.oneCell', idxA, nilA, cellsEq, fillA, elemsA, pure1, pure2, reps, chkA, tys, Try.results54, KX_draw, KX_drawQ, KX_tail, lastO_one, lastO_more, dropL_one, dropL_more, callP_eq, callM_true, coefsA]
  refine loop1 (P := Try.prog) (fun x st => st.T.length = 49 ∧ (x.1 ≤ posF s cs) ∧ (posF s cs ≤ x.2) ∧ (x.2 ≤ cs.length) ∧ getT st.T 0 = coefsA cs ∧ getT st.T 1 = .prim (.string s) ∧ getT st.T 2 = .fn 55 [] ∧ getT st.T 8 = .int cs.length ∧ getT st.T 9 = .int (x.1 : Nat) ∧ getT st.T 10 = .int (x.2 : Nat) ∧ st.S = []) (fun x => x.2 - x.1) (fun x => .tup [.int (posF s cs : Nat), .bool (hitF s cs)]) (0, cs.length) ?_ ?_
  case refine_2 => exact ⟨rfl, Nat.zero_le _, posF_le s cs, Nat.le_refl _, rfl, rfl, rfl, rfl, rfl, rfl, rfl⟩
  rintro ⟨i, j⟩ ⟨T, S', tk', n'⟩ ⟨hl, hi, hj, hjn, e0, e1, e2, e8, e9, e10, eS⟩ IH
  simp only at hi hj hjn e0 e1 e2 e8 e9 e10 eS
  subst eS
  obtain ⟨g, hg, hT⟩ := tab_of hl
  rw [hg] at e0 e1 e2 e8 e9 e10
  subst hT
  clear hg hl
  by_cases hlt : i < j
  · have d1 : decide ((i : Int) < (j : Int)) = true := by simpa using hlt
    obtain ⟨h, hh⟩ : ∃ h, h = (i + j) / 2 := ⟨_, rfl⟩
    have w1 : IntKind.i64.wrap ((i : Int) + (j : Int)) = ((i + j : Nat) : Int) := by rw [wrap_of (by unfold i64; omega)]; omega
    have w2 : IntKind.u64.wrap ((i + j : Nat) : Int) = ((i + j : Nat) : Int) := by rw [uwrap_of (by omega) (by omega)]
    have w3 : ((i + j : Nat) : Int).fdiv (2 ^ Int.toNat 1) = (h : Int) := by
      show ((i + j : Nat) : Int).fdiv 2 = (h : Int)
      rw [Int.fdiv_eq_ediv_of_nonneg _ (by omega)]; omega
    have w6 : (0 ≤ (1 : Int) ∧ (1 : Int) < 64 ∧ IntKind.u64.bits = 64) = True := eq_true ⟨by decide, by decide, rfl⟩
    have w4 : IntKind.u64.wrap (h : Int) = (h : Int) := by rw [uwrap_of (by omega) (by omega)]
    have w5 : IntKind.i64.wrap (h : Int) = (h : Int) := by rw [wrap_of (by unfold i64; omega)]
    have hiw := wrap_add (i := h) (m := 0) (by omega)
    obtain ⟨a, ha⟩ := nth_some (show h < cs.length by omega)
    have ha' := nth_coef ha
    have hL := fun S tk k => subst_fn S tk k a s
    simp only [coefC] at ha' hL
    have hc0 := cmpS_lt a.1 s
    rw [posF_less hinc ha] at hc0
    by_cases hc : h < posF s cs
    · have d2 : decide (h < posF s cs) = true := by simpa using hc
      rw [d2] at hc0
      simp (maxSteps := 1000000) +contextual (disch := first | with_reducible assumption | exact ⟨rfl⟩ | exact ⟨rfl, rfl⟩ | (refine _root_.id ?_; kernel_rfl) | omega) only [evs, ext_mv, nth, put, putT, getT, binInt, binStr, binBool, aUn, outA, resA, mapO, resA1, oneOf, w1, w2, w3, bots, cond_true, cond_false, if_true, if_false, ite_true, ite_false, reduceIte, reduceCtorEq, implies_true, Nat.reduceAdd, Nat.reduceSub, AV.int, AV.bool, AV.str, Nat.reduceBEq, Nat.reduceEqDiff, Nat.reduceMul, Nat.reduceLT, Nat.reduceLeDiff, Int.reduceNeg, BEq.rfl, beq_self_eq_true, tabl, cellsOf, fldA, ldA, stA, entAt, partA, takeN, over, leafOk, Value.oneCell', idxA, nilA, cellsEq, fillA, elemsA, pure1, pure2, reps, chkA, tys, Try.results54, KX_draw, KX_drawQ, KX_tail, lastO_one, lastO_more, dropL_one, dropL_more, callP_eq, callM_true, e0, e1, e2, e8, e9, e10, d1, coefsA, w1, w2, w3, w4, w5, w6, hiw, ha', hL, hc0]
      exact IH (h + 1, j) _ (by first | omega | (simp only; omega)) ⟨rfl, by first | omega | (dsimp only; omega), hj, hjn, (by first | rfl | simp only [getT, List.map_append, List.map_cons, List.map_nil, and_self]), (by first | rfl | simp only [getT, List.map_append, List.map_cons, List.map_nil, and_self]), (by first | rfl | simp only [getT, List.map_append, List.map_cons, List.map_nil, and_self]), (by first | rfl | simp only [getT, List.map_append, List.map_cons, List.map_nil, and_self]), (by first | rfl | simp only [getT, List.map_append, List.map_cons, List.map_nil, and_self]), (by first | rfl | simp only [getT, List.map_append, List.map_cons, List.map_nil, and_self]), (by first | rfl | simp only [getT, List.map_append, List.map_cons, List.map_nil, and_self])⟩
    · have d2 : decide (h < posF s cs) = false := by simpa using hc
      rw [d2] at hc0
      simp (maxSteps := 1000000) +contextual (disch := first | with_reducible assumption | exact ⟨rfl⟩ | exact ⟨rfl, rfl⟩ | (refine _root_.id ?_; kernel_rfl) | omega) only [evs, ext_mv, nth, put, putT, getT, binInt, binStr, binBool, aUn, outA, resA, mapO, resA1, oneOf, w1, w2, w3, bots, cond_true, cond_false, if_true, if_false, ite_true, ite_false, reduceIte, reduceCtorEq, implies_true, Nat.reduceAdd, Nat.reduceSub, AV.int, AV.bool, AV.str, Nat.reduceBEq, Nat.reduceEqDiff, Nat.reduceMul, Nat.reduceLT, Nat.reduceLeDiff, Int.reduceNeg, BEq.rfl, beq_self_eq_true, tabl, cellsOf, fldA, ldA, stA, entAt, partA, takeN, over, leafOk, Value.oneCell', idxA, nilA, cellsEq, fillA, elemsA, pure1, pure2, reps, chkA, tys, Try.results54, KX_draw, KX_drawQ, KX_tail, lastO_one, lastO_more, dropL_one, dropL_more, callP_eq, callM_true, e0, e1, e2, e8, e9, e10, d1, coefsA, w1, w2, w3, w4, w5, w6, hiw, ha', hL, hc0]
      exact IH (i, h) _ (by first | omega | (simp only; omega)) ⟨rfl, hi, by first | omega | (dsimp only; omega), by first | omega | (dsimp only; omega), (by first | rfl | simp only [getT, List.map_append, List.map_cons, List.map_nil, and_self]), (by first | rfl | simp only [getT, List.map_append, List.map_cons, List.map_nil, and_self]), (by first | rfl | simp only [getT, List.map_append, List.map_cons, List.map_nil, and_self]), (by first | rfl | simp only [getT, List.map_append, List.map_cons, List.map_nil, and_self]), (by first | rfl | simp only [getT, List.map_append, List.map_cons, List.map_nil, and_self]), (by first | rfl | simp only [getT, List.map_append, List.map_cons, List.map_nil, and_self]), (by first | rfl | simp only [getT, List.map_append, List.map_cons, List.map_nil, and_self])⟩
  · have d1 : decide ((i : Int) < (j : Int)) = false := by simpa using hlt
    have hie : i = posF s cs := by omega
    unfold hitF
    rw [← hie]
    by_cases hlen : i < cs.length
    · have d2 : decide ((i : Int) < (cs.length : Int)) = true := by simpa using hlen
      obtain ⟨a, ha⟩ := nth_some hlen
      have ha' := nth_coef ha
      have hL := fun S tk k => subst_fn S tk k a s
      simp only [coefC] at ha' hL
      have hc0 := cmpS_eq a.1 s
      simp (maxSteps := 1000000) +contextual (disch := first | with_reducible assumption | exact ⟨rfl⟩ | exact ⟨rfl, rfl⟩ | (refine _root_.id ?_; kernel_rfl) | omega) only [evs, ext_mv, nth, put, putT, getT, binInt, binStr, binBool, aUn, outA, resA, mapO, resA1, oneOf, w1, w2, w3, bots, cond_true, cond_false, if_true, if_false, ite_true, ite_false, reduceIte, reduceCtorEq, implies_true, Nat.reduceAdd, Nat.reduceSub, AV.int, AV.bool, AV.str, Nat.reduceBEq, Nat.reduceEqDiff, Nat.reduceMul, Nat.reduceLT, Nat.reduceLeDiff, Int.reduceNeg, BEq.rfl, beq_self_eq_true, tabl, cellsOf, fldA, ldA, stA, entAt, partA, takeN, over, leafOk, Value.oneCell', idxA, nilA, cellsEq, fillA, elemsA, pure1, pure2, reps, chkA, tys, Try.results54, KX_draw, KX_drawQ, KX_tail, lastO_one, lastO_more, dropL_one, dropL_more, callP_eq, callM_true, e0, e1, e2, e8, e9, e10, d1, d2, coefsA, ha', hL, hc0]
      rw [ha]
    · have d2 : decide ((i : Int) < (cs.length : Int)) = false := by simpa using hlen
      have hnn : nth cs i = none := by
        cases hx : nth cs i with
        | none => rfl
        | some x => exact absurd (nth_lt hx) hlen
      simp (maxSteps := 1000000) +contextual (disch := first | with_reducible assumption | exact ⟨rfl⟩ | exact ⟨rfl, rfl⟩ | (refine _root_.id ?_; kernel_rfl) | omega) only [evs, ext_mv, nth, put, putT, getT, binInt, binStr, binBool, aUn, outA, resA, mapO, resA1, oneOf, w1, w2, w3, bots, cond_true, cond_false, if_true, if_false, ite_true, ite_false, reduceIte, reduceCtorEq, implies_true, Nat.reduceAdd, Nat.reduceSub, AV.int, AV.bool, AV.str, Nat.reduceBEq, Nat.reduceEqDiff, Nat.reduceMul, Nat.reduceLT, Nat.reduceLeDiff, Int.reduceNeg, BEq.rfl, beq_self_eq_true, tabl, cellsOf, fldA, ldA, stA, entAt, partA, takeN, over, leafOk, Value.oneCell', idxA, nilA, cellsEq, fillA, elemsA, pure1, pure2, reps, chkA, tys, Try.results54, KX_draw, KX_drawQ, KX_tail, lastO_one, lastO_more, dropL_one, dropL_more, callP_eq, callM_true, e0, e1, e2, e8, e9, e10, d1, d2, coefsA]
      rw [hnn]
end
end Go.Proofs.Ytkghgdkkholieaa
