/-
  Texts laid together: B3, B4, B5, B6.
-/
import Derived.Test.YtmgbmbganlndkaaZFScales11
/-
  What the functions of the numbers compute: comparing, opposite numbers, ints.
-/

namespace Go.Proofs.Ytmgbmbganlndkaa
open Go

theorem lt_top : ∀ {l r : List Int} {i : Nat} {x y : Int}, l.length = r.length → okD l → okD r → nth l i = some x → nth r i = some y → x < y → (∀ j, i < j → nth l j = nth r j) → val l < val r
  | d :: l, e :: r, 0, x, y, hl, h1, h2, hx, hy, hxy, he => by
    simp only [nth, Option.some.injEq] at hx hy; subst hx hy
    have : l = r := by
      apply List.ext_getElem?
      intro j
      have := he (j + 1) (by omega)
      simp only [nth, nth_get] at this; exact this
    subst this; simp only [val]; omega
  | d :: l, e :: r, i + 1, x, y, hl, h1, h2, hx, hy, hxy, he => by
    have ih := lt_top (l := l) (r := r) (i := i) (by simpa using hl) (fun z hz => h1 z (by simp [hz])) (fun z hz => h2 z (by simp [hz])) hx hy hxy fun j hj => he (j + 1) (by omega)
    have g1 := h1 d (by simp)
    have g2 := h2 e (by simp)
    simp only [val]; omega
  | [], _, _, _, _, _, _, _, hx, _, _, _ => by simp [nth] at hx
  | _ :: _, [], _, _, _, _, _, _, _, hy, _, _ => by simp [nth] at hy
def cmpN (a b : Nat) : Int := if a < b then -1 else if b < a then 1 else 0
theorem cmp_shorter {a b : Nat} (h : (dig a).length < (dig b).length) : a < b := by
  have h1 := dig_len (n := a) (k := (dig a).length)
  have h2 := dig_len (n := b) (k := (dig a).length)
  have h3 : ¬ (dig b).length ≤ (dig a).length := by omega
  rw [h2] at h3
  have := h1.1 (Nat.le_refl _)
  omega
theorem cmp_at {a b i : Nat} {x y : Int} (hl : (dig a).length = (dig b).length) (hx : nth (dig a) i = some x) (hy : nth (dig b) i = some y) (h : x < y) (he : ∀ j, i < j → nth (dig a) j = nth (dig b) j) : a < b := by
  have := lt_top hl (okD_dig a) (okD_dig b) hx hy h he
  rw [val_dig, val_dig] at this; omega
theorem cmp_same {a b : Nat} (he : ∀ j, nth (dig a) j = nth (dig b) j) : a = b := by
  refine dig_inj (List.ext_getElem? fun j => ?_)
  rw [← nth_get, ← nth_get]; exact he j
theorem top_idx {n : Nat} (hl : n ≤ 1000000) : IntKind.i64.wrap ((n : Int) - 1) = (n : Int) - 1 := wrap_of (by unfold i64; omega)

section
variable (S : List Ent) (tk : List Nat) (k : Nat)
theorem big_compare (a b : Nat) (ha : (dig a).length ≤ 1000000) (hb : (dig b).length ≤ 1000000) : cL Try.prog 64 [digA (dig a), digA (dig b)] S tk k = some (.int (cmpN a b), S, tk, k) := by
  refine call_pure Try.func64 rfl rfl (by decide +kernel) (by decide +kernel) Try.ntmps64 rfl rfl _ _ _ rfl ?_; rw [RK_KX]
  by_cases hl : (dig a).length = (dig b).length
  case neg =>
    have d1 : (((dig a).length : Int) != ((dig b).length : Int)) = true := by simp; omega
    rcases Nat.lt_or_ge (dig a).length (dig b).length with h | h
    · have d2 : decide (((dig a).length : Int) < ((dig b).length : Int)) = true := by simpa using h
      have := cmp_shorter h
      simp (maxSteps := 1000000) +contextual (disch := first | with_reducible assumption | exact ⟨rfl⟩ | exact ⟨rfl, rfl⟩ | (refine _root_.id ?_; kernel_rfl) | omega) only [evs, ext_mv, nth, put, putT, getT, binInt, binStr, binBool, aUn, outA, resA, mapO, resA1, oneOf, w1, w2, w3, bots, cond_true, cond_false, if_true, if_false, ite_true, ite_false, reduceIte, reduceCtorEq, implies_true, Nat.reduceAdd, Nat.reduceSub, AV.int, AV.bool, AV.str, Nat.reduceBEq, Nat.reduceEqDiff, Nat.reduceMul, Nat.reduceLT, Nat.reduceLeDiff, Int.reduceNeg, BEq.rfl, beq_self_eq_true, tabl, cellsOf, fldA, ldA, stA, entAt, partA, takeN, over, leafOk, Value.oneCell', idxA, nilA, cellsEq, fillA, elemsA, pure1, pure2, reps, chkA, tys, Try.results64, KX_draw, KX_drawQ, KX_tail, lastO_one, lastO_more, dropL_one, dropL_more, callP_eq, callM_true, digA, d1, d2]
      simp [cmpN, this]
    · have d2 : decide (((dig a).length : Int) < ((dig b).length : Int)) = false := by simp; omega
      have := cmp_shorter (a := b) (b := a) (by omega)
      simp (maxSteps := 1000000) +contextual (disch := first | with_reducible assumption | exact ⟨rfl⟩ | exact ⟨rfl, rfl⟩ | (refine _root_.id ?_; kernel_rfl) | omega) only [evs, ext_mv, nth, put, putT, getT, binInt, binStr, binBool, aUn, outA, resA, mapO, resA1, oneOf, w1, w2, w3, bots, cond_true, cond_false, if_true, if_false, ite_true, ite_false, reduceIte, reduceCtorEq, implies_true, Nat.reduceAdd, Nat.reduceSub, AV.int, AV.bool, AV.str, Nat.reduceBEq, Nat.reduceEqDiff, Nat.reduceMul, Nat.reduceLT, Nat.reduceLeDiff, Int.reduceNeg, BEq.rfl, beq_self_eq_true, tabl, cellsOf, fldA, ldA, stA, entAt, partA, takeN, over, leafOk, Value.oneCell', idxA, nilA, cellsEq, fillA, elemsA, pure1, pure2, reps, chkA, tys, Try.results64, KX_draw, KX_drawQ, KX_tail, lastO_one, lastO_more, dropL_one, dropL_more, callP_eq, callM_true, digA, d1, d2]
      rw [cmpN, if_neg (by omega), if_pos this]
  have d1 : (((dig a).length : Int) != ((dig b).length : Int)) = false := by simp; omega
  have d3 := top_idx ha
  simp (maxSteps := 1000000) +contextual (disch := first | with_reducible assumption | exact ⟨rfl⟩ | exact ⟨rfl, rfl⟩ | (refine _root_.id ?_; kernel_rfl) | omega) only [evs, ext_mv, nth, put, putT, getT, binInt, binStr, binBool, aUn, outA, resA, mapO, resA1, oneOf, w1, w2, w3, bots, cond_true, cond_false, if_true, if_false, ite_true, ite_false, reduceIte, reduceCtorEq, implies_true, Nat.reduceAdd, Nat.reduceSub, AV.int, AV.bool, AV.str, Nat.reduceBEq, Nat.reduceEqDiff, Nat.reduceMul, Nat.reduceLT, Nat.reduceLeDiff, Int.reduceNeg, BEq.rfl, beq_self_eq_true, tabl, cellsOf, fldA, ldA, stA, entAt, partA, takeN, over, leafOk, Value.oneCell', idxA, nilA, cellsEq, fillA, elemsA, pure1, pure2, reps, chkA, tys, Try.results64, KX_draw, KX_drawQ, KX_tail, lastO_one, lastO_more, dropL_one, dropL_more, callP_eq, callM_true, digA, d1, d3]
  refine loop1 (fun x st => st.T.length = 41 ∧ (x ≤ (dig a).length) ∧ (∀ j, x ≤ j → nth (dig a) j = nth (dig b) j) ∧ getT st.T 0 = digA (dig a) ∧ getT st.T 1 = digA (dig b) ∧ getT st.T 5 = .int ((x : Int) - 1) ∧ st.S = []) (fun x => x) (fun x => .int (cmpN a b)) ((dig a).length) ?_ ?_
  case refine_2 => exact ⟨rfl, Nat.le_refl _, fun j hj => by rw [nth_get, nth_get, List.getElem?_eq_none hj, List.getElem?_eq_none (by omega)], rfl, rfl, rfl, rfl⟩
  rintro n ⟨T, S', tk', n'⟩ ⟨hl, hn, he, e0, e1, e5, eS⟩ IH
  subst eS
  obtain ⟨g, hg, hT⟩ := tab_of hl
  rw [hg] at e0 e1 e5
  subst hT
  clear hg hl
  by_cases h0 : n = 0
  · have d2 : decide ((n : Int) - 1 ≥ 0) = false := by simp; omega
    have := cmp_same fun j => he j (by omega)
    subst this
    simp (maxSteps := 1000000) +contextual (disch := first | with_reducible assumption | exact ⟨rfl⟩ | exact ⟨rfl, rfl⟩ | (refine _root_.id ?_; kernel_rfl) | omega) only [evs, ext_mv, nth, put, putT, getT, binInt, binStr, binBool, aUn, outA, resA, mapO, resA1, oneOf, w1, w2, w3, bots, cond_true, cond_false, if_true, if_false, ite_true, ite_false, reduceIte, reduceCtorEq, implies_true, Nat.reduceAdd, Nat.reduceSub, AV.int, AV.bool, AV.str, Nat.reduceBEq, Nat.reduceEqDiff, Nat.reduceMul, Nat.reduceLT, Nat.reduceLeDiff, Int.reduceNeg, BEq.rfl, beq_self_eq_true, tabl, cellsOf, fldA, ldA, stA, entAt, partA, takeN, over, leafOk, Value.oneCell', idxA, nilA, cellsEq, fillA, elemsA, pure1, pure2, reps, chkA, tys, Try.results64, KX_draw, KX_drawQ, KX_tail, lastO_one, lastO_more, dropL_one, dropL_more, callP_eq, callM_true, e0, e1, e5, d2, digA]
    simp [cmpN]
  · have d2 : decide ((n : Int) - 1 ≥ 0) = true := by simp; omega
    have hi : (n : Int) - 1 = ((n - 1 : Nat) : Int) := by omega
    obtain ⟨x, hx⟩ := nth_some (show n - 1 < (dig a).length by omega)
    obtain ⟨y, hy⟩ := nth_some (show n - 1 < (dig b).length by omega)
    have hx' := nth_dig hx
    have hy' := nth_dig hy
    have he' : ∀ j, n - 1 < j → nth (dig a) j = nth (dig b) j := fun j hj => he j (by omega)
    have hp := top_idx (n := n - 1) (by omega)
    rw [hi] at e5 d2
    simp (maxSteps := 1000000) +contextual (disch := first | with_reducible assumption | exact ⟨rfl⟩ | exact ⟨rfl, rfl⟩ | (refine _root_.id ?_; kernel_rfl) | omega) only [evs, ext_mv, nth, put, putT, getT, binInt, binStr, binBool, aUn, outA, resA, mapO, resA1, oneOf, w1, w2, w3, bots, cond_true, cond_false, if_true, if_false, ite_true, ite_false, reduceIte, reduceCtorEq, implies_true, Nat.reduceAdd, Nat.reduceSub, AV.int, AV.bool, AV.str, Nat.reduceBEq, Nat.reduceEqDiff, Nat.reduceMul, Nat.reduceLT, Nat.reduceLeDiff, Int.reduceNeg, BEq.rfl, beq_self_eq_true, tabl, cellsOf, fldA, ldA, stA, entAt, partA, takeN, over, leafOk, Value.oneCell', idxA, nilA, cellsEq, fillA, elemsA, pure1, pure2, reps, chkA, tys, Try.results64, KX_draw, KX_drawQ, KX_tail, lastO_one, lastO_more, dropL_one, dropL_more, callP_eq, callM_true, e0, e1, e5, d2, digA, hx', hy', hp]
    refine ⟨fun h1 => ?_, fun h1 => ⟨fun h2 => ?_, fun h2 => ?_⟩⟩
    · have := cmp_at hl hx hy (by simpa using h1) he'
      simp [cmpN, this]
    · have := cmp_at hl.symm hy hx (by simpa using h2) fun j hj => (he' j hj).symm
      rw [cmpN, if_neg (by omega), if_pos this]
    · have hxy : x = y := by simp at h1 h2; omega
      exact IH (n - 1) _ (by first | omega | (simp only; omega)) ⟨rfl, by first | omega | (dsimp only; omega), fun j hj => by by_cases e : j = n - 1; (· rw [e, hx, hy, hxy]); exact he' j (by first | omega | (dsimp only; omega)), (by first | rfl | simp only [getT, List.map_append, List.map_cons, List.map_nil, digC, digA]), (by first | rfl | simp only [getT, List.map_append, List.map_cons, List.map_nil, digC, digA]), (by first | rfl | simp only [getT, List.map_append, List.map_cons, List.map_nil, digC, digA]), (by first | rfl | simp only [getT, List.map_append, List.map_cons, List.map_nil, digC, digA])⟩
theorem R02_order (a b : Nat) (ha : (dig a).length ≤ 1000000) (hb : (dig b).length ≤ 1000000) : cL Try.prog 71 [digA (dig a), digA (dig b)] S tk k = some (.int (cmpN a b), S, tk, k) := by
  refine call_pure Try.func71 rfl rfl (by decide +kernel) (by decide +kernel) Try.ntmps71 rfl rfl _ _ _ rfl ?_; rw [RK_KX]
  by_cases hl : (dig a).length = (dig b).length
  case neg =>
    have d1 : (((dig a).length : Int) != ((dig b).length : Int)) = true := by simp; omega
    rcases Nat.lt_or_ge (dig a).length (dig b).length with h | h
    · have d2 : decide (((dig a).length : Int) < ((dig b).length : Int)) = true := by simpa using h
      have := cmp_shorter h
      simp (maxSteps := 1000000) +contextual (disch := first | with_reducible assumption | exact ⟨rfl⟩ | exact ⟨rfl, rfl⟩ | (refine _root_.id ?_; kernel_rfl) | omega) only [evs, ext_mv, nth, put, putT, getT, binInt, binStr, binBool, aUn, outA, resA, mapO, resA1, oneOf, w1, w2, w3, bots, cond_true, cond_false, if_true, if_false, ite_true, ite_false, reduceIte, reduceCtorEq, implies_true, Nat.reduceAdd, Nat.reduceSub, AV.int, AV.bool, AV.str, Nat.reduceBEq, Nat.reduceEqDiff, Nat.reduceMul, Nat.reduceLT, Nat.reduceLeDiff, Int.reduceNeg, BEq.rfl, beq_self_eq_true, tabl, cellsOf, fldA, ldA, stA, entAt, partA, takeN, over, leafOk, Value.oneCell', idxA, nilA, cellsEq, fillA, elemsA, pure1, pure2, reps, chkA, tys, Try.results71, KX_draw, KX_drawQ, KX_tail, lastO_one, lastO_more, dropL_one, dropL_more, callP_eq, callM_true, digA, d1, d2]
      simp [cmpN, this]
    · have d2 : decide (((dig a).length : Int) < ((dig b).length : Int)) = false := by simp; omega
      have := cmp_shorter (a := b) (b := a) (by omega)
      simp (maxSteps := 1000000) +contextual (disch := first | with_reducible assumption | exact ⟨rfl⟩ | exact ⟨rfl, rfl⟩ | (refine _root_.id ?_; kernel_rfl) | omega) only [evs, ext_mv, nth, put, putT, getT, binInt, binStr, binBool, aUn, outA, resA, mapO, resA1, oneOf, w1, w2, w3, bots, cond_true, cond_false, if_true, if_false, ite_true, ite_false, reduceIte, reduceCtorEq, implies_true, Nat.reduceAdd, Nat.reduceSub, AV.int, AV.bool, AV.str, Nat.reduceBEq, Nat.reduceEqDiff, Nat.reduceMul, Nat.reduceLT, Nat.reduceLeDiff, Int.reduceNeg, BEq.rfl, beq_self_eq_true, tabl, cellsOf, fldA, ldA, stA, entAt, partA, takeN, over, leafOk, Value.oneCell', idxA, nilA, cellsEq, fillA, elemsA, pure1, pure2, reps, chkA, tys, Try.results71, KX_draw, KX_drawQ, KX_tail, lastO_one, lastO_more, dropL_one, dropL_more, callP_eq, callM_true, digA, d1, d2]
      rw [cmpN, if_neg (by omega), if_pos this]
  have d1 : (((dig a).length : Int) != ((dig b).length : Int)) = false := by simp; omega
  have d3 := top_idx ha
  simp (maxSteps := 1000000) +contextual (disch := first | with_reducible assumption | exact ⟨rfl⟩ | exact ⟨rfl, rfl⟩ | (refine _root_.id ?_; kernel_rfl) | omega) only [evs, ext_mv, nth, put, putT, getT, binInt, binStr, binBool, aUn, outA, resA, mapO, resA1, oneOf, w1, w2, w3, bots, cond_true, cond_false, if_true, if_false, ite_true, ite_false, reduceIte, reduceCtorEq, implies_true, Nat.reduceAdd, Nat.reduceSub, AV.int, AV.bool, AV.str, Nat.reduceBEq, Nat.reduceEqDiff, Nat.reduceMul, Nat.reduceLT, Nat.reduceLeDiff, Int.reduceNeg, BEq.rfl, beq_self_eq_true, tabl, cellsOf, fldA, ldA, stA, entAt, partA, takeN, over, leafOk, Value.oneCell', idxA, nilA, cellsEq, fillA, elemsA, pure1, pure2, reps, chkA, tys, Try.results71, KX_draw, KX_drawQ, KX_tail, lastO_one, lastO_more, dropL_one, dropL_more, callP_eq, callM_true, digA, d1, d3]
  refine loop1 (fun x st => st.T.length = 41 ∧ (x ≤ (dig a).length) ∧ (∀ j, x ≤ j → nth (dig a) j = nth (dig b) j) ∧ getT st.T 0 = digA (dig a) ∧ getT st.T 1 = digA (dig b) ∧ getT st.T 5 = .int ((x : Int) - 1) ∧ st.S = []) (fun x => x) (fun x => .int (cmpN a b)) ((dig a).length) ?_ ?_
  case refine_2 => exact ⟨rfl, Nat.le_refl _, fun j hj => by rw [nth_get, nth_get, List.getElem?_eq_none hj, List.getElem?_eq_none (by omega)], rfl, rfl, rfl, rfl⟩
  rintro n ⟨T, S', tk', n'⟩ ⟨hl, hn, he, e0, e1, e5, eS⟩ IH
  subst eS
  obtain ⟨g, hg, hT⟩ := tab_of hl
  rw [hg] at e0 e1 e5
  subst hT
  clear hg hl
  by_cases h0 : n = 0
  · have d2 : decide ((n : Int) - 1 ≥ 0) = false := by simp; omega
    have := cmp_same fun j => he j (by omega)
    subst this
    simp (maxSteps := 1000000) +contextual (disch := first | with_reducible assumption | exact ⟨rfl⟩ | exact ⟨rfl, rfl⟩ | (refine _root_.id ?_; kernel_rfl) | omega) only [evs, ext_mv, nth, put, putT, getT, binInt, binStr, binBool, aUn, outA, resA, mapO, resA1, oneOf, w1, w2, w3, bots, cond_true, cond_false, if_true, if_false, ite_true, ite_false, reduceIte, reduceCtorEq, implies_true, Nat.reduceAdd, Nat.reduceSub, AV.int, AV.bool, AV.str, Nat.reduceBEq, Nat.reduceEqDiff, Nat.reduceMul, Nat.reduceLT, Nat.reduceLeDiff, Int.reduceNeg, BEq.rfl, beq_self_eq_true, tabl, cellsOf, fldA, ldA, stA, entAt, partA, takeN, over, leafOk, Value.oneCell', idxA, nilA, cellsEq, fillA, elemsA, pure1, pure2, reps, chkA, tys, Try.results71, KX_draw, KX_drawQ, KX_tail, lastO_one, lastO_more, dropL_one, dropL_more, callP_eq, callM_true, e0, e1, e5, d2, digA]
    simp [cmpN]
  · have d2 : decide ((n : Int) - 1 ≥ 0) = true := by simp; omega
    have hi : (n : Int) - 1 = ((n - 1 : Nat) : Int) := by omega
    obtain ⟨x, hx⟩ := nth_some (show n - 1 < (dig a).length by omega)
    obtain ⟨y, hy⟩ := nth_some (show n - 1 < (dig b).length by omega)
    have hx' := nth_dig hx
    have hy' := nth_dig hy
    have he' : ∀ j, n - 1 < j → nth (dig a) j = nth (dig b) j := fun j hj => he j (by omega)
    have hp := top_idx (n := n - 1) (by omega)
    rw [hi] at e5 d2
    simp (maxSteps := 1000000) +contextual (disch := first | with_reducible assumption | exact ⟨rfl⟩ | exact ⟨rfl, rfl⟩ | (refine _root_.id ?_; kernel_rfl) | omega) only [evs, ext_mv, nth, put, putT, getT, binInt, binStr, binBool, aUn, outA, resA, mapO, resA1, oneOf, w1, w2, w3, bots, cond_true, cond_false, if_true, if_false, ite_true, ite_false, reduceIte, reduceCtorEq, implies_true, Nat.reduceAdd, Nat.reduceSub, AV.int, AV.bool, AV.str, Nat.reduceBEq, Nat.reduceEqDiff, Nat.reduceMul, Nat.reduceLT, Nat.reduceLeDiff, Int.reduceNeg, BEq.rfl, beq_self_eq_true, tabl, cellsOf, fldA, ldA, stA, entAt, partA, takeN, over, leafOk, Value.oneCell', idxA, nilA, cellsEq, fillA, elemsA, pure1, pure2, reps, chkA, tys, Try.results71, KX_draw, KX_drawQ, KX_tail, lastO_one, lastO_more, dropL_one, dropL_more, callP_eq, callM_true, e0, e1, e5, d2, digA, hx', hy', hp]
    refine ⟨fun h1 => ?_, fun h1 => ⟨fun h2 => ?_, fun h2 => ?_⟩⟩
    · have := cmp_at hl hx hy (by simpa using h1) he'
      simp [cmpN, this]
    · have := cmp_at hl.symm hy hx (by simpa using h2) fun j hj => (he' j hj).symm
      rw [cmpN, if_neg (by omega), if_pos this]
    · have hxy : x = y := by simp at h1 h2; omega
      exact IH (n - 1) _ (by first | omega | (simp only; omega)) ⟨rfl, by first | omega | (dsimp only; omega), fun j hj => by by_cases e : j = n - 1; (· rw [e, hx, hy, hxy]); exact he' j (by first | omega | (dsimp only; omega)), (by first | rfl | simp only [getT, List.map_append, List.map_cons, List.map_nil, digC, digA]), (by first | rfl | simp only [getT, List.map_append, List.map_cons, List.map_nil, digC, digA]), (by first | rfl | simp only [getT, List.map_append, List.map_cons, List.map_nil, digC, digA]), (by first | rfl | simp only [getT, List.map_append, List.map_cons, List.map_nil, digC, digA])⟩
theorem R02_Long (neg : Bool) (l : List Int) (m : Int) : cL Try.prog 21 [bigA neg l, .int m] S tk k = some (.bool (decide ((l.length : Int) > m)), S, tk, k) := by
  refine call_pure Try.func21 rfl rfl (by decide +kernel) (by decide +kernel) Try.ntmps21 rfl rfl _ _ _ rfl ?_; rw [RK_KX]
  simp (maxSteps := 1000000) +contextual (disch := first | with_reducible assumption | exact ⟨rfl⟩ | exact ⟨rfl, rfl⟩ | (refine _root_.id ?_; kernel_rfl) | omega) only [evs, ext_mv, nth, put, putT, getT, binInt, binStr, binBool, aUn, outA, resA, mapO, resA1, oneOf, w1, w2, w3, bots, cond_true, cond_false, if_true, if_false, ite_true, ite_false, reduceIte, reduceCtorEq, implies_true, Nat.reduceAdd, Nat.reduceSub, AV.int, AV.bool, AV.str, Nat.reduceBEq, Nat.reduceEqDiff, Nat.reduceMul, Nat.reduceLT, Nat.reduceLeDiff, Int.reduceNeg, BEq.rfl, beq_self_eq_true, tabl, cellsOf, fldA, ldA, stA, entAt, partA, takeN, over, leafOk, Value.oneCell', idxA, nilA, cellsEq, fillA, elemsA, pure1, pure2, reps, chkA, tys, Try.results21, KX_draw, KX_drawQ, KX_tail, lastO_one, lastO_more, dropL_one, dropL_more, callP_eq, callM_true, bigA, digA]
theorem R02_digit (l : List Int) (i : Nat) (c : Cap) : cL Try.prog 73 [.frz (l.map digC) c, .int (i : Nat)] S tk k = some (.int ((nth l i).getD 0), S, tk, k) := by
  refine call_pure Try.func73 rfl rfl (by decide +kernel) (by decide +kernel) Try.ntmps73 rfl rfl _ _ _ rfl ?_; rw [RK_KX]
  by_cases h : i < l.length
  · have d1 : decide ((i : Int) ≥ (l.length : Int)) = false := by simp; omega
    obtain ⟨x, hx⟩ := nth_some h
    have hx' := nth_dig hx
    simp (maxSteps := 1000000) +contextual (disch := first | with_reducible assumption | exact ⟨rfl⟩ | exact ⟨rfl, rfl⟩ | (refine _root_.id ?_; kernel_rfl) | omega) only [evs, ext_mv, nth, put, putT, getT, binInt, binStr, binBool, aUn, outA, resA, mapO, resA1, oneOf, w1, w2, w3, bots, cond_true, cond_false, if_true, if_false, ite_true, ite_false, reduceIte, reduceCtorEq, implies_true, Nat.reduceAdd, Nat.reduceSub, AV.int, AV.bool, AV.str, Nat.reduceBEq, Nat.reduceEqDiff, Nat.reduceMul, Nat.reduceLT, Nat.reduceLeDiff, Int.reduceNeg, BEq.rfl, beq_self_eq_true, tabl, cellsOf, fldA, ldA, stA, entAt, partA, takeN, over, leafOk, Value.oneCell', idxA, nilA, cellsEq, fillA, elemsA, pure1, pure2, reps, chkA, tys, Try.results73, KX_draw, KX_drawQ, KX_tail, lastO_one, lastO_more, dropL_one, dropL_more, callP_eq, callM_true, w2, w1, d1, hx']
    rw [hx]; rfl
  · have d1 : decide ((i : Int) ≥ (l.length : Int)) = true := by simp; omega
    simp (maxSteps := 1000000) +contextual (disch := first | with_reducible assumption | exact ⟨rfl⟩ | exact ⟨rfl, rfl⟩ | (refine _root_.id ?_; kernel_rfl) | omega) only [evs, ext_mv, nth, put, putT, getT, binInt, binStr, binBool, aUn, outA, resA, mapO, resA1, oneOf, w1, w2, w3, bots, cond_true, cond_false, if_true, if_false, ite_true, ite_false, reduceIte, reduceCtorEq, implies_true, Nat.reduceAdd, Nat.reduceSub, AV.int, AV.bool, AV.str, Nat.reduceBEq, Nat.reduceEqDiff, Nat.reduceMul, Nat.reduceLT, Nat.reduceLeDiff, Int.reduceNeg, BEq.rfl, beq_self_eq_true, tabl, cellsOf, fldA, ldA, stA, entAt, partA, takeN, over, leafOk, Value.oneCell', idxA, nilA, cellsEq, fillA, elemsA, pure1, pure2, reps, chkA, tys, Try.results73, KX_draw, KX_drawQ, KX_tail, lastO_one, lastO_more, dropL_one, dropL_more, callP_eq, callM_true, w2, w1, d1]
    rw [nth_get, List.getElem?_eq_none (by omega)]; rfl
def sameL : List Int → List Int → Bool
  | [], _ => true
  | _, [] => true
  | a :: l, b :: r => if a == b then sameL l r else false
theorem R02_Same (p q : Bool) (l r : List Int) (hl0 : l.length ≤ 1000000) : cL Try.prog 12 [bigA p l, bigA q r] S tk k = some (.bool (decide (p = q ∧ l = r)), S, tk, k) := by
  refine call_pure Try.func12 rfl rfl (by decide +kernel) (by decide +kernel) Try.ntmps12 rfl rfl _ _ _ rfl ?_; rw [RK_KX]
  by_cases hpq : p = q
  case neg =>
    have d1 : (p != q) = true := by simpa using hpq
    simp (maxSteps := 1000000) +contextual (disch := first | with_reducible assumption | exact ⟨rfl⟩ | exact ⟨rfl, rfl⟩ | (refine _root_.id ?_; kernel_rfl) | omega) only [evs, ext_mv, nth, put, putT, getT, binInt, binStr, binBool, aUn, outA, resA, mapO, resA1, oneOf, w1, w2, w3, bots, cond_true, cond_false, if_true, if_false, ite_true, ite_false, reduceIte, reduceCtorEq, implies_true, Nat.reduceAdd, Nat.reduceSub, AV.int, AV.bool, AV.str, Nat.reduceBEq, Nat.reduceEqDiff, Nat.reduceMul, Nat.reduceLT, Nat.reduceLeDiff, Int.reduceNeg, BEq.rfl, beq_self_eq_true, tabl, cellsOf, fldA, ldA, stA, entAt, partA, takeN, over, leafOk, Value.oneCell', idxA, nilA, cellsEq, fillA, elemsA, pure1, pure2, reps, chkA, tys, Try.results12, KX_draw, KX_drawQ, KX_tail, lastO_one, lastO_more, dropL_one, dropL_more, callP_eq, callM_true, bigA, digA, d1]
    simp [hpq]
  have d1 : (p != q) = false := by simpa using hpq
  by_cases hl : l.length = r.length
  case neg =>
    have d2 : ((l.length : Int) != (r.length : Int)) = true := by simp; omega
    have hne : l ≠ r := fun h => hl (by rw [h])
    simp (maxSteps := 1000000) +contextual (disch := first | with_reducible assumption | exact ⟨rfl⟩ | exact ⟨rfl, rfl⟩ | (refine _root_.id ?_; kernel_rfl) | omega) only [evs, ext_mv, nth, put, putT, getT, binInt, binStr, binBool, aUn, outA, resA, mapO, resA1, oneOf, w1, w2, w3, bots, cond_true, cond_false, if_true, if_false, ite_true, ite_false, reduceIte, reduceCtorEq, implies_true, Nat.reduceAdd, Nat.reduceSub, AV.int, AV.bool, AV.str, Nat.reduceBEq, Nat.reduceEqDiff, Nat.reduceMul, Nat.reduceLT, Nat.reduceLeDiff, Int.reduceNeg, BEq.rfl, beq_self_eq_true, tabl, cellsOf, fldA, ldA, stA, entAt, partA, takeN, over, leafOk, Value.oneCell', idxA, nilA, cellsEq, fillA, elemsA, pure1, pure2, reps, chkA, tys, Try.results12, KX_draw, KX_drawQ, KX_tail, lastO_one, lastO_more, dropL_one, dropL_more, callP_eq, callM_true, bigA, digA, d1, d2]
    simp [hne]
  have d2 : ((l.length : Int) != (r.length : Int)) = false := by simp; omega
  subst hpq
  have hG : decide (p = p ∧ l = r) = decide (l = r) := by simp
  rw [hG]
  simp (maxSteps := 1000000) +contextual (disch := first | with_reducible assumption | exact ⟨rfl⟩ | exact ⟨rfl, rfl⟩ | (refine _root_.id ?_; kernel_rfl) | omega) only [evs, ext_mv, nth, put, putT, getT, binInt, binStr, binBool, aUn, outA, resA, mapO, resA1, oneOf, w1, w2, w3, bots, cond_true, cond_false, if_true, if_false, ite_true, ite_false, reduceIte, reduceCtorEq, implies_true, Nat.reduceAdd, Nat.reduceSub, AV.int, AV.bool, AV.str, Nat.reduceBEq, Nat.reduceEqDiff, Nat.reduceMul, Nat.reduceLT, Nat.reduceLeDiff, Int.reduceNeg, BEq.rfl, beq_self_eq_true, tabl, cellsOf, fldA, ldA, stA, entAt, partA, takeN, over, leafOk, Value.oneCell', idxA, nilA, cellsEq, fillA, elemsA, pure1, pure2, reps, chkA, tys, Try.results12, KX_draw, KX_drawQ, KX_tail, lastO_one, lastO_more, dropL_one, dropL_more, callP_eq, callM_true, bigA, digA, d1, d2]
  refine loop1 (fun x st => st.T.length = 38 ∧ (x ≤ l.length) ∧ (∀ j, j < x → nth l j = nth r j) ∧ getT st.T 2 = .ref 0 0 0 ∧ getT st.T 3 = .ref 1 1 0 ∧ getT st.T 5 = .int (x : Nat) ∧ st.S = [⟨0, [.bool p, digA l]⟩, ⟨1, [.bool p, digA r]⟩]) (fun x => l.length - x) (fun x => .bool (decide (l = r))) (0) ?_ ?_
  case refine_2 => exact ⟨rfl, Nat.zero_le _, fun j hj => by omega, rfl, rfl, rfl, rfl⟩
  rintro i ⟨T, S', tk', n'⟩ ⟨hl, hi, he, e2, e3, e5, eS⟩ IH
  subst eS
  obtain ⟨g, hg, hT⟩ := tab_of hl
  rw [hg] at e2 e3 e5
  subst hT
  clear hg hl
  by_cases hlt : i < l.length
  · have d3 : decide ((i : Int) < (l.length : Int)) = true := by simpa using hlt
    obtain ⟨x, hx⟩ := nth_some hlt
    obtain ⟨y, hy⟩ := nth_some (show i < r.length by omega)
    have hx' := nth_dig hx
    have hy' := nth_dig hy
    have hw := wrap_add (i := i) (by omega)
    simp (maxSteps := 1000000) +contextual (disch := first | with_reducible assumption | exact ⟨rfl⟩ | exact ⟨rfl, rfl⟩ | (refine _root_.id ?_; kernel_rfl) | omega) only [evs, ext_mv, nth, put, putT, getT, binInt, binStr, binBool, aUn, outA, resA, mapO, resA1, oneOf, w1, w2, w3, bots, cond_true, cond_false, if_true, if_false, ite_true, ite_false, reduceIte, reduceCtorEq, implies_true, Nat.reduceAdd, Nat.reduceSub, AV.int, AV.bool, AV.str, Nat.reduceBEq, Nat.reduceEqDiff, Nat.reduceMul, Nat.reduceLT, Nat.reduceLeDiff, Int.reduceNeg, BEq.rfl, beq_self_eq_true, tabl, cellsOf, fldA, ldA, stA, entAt, partA, takeN, over, leafOk, Value.oneCell', idxA, nilA, cellsEq, fillA, elemsA, pure1, pure2, reps, chkA, tys, Try.results12, KX_draw, KX_drawQ, KX_tail, lastO_one, lastO_more, dropL_one, dropL_more, callP_eq, callM_true, e2, e3, e5, d3, digA, hx', hy', hw]
    refine ⟨fun h1 => ?_, fun h1 => ?_⟩
    · have : l ≠ r := fun h => by rw [h, hy] at hx; simp at hx h1; exact h1 hx.symm
      simp [this]
    · exact IH (i + 1) _ (by first | omega | (simp only; omega)) ⟨rfl, hlt, fun j hj => by by_cases e : j = i; (· rw [e, hx, hy]; simpa using h1); exact he j (by first | omega | (dsimp only; omega)), (by first | rfl | simp only [getT, List.map_append, List.map_cons, List.map_nil, digC, digA]), (by first | rfl | simp only [getT, List.map_append, List.map_cons, List.map_nil, digC, digA]), (by first | rfl | simp only [getT, List.map_append, List.map_cons, List.map_nil, digC, digA]), (by first | rfl | simp only [getT, List.map_append, List.map_cons, List.map_nil, digC, digA])⟩
  · have d3 : decide ((i : Int) < (l.length : Int)) = false := by simpa using hlt
    have : l = r := List.ext_getElem? fun j => by
      by_cases hj : j < i
      · rw [← nth_get, ← nth_get]; exact he j hj
      · rw [List.getElem?_eq_none (by omega), List.getElem?_eq_none (by omega)]
    simp (maxSteps := 1000000) +contextual (disch := first | with_reducible assumption | exact ⟨rfl⟩ | exact ⟨rfl, rfl⟩ | (refine _root_.id ?_; kernel_rfl) | omega) only [evs, ext_mv, nth, put, putT, getT, binInt, binStr, binBool, aUn, outA, resA, mapO, resA1, oneOf, w1, w2, w3, bots, cond_true, cond_false, if_true, if_false, ite_true, ite_false, reduceIte, reduceCtorEq, implies_true, Nat.reduceAdd, Nat.reduceSub, AV.int, AV.bool, AV.str, Nat.reduceBEq, Nat.reduceEqDiff, Nat.reduceMul, Nat.reduceLT, Nat.reduceLeDiff, Int.reduceNeg, BEq.rfl, beq_self_eq_true, tabl, cellsOf, fldA, ldA, stA, entAt, partA, takeN, over, leafOk, Value.oneCell', idxA, nilA, cellsEq, fillA, elemsA, pure1, pure2, reps, chkA, tys, Try.results12, KX_draw, KX_drawQ, KX_tail, lastO_one, lastO_more, dropL_one, dropL_more, callP_eq, callM_true, e2, e3, e5, d3, digA]
    simp [this]
end
end Go.Proofs.Ytmgbmbganlndkaa
/-
  What the functions of the numbers compute: sums of digits.
-/

namespace Go.Proofs.Ytmgbmbganlndkaa
open Go

theorem put_end {S : List Ent} {e e' : Ent} : put (S ++ [e]) S.length e' = S ++ [e'] := put_new
theorem set_same {l : List Int} {i j : Nat} {x v : Int} (h : nth (l.set i v) j = some x) : (j = i ∧ x = v) ∨ (j ≠ i ∧ nth l j = some x) := by
  rw [← put_set] at h
  by_cases e : i = j
  · subst e; exact .inl ⟨rfl, nth_put_same h⟩
  · rw [nth_put_other e] at h; exact .inr ⟨fun h => e h.symm, h⟩
theorem nth_set_same {l : List Int} {i : Nat} {v : Int} (h : i < l.length) : nth (l.set i v) i = some v := by
  rw [nth_get, List.getElem?_set_self h]
theorem nth_set_other {l : List Int} {i j : Nat} {v : Int} (h : i ≠ j) : nth (l.set i v) j = nth l j := by
  rw [nth_get, nth_get, List.getElem?_set_ne h]
theorem okD_of {l : List Int} (h : ∀ j x, nth l j = some x → 0 ≤ x ∧ x < 10000) : okD l := fun d hd => by
  obtain ⟨j, hj⟩ := List.mem_iff_getElem?.1 hd
  exact h j d (by rw [nth_get]; exact hj)
theorem of_okD {l : List Int} (h : okD l) {j : Nat} {x : Int} (hx : nth l j = some x) : 0 ≤ x ∧ x < 10000 := h x (by rw [nth_get] at hx; exact List.mem_of_getElem? hx)
/-- a list put ahead of zeros -/
def padL (l : List Int) (n : Nat) : List Int := l ++ List.replicate (n - l.length) 0
theorem padL_len {l : List Int} {n : Nat} (h : l.length ≤ n) : (padL l n).length = n := by simp [padL]; omega
theorem padL_val (l : List Int) (n : Nat) : val (padL l n) = val l := by rw [padL, val_append, val_replicate]; omega
theorem padL_at {l : List Int} {n j : Nat} {x : Int} (h : nth (padL l n) j = some x) : nth l j = some x ∨ (l.length ≤ j ∧ x = 0) := by
  rw [nth_get, padL] at h
  by_cases hj : j < l.length
  · rw [List.getElem?_append_left hj] at h; left; rw [nth_get]; exact h
  · rw [List.getElem?_append_right (by omega)] at h
    right
    refine ⟨by omega, ?_⟩
    have := List.mem_of_getElem? h
    exact (List.mem_replicate.1 this).2
theorem zeros_num (n : Nat) : (List.replicate n [(.prim (.int .i64 0) : AV)]).flatten = (List.replicate n (0 : Int)).map numC := by
  rw [flat_one, List.map_replicate]; rfl
theorem over_prefix : ∀ (vs cs : List AV), vs.length ≤ cs.length → over cs 0 vs = some (vs ++ cs.drop vs.length)
  | [], cs, _ => by cases cs <;> rfl
  | v :: vs, c :: cs, h => by simp only [over, over_prefix vs cs (by simpa using h), Option.map_some, List.cons_append, List.length_cons, List.drop_succ_cons]
  | _ :: _, [], h => by simp at h
theorem over_pad {l : List Int} {n : Nat} (h : l.length ≤ n) : over ((List.replicate n (0 : Int)).map numC) 0 (l.map numC) = some ((padL l n).map numC) := by
  rw [over_prefix _ _ (by simpa using h)]
  congr 1
  rw [padL, List.map_append]
  congr 1
  simp [← List.map_drop]
theorem flat_dig (l : List Int) : (l.map digC).flatten = l.map numC := by
  induction l with
  | nil => rfl
  | cons x l ih => simp only [List.map_cons, List.flatten_cons, ih]; rfl
theorem leaf_num (l : List Int) : (l.map numC).all leafOk = true := by
  rw [List.all_map, List.all_eq_true]; intro x _; rfl
def zeroC (n : Nat) : List AV := (List.replicate n (0 : Int)).map numC
/-- make([]int, n) -/
theorem mk_num {P : Program} {t : TypeId} {n : Nat} (hz : (elemOf P t).bind (zeroOf P) = some [.prim (.int .i64 0)]) (hs : (elemOf P t).bind (szOf P) = some 1) (hb : (elemOf P t).bind (bytesOf P) = some 8) (hn : n ≤ 1048576) :
    mkA P t (.prim (.int .i64 (n : Int))) (.prim (.int .i64 (n : Int))) = some (n, 1, zeroC n) := by
  unfold mkA
  rw [hz, hs, hb, intN_cast]
  simp only [mkB]
  rw [if_pos ⟨Nat.le_refl _, hn, by omega, rfl⟩, zeros_num]; rfl
/-- copy of digits into zeros -/
theorem cp_num {P : Program} {t : TypeId} {n id ep : Nat} {l : List Int} {c : Cap} {S : List Ent} (hs : (elemOf P t).bind (szOf P) = some 1) (hl : l.length ≤ n) (h : entAt S id ep = some (zeroC n)) :
    cpA P t (.sref id ep 0 n 1) (.frz (l.map digC) c) S = some (l.length, put S id ⟨ep, (padL l n).map numC⟩) := by
  unfold cpA
  simp only [lenA, List.length_map, hs, if_true, srcA, rowsOk_dig, h]
  have hm : min l.length n = l.length := by omega
  unfold zeroC
  rw [hm, List.take_of_length_le (by simp), flat_dig]
  simp only [leaf_num, if_true, over_pad hl]
theorem trim_is_take : ∀ l : List Int, trimL l = l.take (trimL l).length
  | [] => rfl
  | d :: l => by
    rw [trimL]
    split
    · rfl
    · simp only [List.length_cons, List.take_succ_cons]
      rw [← trim_is_take l]
theorem pow_pos4 (n : Nat) : (0 : Int) < 10000 ^ n := Int.pow_pos (by omega)
/-- the state after the digits have been added one by one -/
structure Plus1 (a b la i : Nat) (out : List Int) : Prop where
  len : out.length = la + 1
  val : val out + 10000 ^ i * val ((dig b).drop i) = (a + b : Nat)
  ok : ∀ j x, nth out j = some x → 0 ≤ x ∧ (j < i → x ≤ 19998) ∧ (i ≤ j → x < 10000) ∧ (j = la → x = 0)
theorem Plus1.start {a b : Nat} : Plus1 a b (dig a).length 0 (padL (dig a) ((dig a).length + 1)) := by
  refine ⟨padL_len (by omega), ?_, fun j x hx => ?_⟩
  · rw [padL_val, val_dig, List.drop_zero, val_dig]; simp
  · rcases padL_at hx with h | ⟨h, rfl⟩
    · have := of_okD (okD_dig a) h
      have hl := nth_lt h
      exact ⟨this.1, by omega, fun _ => this.2, fun e => by omega⟩
    · exact ⟨by omega, by omega, by omega, fun _ => rfl⟩
theorem Plus1.step {a b la i : Nat} {out : List Int} {x d : Int} (h : Plus1 a b la i out) (hb : i < la) (hx : nth out i = some x) (hd : nth (dig b) i = some d) : Plus1 a b la (i + 1) (out.set i (x + d)) := by
  have hdk := of_okD (okD_dig b) hd
  refine ⟨by rw [List.length_set]; exact h.len, ?_, fun j y hy => ?_⟩
  · have hv := h.val
    rw [nth_drop hd, Go.Proofs.Ytmgbmbganlndkaa.val] at hv
    rw [val_set hx, ← hv, Int.pow_succ, Int.mul_add]
    have e1 : x + d - x = d := by omega
    rw [e1, Int.mul_comm d, Int.mul_assoc]; omega
  · rcases set_same hy with ⟨rfl, rfl⟩ | ⟨hne, hy⟩
    · have := h.ok _ x hx
      exact ⟨by omega, by omega, by omega, by omega⟩
    · have := h.ok j y hy
      exact ⟨this.1, fun hj => this.2.1 (by omega), fun hj => this.2.2.1 (by omega), this.2.2.2⟩
/-- .. and while the carries are taken on -/
structure Plus2 (v la i : Nat) (out : List Int) : Prop where
  len : out.length = la + 1
  val : val out = v
  ok : ∀ j x, nth out j = some x → 0 ≤ x ∧ (j < i → x < 10000) ∧ (j = i → x ≤ 19999) ∧ (i < j → x ≤ 19998) ∧ (j = la → x ≤ 1 ∧ (i < la → x = 0))
theorem Plus2.start {a b la : Nat} {out : List Int} (h : Plus1 a b la (dig b).length out) : Plus2 (a + b) la 0 out := by
  refine ⟨h.len, ?_, fun j x hx => ?_⟩
  · have := h.val
    rw [List.drop_length, Go.Proofs.Ytmgbmbganlndkaa.val] at this; omega
  · have := h.ok j x hx
    refine ⟨this.1, by omega, fun _ => ?_, fun _ => ?_, fun e => ⟨by have := this.2.2.2 e; omega, fun _ => this.2.2.2 e⟩⟩
    · rcases Nat.lt_or_ge j (dig b).length with hj | hj
      · have := this.2.1 hj; omega
      · have := this.2.2.1 hj; omega
    · rcases Nat.lt_or_ge j (dig b).length with hj | hj
      · exact this.2.1 hj
      · have := this.2.2.1 hj; omega
theorem Plus2.small {v la i : Nat} {out : List Int} {x : Int} (h : Plus2 v la i out) (hi : i < la) (hx : nth out i = some x) (h1 : x < 10000) : Plus2 v la (i + 1) out := by
  refine ⟨h.len, h.val, fun j y hy => ?_⟩
  have := h.ok j y hy
  refine ⟨this.1, fun hj => ?_, fun hj => by have := this.2.2.2.1 (by omega); omega, fun hj => this.2.2.2.1 (by omega), fun e => ⟨(this.2.2.2.2 e).1, fun _ => (this.2.2.2.2 e).2 hi⟩⟩
  by_cases e : j = i
  · subst e; rw [hx] at hy; simp only [Option.some.injEq] at hy; omega
  · exact this.2.1 (by omega)
theorem Plus2.big {v la i : Nat} {out : List Int} {x y : Int} (h : Plus2 v la i out) (hi : i < la) (hx : nth out i = some x) (h1 : 10000 ≤ x) (hy : nth (out.set i (x - 10000)) (i + 1) = some y) : Plus2 v la (i + 1) ((out.set i (x - 10000)).set (i + 1) (y + 1)) := by
  refine ⟨by rw [List.length_set, List.length_set]; exact h.len, ?_, fun j z hz => ?_⟩
  · rw [val_set hy, val_set hx, ← h.val, Int.pow_succ]
    have e1 : x - 10000 - x = -10000 := by omega
    have e2 : y + 1 - y = 1 := by omega
    rw [e1, e2, Int.one_mul, Int.mul_comm (10000 ^ i) 10000, Int.neg_mul]; omega
  · have hyo : nth out (i + 1) = some y := by
      rcases set_same hy with ⟨e, -⟩ | ⟨-, hy⟩
      · omega
      · exact hy
    have hk := h.ok i x hx
    have hky := h.ok (i + 1) y hyo
    rcases set_same hz with ⟨rfl, rfl⟩ | ⟨hne, hz⟩
    · refine ⟨by omega, by omega, fun _ => by have := hky.2.2.2.1 (by omega); omega, by omega, fun e => ?_⟩
      have := (hky.2.2.2.2 e).2 hi
      exact ⟨by omega, by omega⟩
    · rcases set_same hz with ⟨rfl, rfl⟩ | ⟨hne2, hz⟩
      · exact ⟨by omega, fun _ => by omega, by omega, by omega, by omega⟩
      · have := h.ok j z hz
        exact ⟨this.1, fun hj => this.2.1 (by omega), fun hj => by omega, fun hj => this.2.2.2.1 (by omega), fun e => ⟨(this.2.2.2.2 e).1, fun _ => (this.2.2.2.2 e).2 hi⟩⟩
theorem Plus2.done {v la : Nat} {out : List Int} (h : Plus2 v la la out) : trimL out = dig v := by
  have hk : okD out := okD_of fun j x hx => by
    have := h.ok j x hx
    have hl := nth_lt hx
    rw [h.len] at hl
    refine ⟨this.1, ?_⟩
    rcases Nat.lt_or_ge j la with hj | hj
    · exact this.2.1 hj
    · have := (this.2.2.2.2 (by omega)).1; omega
  rw [trim_dig hk, h.val]; congr 1
section
variable (S : List Ent) (tk : List Nat) (k : Nat)
theorem big_plus (a b : Nat) (ha : (dig a).length ≤ 100000) (hb : (dig b).length ≤ 100000) : cL Try.prog 66 [digA (dig a), digA (dig b)] S tk k = some (digA (dig (a + b)), S, tk, k) := by
  refine call_pure Try.func66 rfl rfl (by decide +kernel) (by decide +kernel) Try.ntmps66 rfl rfl _ _ _ rfl ?_; rw [RK_KX]
  rcases Nat.lt_or_ge (dig a).length (dig b).length with h | h
  · have d1 : decide (((dig a).length : Int) < ((dig b).length : Int)) = true := by simpa using h
    rw [Nat.add_comm]
    have hw : IntKind.i64.wrap (((dig b).length : Int) + 1) = (((dig b).length + 1 : Nat) : Int) := wrap_add (by omega)
    have hbo : (elemOf Try.prog 26).bind (bytesOf Try.prog) = some 8 := by kernel_rfl
    have hmk := mk_num (P := Try.prog) (t := 26) (n := (dig b).length + 1) (by simp only [tys, Option.bind_some]) (by simp only [tys, Option.bind_some]) hbo (by omega)
    have hcp := cp_num (P := Try.prog) (t := 26) (n := (dig b).length + 1) (id := 0) (ep := 0) (l := dig b) (c := .unk) (S := [⟨0, zeroC ((dig b).length + 1)⟩]) (by simp only [tys, Option.bind_some]) (by omega) rfl
    simp (maxSteps := 1000000) +contextual (disch := first | with_reducible assumption | exact ⟨rfl⟩ | exact ⟨rfl, rfl⟩ | (refine _root_.id ?_; kernel_rfl) | omega) only [evs, ext_mv, nth, put, putT, getT, binInt, binStr, binBool, aUn, outA, resA, mapO, resA1, oneOf, w1, w2, w3, bots, cond_true, cond_false, if_true, if_false, ite_true, ite_false, reduceIte, reduceCtorEq, implies_true, Nat.reduceAdd, Nat.reduceSub, AV.int, AV.bool, AV.str, Nat.reduceBEq, Nat.reduceEqDiff, Nat.reduceMul, Nat.reduceLT, Nat.reduceLeDiff, Int.reduceNeg, BEq.rfl, beq_self_eq_true, tabl, cellsOf, fldA, ldA, stA, entAt, partA, takeN, over, leafOk, Value.oneCell', idxA, nilA, cellsEq, fillA, elemsA, pure1, pure2, reps, chkA, tys, Try.results66, KX_draw, KX_drawQ, KX_tail, lastO_one, lastO_more, dropL_one, dropL_more, callP_eq, callM_true, digA, d1, hw, hmk, hcp]
    refine loop1 (fun x st => st.T.length = 64 ∧ (x.1 ≤ (dig a).length) ∧ (Plus1 b a (dig b).length x.1 x.2) ∧ getT st.T 0 = digA (dig b) ∧ getT st.T 5 = .sref 0 0 0 ((dig b).length + 1) 1 ∧ getT st.T 23 = digA (dig a) ∧ getT st.T 24 = .int (dig a).length ∧ getT st.T 25 = .int (x.1 : Nat) ∧ st.S = [⟨0, x.2.map numC⟩]) (fun x => (dig a).length - x.1) (fun x => digA (dig (b + a))) (0, padL (dig b) ((dig b).length + 1)) ?_ ?_
    case refine_2 => exact ⟨rfl, Nat.zero_le _, Plus1.start, rfl, rfl, rfl, rfl, rfl, rfl⟩
    rintro ⟨i, out⟩ ⟨T, S', tk', n'⟩ ⟨hl, hi, hp, e0, e5, e23, e24, e25, eS⟩ IH
    simp only at hi hp e0 e5 e23 e24 e25 eS
    subst eS
    obtain ⟨g, hg, hT⟩ := tab_of hl
    rw [hg] at e0 e5 e23 e24 e25
    subst hT
    clear hg hl
    have hlen := hp.len
    by_cases hlt : i < (dig a).length
    · have d2 : decide ((i : Int) < ((dig a).length : Int)) = true := by simpa using hlt
      obtain ⟨d, hd⟩ := nth_some hlt
      have hd' := nth_dig hd
      have hiw := wrap_add (i := i) (by omega)
      obtain ⟨x, hx⟩ := nth_some (show i < out.length by omega)
      have hx' := nth_num hx
      have hin : i < (dig b).length + 1 := by omega
      have hxd := (hp.ok i x hx).2.2.1 (Nat.le_refl _)
      have hx0 := (hp.ok i x hx).1
      have hdk := of_okD (okD_dig a) hd
      have hws : IntKind.i64.wrap (x + d) = x + d := wrap_of (by unfold i64; omega)
      have hov := over_num (v := x + d) hx
      simp (maxSteps := 1000000) +contextual (disch := first | with_reducible assumption | exact ⟨rfl⟩ | exact ⟨rfl, rfl⟩ | (refine _root_.id ?_; kernel_rfl) | omega) only [evs, ext_mv, nth, put, putT, getT, binInt, binStr, binBool, aUn, outA, resA, mapO, resA1, oneOf, w1, w2, w3, bots, cond_true, cond_false, if_true, if_false, ite_true, ite_false, reduceIte, reduceCtorEq, implies_true, Nat.reduceAdd, Nat.reduceSub, AV.int, AV.bool, AV.str, Nat.reduceBEq, Nat.reduceEqDiff, Nat.reduceMul, Nat.reduceLT, Nat.reduceLeDiff, Int.reduceNeg, BEq.rfl, beq_self_eq_true, tabl, cellsOf, fldA, ldA, stA, entAt, partA, takeN, over, leafOk, Value.oneCell', idxA, nilA, cellsEq, fillA, elemsA, pure1, pure2, reps, chkA, tys, Try.results66, KX_draw, KX_drawQ, KX_tail, lastO_one, lastO_more, dropL_one, dropL_more, callP_eq, callM_true, digA, e0, e5, e23, e24, e25, d2, hd', hiw, hx', hin, hws, hov, Nat.mul_one]
      exact IH (i + 1, out.set i (x + d)) _ (by first | omega | (simp only; omega)) ⟨rfl, by first | omega | (dsimp only; omega), hp.step (by first | omega | (dsimp only; omega)) hx hd, (by first | rfl | simp only [getT, List.map_append, List.map_cons, List.map_nil, digC, digA]), (by first | rfl | simp only [getT, List.map_append, List.map_cons, List.map_nil, digC, digA]), (by first | rfl | simp only [getT, List.map_append, List.map_cons, List.map_nil, digC, digA]), (by first | rfl | simp only [getT, List.map_append, List.map_cons, List.map_nil, digC, digA]), (by first | rfl | simp only [getT, List.map_append, List.map_cons, List.map_nil, digC, digA]), (by first | rfl | simp only [getT, List.map_append, List.map_cons, List.map_nil, digC, digA])⟩
    · have d2 : decide ((i : Int) < ((dig a).length : Int)) = false := by simpa using hlt
      have he : i = (dig a).length := by omega
      subst he
      have hp2 := Plus2.start hp
      clear IH hp
      simp (maxSteps := 1000000) +contextual (disch := first | with_reducible assumption | exact ⟨rfl⟩ | exact ⟨rfl, rfl⟩ | (refine _root_.id ?_; kernel_rfl) | omega) only [evs, ext_mv, nth, put, putT, getT, binInt, binStr, binBool, aUn, outA, resA, mapO, resA1, oneOf, w1, w2, w3, bots, cond_true, cond_false, if_true, if_false, ite_true, ite_false, reduceIte, reduceCtorEq, implies_true, Nat.reduceAdd, Nat.reduceSub, AV.int, AV.bool, AV.str, Nat.reduceBEq, Nat.reduceEqDiff, Nat.reduceMul, Nat.reduceLT, Nat.reduceLeDiff, Int.reduceNeg, BEq.rfl, beq_self_eq_true, tabl, cellsOf, fldA, ldA, stA, entAt, partA, takeN, over, leafOk, Value.oneCell', idxA, nilA, cellsEq, fillA, elemsA, pure1, pure2, reps, chkA, tys, Try.results66, KX_draw, KX_drawQ, KX_tail, lastO_one, lastO_more, dropL_one, dropL_more, callP_eq, callM_true, digA, e0, e5, e23, e24, e25, d2]
      refine loop1 (fun x st => st.T.length = 64 ∧ (x.1 ≤ (dig b).length) ∧ (Plus2 (b + a) (dig b).length x.1 x.2) ∧ getT st.T 5 = .sref 0 0 0 ((dig b).length + 1) 1 ∧ getT st.T 39 = .int (dig b).length ∧ getT st.T 40 = .int (x.1 : Nat) ∧ st.S = [⟨0, x.2.map numC⟩]) (fun x => (dig b).length - x.1) (fun x => digA (dig (b + a))) (0, out) ?_ ?_
      case refine_2 => exact ⟨rfl, Nat.zero_le _, hp2, rfl, rfl, rfl, rfl⟩
      rintro ⟨i, out⟩ ⟨T, S', tk', n'⟩ ⟨hl, hi, hp, e5, e39, e40, eS⟩ IH
      simp only at hi hp e5 e39 e40 eS
      subst eS
      obtain ⟨g, hg, hT⟩ := tab_of hl
      rw [hg] at e5 e39 e40
      subst hT
      clear hg hl
      clear hlen
      have hlen := hp.len
      by_cases hlt : i < (dig b).length
      · have d2 : decide ((i : Int) < ((dig b).length : Int)) = true := by simpa using hlt
        have hiw := wrap_add (i := i) (by omega)
        obtain ⟨x, hx⟩ := nth_some (show i < out.length by omega)
        have hx' := nth_num hx
        have hin : i < (dig b).length + 1 := by omega
        have hin2 : i + 1 < (dig b).length + 1 := by omega
        have hk := hp.ok i x hx
        have hx2 := hk.2.2.1 rfl
        by_cases hbig : 10000 ≤ x
        · have d3 : decide (x ≥ 10000) = true := by simpa using hbig
          obtain ⟨y, hy⟩ := nth_some (show i + 1 < (out.set i (x - 10000)).length by rw [List.length_set]; omega)
          have hy' := nth_num hy
          have hyk := hp.ok (i + 1) y (by
            rcases set_same hy with ⟨e, -⟩ | ⟨-, hy⟩
            · omega
            · exact hy)
          have hy2 := hyk.2.2.2.1 (by omega)
          have hw1 : IntKind.i64.wrap (x - 10000) = x - 10000 := wrap_of (by unfold i64; omega)
          have hw2 : IntKind.i64.wrap (y + 1) = y + 1 := wrap_of (by unfold i64; omega)
          have hov := over_num (v := x - 10000) hx
          have hov2 := over_num (v := y + 1) hy
          simp (maxSteps := 1000000) +contextual (disch := first | with_reducible assumption | exact ⟨rfl⟩ | exact ⟨rfl, rfl⟩ | (refine _root_.id ?_; kernel_rfl) | omega) only [evs, ext_mv, nth, put, putT, getT, binInt, binStr, binBool, aUn, outA, resA, mapO, resA1, oneOf, w1, w2, w3, bots, cond_true, cond_false, if_true, if_false, ite_true, ite_false, reduceIte, reduceCtorEq, implies_true, Nat.reduceAdd, Nat.reduceSub, AV.int, AV.bool, AV.str, Nat.reduceBEq, Nat.reduceEqDiff, Nat.reduceMul, Nat.reduceLT, Nat.reduceLeDiff, Int.reduceNeg, BEq.rfl, beq_self_eq_true, tabl, cellsOf, fldA, ldA, stA, entAt, partA, takeN, over, leafOk, Value.oneCell', idxA, nilA, cellsEq, fillA, elemsA, pure1, pure2, reps, chkA, tys, Try.results66, KX_draw, KX_drawQ, KX_tail, lastO_one, lastO_more, dropL_one, dropL_more, callP_eq, callM_true, digA, e5, e39, e40, d2, d3, hiw, hx', hy', hin, hin2, hw1, hw2, hov, hov2, Nat.mul_one]
          exact IH (i + 1, (out.set i (x - 10000)).set (i + 1) (y + 1)) _ (by first | omega | (simp only; omega)) ⟨rfl, by first | omega | (dsimp only; omega), hp.big hlt hx hbig hy, (by first | rfl | simp only [getT, List.map_append, List.map_cons, List.map_nil, digC, digA]), (by first | rfl | simp only [getT, List.map_append, List.map_cons, List.map_nil, digC, digA]), (by first | rfl | simp only [getT, List.map_append, List.map_cons, List.map_nil, digC, digA]), (by first | rfl | simp only [getT, List.map_append, List.map_cons, List.map_nil, digC, digA])⟩
        · have d3 : decide (x ≥ 10000) = false := by simp; omega
          simp (maxSteps := 1000000) +contextual (disch := first | with_reducible assumption | exact ⟨rfl⟩ | exact ⟨rfl, rfl⟩ | (refine _root_.id ?_; kernel_rfl) | omega) only [evs, ext_mv, nth, put, putT, getT, binInt, binStr, binBool, aUn, outA, resA, mapO, resA1, oneOf, w1, w2, w3, bots, cond_true, cond_false, if_true, if_false, ite_true, ite_false, reduceIte, reduceCtorEq, implies_true, Nat.reduceAdd, Nat.reduceSub, AV.int, AV.bool, AV.str, Nat.reduceBEq, Nat.reduceEqDiff, Nat.reduceMul, Nat.reduceLT, Nat.reduceLeDiff, Int.reduceNeg, BEq.rfl, beq_self_eq_true, tabl, cellsOf, fldA, ldA, stA, entAt, partA, takeN, over, leafOk, Value.oneCell', idxA, nilA, cellsEq, fillA, elemsA, pure1, pure2, reps, chkA, tys, Try.results66, KX_draw, KX_drawQ, KX_tail, lastO_one, lastO_more, dropL_one, dropL_more, callP_eq, callM_true, digA, e5, e39, e40, d2, d3, hiw, hx', hin, Nat.mul_one]
          exact IH (i + 1, out) _ (by first | omega | (simp only; omega)) ⟨rfl, by first | omega | (dsimp only; omega), hp.small hlt hx (by first | omega | (dsimp only; omega)), (by first | rfl | simp only [getT, List.map_append, List.map_cons, List.map_nil, digC, digA]), (by first | rfl | simp only [getT, List.map_append, List.map_cons, List.map_nil, digC, digA]), (by first | rfl | simp only [getT, List.map_append, List.map_cons, List.map_nil, digC, digA]), (by first | rfl | simp only [getT, List.map_append, List.map_cons, List.map_nil, digC, digA])⟩
      · have d2 : decide ((i : Int) < ((dig b).length : Int)) = false := by simpa using hlt
        have he : i = (dig b).length := by omega
        subst he
        have hdone := hp.done
        have hT := fun tk k => big_trim_own [⟨0, out.map numC⟩] tk k out 0 0 (by omega) rfl
        rw [hlen] at hT
        have hfz := fz_num (m := 0) (id := 0) (ep := 0) (S := [⟨0, out.map numC⟩]) (Nat.le_refl _) rfl (trim_len out)
        rw [← trim_is_take, hdone] at hfz
        rw [hdone] at hT
        simp (maxSteps := 1000000) +contextual (disch := first | with_reducible assumption | exact ⟨rfl⟩ | exact ⟨rfl, rfl⟩ | (refine _root_.id ?_; kernel_rfl) | omega) only [evs, ext_mv, nth, put, putT, getT, binInt, binStr, binBool, aUn, outA, resA, mapO, resA1, oneOf, w1, w2, w3, bots, cond_true, cond_false, if_true, if_false, ite_true, ite_false, reduceIte, reduceCtorEq, implies_true, Nat.reduceAdd, Nat.reduceSub, AV.int, AV.bool, AV.str, Nat.reduceBEq, Nat.reduceEqDiff, Nat.reduceMul, Nat.reduceLT, Nat.reduceLeDiff, Int.reduceNeg, BEq.rfl, beq_self_eq_true, tabl, cellsOf, fldA, ldA, stA, entAt, partA, takeN, over, leafOk, Value.oneCell', idxA, nilA, cellsEq, fillA, elemsA, pure1, pure2, reps, chkA, tys, Try.results66, KX_draw, KX_drawQ, KX_tail, lastO_one, lastO_more, dropL_one, dropL_more, callP_eq, callM_true, digA, e5, e39, e40, d2, hT, hfz]
  · have d1 : decide (((dig a).length : Int) < ((dig b).length : Int)) = false := by simp; omega
    have hw : IntKind.i64.wrap (((dig a).length : Int) + 1) = (((dig a).length + 1 : Nat) : Int) := wrap_add (by omega)
    have hbo : (elemOf Try.prog 26).bind (bytesOf Try.prog) = some 8 := by kernel_rfl
    have hmk := mk_num (P := Try.prog) (t := 26) (n := (dig a).length + 1) (by simp only [tys, Option.bind_some]) (by simp only [tys, Option.bind_some]) hbo (by omega)
    have hcp := cp_num (P := Try.prog) (t := 26) (n := (dig a).length + 1) (id := 0) (ep := 0) (l := dig a) (c := .unk) (S := [⟨0, zeroC ((dig a).length + 1)⟩]) (by simp only [tys, Option.bind_some]) (by omega) rfl
    simp (maxSteps := 1000000) +contextual (disch := first | with_reducible assumption | exact ⟨rfl⟩ | exact ⟨rfl, rfl⟩ | (refine _root_.id ?_; kernel_rfl) | omega) only [evs, ext_mv, nth, put, putT, getT, binInt, binStr, binBool, aUn, outA, resA, mapO, resA1, oneOf, w1, w2, w3, bots, cond_true, cond_false, if_true, if_false, ite_true, ite_false, reduceIte, reduceCtorEq, implies_true, Nat.reduceAdd, Nat.reduceSub, AV.int, AV.bool, AV.str, Nat.reduceBEq, Nat.reduceEqDiff, Nat.reduceMul, Nat.reduceLT, Nat.reduceLeDiff, Int.reduceNeg, BEq.rfl, beq_self_eq_true, tabl, cellsOf, fldA, ldA, stA, entAt, partA, takeN, over, leafOk, Value.oneCell', idxA, nilA, cellsEq, fillA, elemsA, pure1, pure2, reps, chkA, tys, Try.results66, KX_draw, KX_drawQ, KX_tail, lastO_one, lastO_more, dropL_one, dropL_more, callP_eq, callM_true, digA, d1, hw, hmk, hcp]
    refine loop1 (fun x st => st.T.length = 64 ∧ (x.1 ≤ (dig b).length) ∧ (Plus1 a b (dig a).length x.1 x.2) ∧ getT st.T 0 = digA (dig a) ∧ getT st.T 5 = .sref 0 0 0 ((dig a).length + 1) 1 ∧ getT st.T 23 = digA (dig b) ∧ getT st.T 24 = .int (dig b).length ∧ getT st.T 25 = .int (x.1 : Nat) ∧ st.S = [⟨0, x.2.map numC⟩]) (fun x => (dig b).length - x.1) (fun x => digA (dig (a + b))) (0, padL (dig a) ((dig a).length + 1)) ?_ ?_
    case refine_2 => exact ⟨rfl, Nat.zero_le _, Plus1.start, rfl, rfl, rfl, rfl, rfl, rfl⟩
    rintro ⟨i, out⟩ ⟨T, S', tk', n'⟩ ⟨hl, hi, hp, e0, e5, e23, e24, e25, eS⟩ IH
    simp only at hi hp e0 e5 e23 e24 e25 eS
    subst eS
    obtain ⟨g, hg, hT⟩ := tab_of hl
    rw [hg] at e0 e5 e23 e24 e25
    subst hT
    clear hg hl
    have hlen := hp.len
    by_cases hlt : i < (dig b).length
    · have d2 : decide ((i : Int) < ((dig b).length : Int)) = true := by simpa using hlt
      obtain ⟨d, hd⟩ := nth_some hlt
      have hd' := nth_dig hd
      have hiw := wrap_add (i := i) (by omega)
      obtain ⟨x, hx⟩ := nth_some (show i < out.length by omega)
      have hx' := nth_num hx
      have hin : i < (dig a).length + 1 := by omega
      have hxd := (hp.ok i x hx).2.2.1 (Nat.le_refl _)
      have hx0 := (hp.ok i x hx).1
      have hdk := of_okD (okD_dig b) hd
      have hws : IntKind.i64.wrap (x + d) = x + d := wrap_of (by unfold i64; omega)
      have hov := over_num (v := x + d) hx
      simp (maxSteps := 1000000) +contextual (disch := first | with_reducible assumption | exact ⟨rfl⟩ | exact ⟨rfl, rfl⟩ | (refine _root_.id ?_; kernel_rfl) | omega) only [evs, ext_mv, nth, put, putT, getT, binInt, binStr, binBool, aUn, outA, resA, mapO, resA1, oneOf, w1, w2, w3, bots, cond_true, cond_false, if_true, if_false, ite_true, ite_false, reduceIte, reduceCtorEq, implies_true, Nat.reduceAdd, Nat.reduceSub, AV.int, AV.bool, AV.str, Nat.reduceBEq, Nat.reduceEqDiff, Nat.reduceMul, Nat.reduceLT, Nat.reduceLeDiff, Int.reduceNeg, BEq.rfl, beq_self_eq_true, tabl, cellsOf, fldA, ldA, stA, entAt, partA, takeN, over, leafOk, Value.oneCell', idxA, nilA, cellsEq, fillA, elemsA, pure1, pure2, reps, chkA, tys, Try.results66, KX_draw, KX_drawQ, KX_tail, lastO_one, lastO_more, dropL_one, dropL_more, callP_eq, callM_true, digA, e0, e5, e23, e24, e25, d2, hd', hiw, hx', hin, hws, hov, Nat.mul_one]
      exact IH (i + 1, out.set i (x + d)) _ (by first | omega | (simp only; omega)) ⟨rfl, by first | omega | (dsimp only; omega), hp.step (by first | omega | (dsimp only; omega)) hx hd, (by first | rfl | simp only [getT, List.map_append, List.map_cons, List.map_nil, digC, digA]), (by first | rfl | simp only [getT, List.map_append, List.map_cons, List.map_nil, digC, digA]), (by first | rfl | simp only [getT, List.map_append, List.map_cons, List.map_nil, digC, digA]), (by first | rfl | simp only [getT, List.map_append, List.map_cons, List.map_nil, digC, digA]), (by first | rfl | simp only [getT, List.map_append, List.map_cons, List.map_nil, digC, digA]), (by first | rfl | simp only [getT, List.map_append, List.map_cons, List.map_nil, digC, digA])⟩
    · have d2 : decide ((i : Int) < ((dig b).length : Int)) = false := by simpa using hlt
      have he : i = (dig b).length := by omega
      subst he
      have hp2 := Plus2.start hp
      clear IH hp
      simp (maxSteps := 1000000) +contextual (disch := first | with_reducible assumption | exact ⟨rfl⟩ | exact ⟨rfl, rfl⟩ | (refine _root_.id ?_; kernel_rfl) | omega) only [evs, ext_mv, nth, put, putT, getT, binInt, binStr, binBool, aUn, outA, resA, mapO, resA1, oneOf, w1, w2, w3, bots, cond_true, cond_false, if_true, if_false, ite_true, ite_false, reduceIte, reduceCtorEq, implies_true, Nat.reduceAdd, Nat.reduceSub, AV.int, AV.bool, AV.str, Nat.reduceBEq, Nat.reduceEqDiff, Nat.reduceMul, Nat.reduceLT, Nat.reduceLeDiff, Int.reduceNeg, BEq.rfl, beq_self_eq_true, tabl, cellsOf, fldA, ldA, stA, entAt, partA, takeN, over, leafOk, Value.oneCell', idxA, nilA, cellsEq, fillA, elemsA, pure1, pure2, reps, chkA, tys, Try.results66, KX_draw, KX_drawQ, KX_tail, lastO_one, lastO_more, dropL_one, dropL_more, callP_eq, callM_true, digA, e0, e5, e23, e24, e25, d2]
      refine loop1 (fun x st => st.T.length = 64 ∧ (x.1 ≤ (dig a).length) ∧ (Plus2 (a + b) (dig a).length x.1 x.2) ∧ getT st.T 5 = .sref 0 0 0 ((dig a).length + 1) 1 ∧ getT st.T 39 = .int (dig a).length ∧ getT st.T 40 = .int (x.1 : Nat) ∧ st.S = [⟨0, x.2.map numC⟩]) (fun x => (dig a).length - x.1) (fun x => digA (dig (a + b))) (0, out) ?_ ?_
      case refine_2 => exact ⟨rfl, Nat.zero_le _, hp2, rfl, rfl, rfl, rfl⟩
      rintro ⟨i, out⟩ ⟨T, S', tk', n'⟩ ⟨hl, hi, hp, e5, e39, e40, eS⟩ IH
      simp only at hi hp e5 e39 e40 eS
      subst eS
      obtain ⟨g, hg, hT⟩ := tab_of hl
      rw [hg] at e5 e39 e40
      subst hT
      clear hg hl
      clear hlen
      have hlen := hp.len
      by_cases hlt : i < (dig a).length
      · have d2 : decide ((i : Int) < ((dig a).length : Int)) = true := by simpa using hlt
        have hiw := wrap_add (i := i) (by omega)
        obtain ⟨x, hx⟩ := nth_some (show i < out.length by omega)
        have hx' := nth_num hx
        have hin : i < (dig a).length + 1 := by omega
        have hin2 : i + 1 < (dig a).length + 1 := by omega
        have hk := hp.ok i x hx
        have hx2 := hk.2.2.1 rfl
        by_cases hbig : 10000 ≤ x
        · have d3 : decide (x ≥ 10000) = true := by simpa using hbig
          obtain ⟨y, hy⟩ := nth_some (show i + 1 < (out.set i (x - 10000)).length by rw [List.length_set]; omega)
          have hy' := nth_num hy
          have hyk := hp.ok (i + 1) y (by
            rcases set_same hy with ⟨e, -⟩ | ⟨-, hy⟩
            · omega
            · exact hy)
          have hy2 := hyk.2.2.2.1 (by omega)
          have hw1 : IntKind.i64.wrap (x - 10000) = x - 10000 := wrap_of (by unfold i64; omega)
          have hw2 : IntKind.i64.wrap (y + 1) = y + 1 := wrap_of (by unfold i64; omega)
          have hov := over_num (v := x - 10000) hx
          have hov2 := over_num (v := y + 1) hy
          simp (maxSteps := 1000000) +contextual (disch := first | with_reducible assumption | exact ⟨rfl⟩ | exact ⟨rfl, rfl⟩ | (refine _root_.id ?_; kernel_rfl) | omega) only [evs, ext_mv, nth, put, putT, getT, binInt, binStr, binBool, aUn, outA, resA, mapO, resA1, oneOf, w1, w2, w3, bots, cond_true, cond_false, if_true, if_false, ite_true, ite_false, reduceIte, reduceCtorEq, implies_true, Nat.reduceAdd, Nat.reduceSub, AV.int, AV.bool, AV.str, Nat.reduceBEq, Nat.reduceEqDiff, Nat.reduceMul, Nat.reduceLT, Nat.reduceLeDiff, Int.reduceNeg, BEq.rfl, beq_self_eq_true, tabl, cellsOf, fldA, ldA, stA, entAt, partA, takeN, over, leafOk, Value.oneCell', idxA, nilA, cellsEq, fillA, elemsA, pure1, pure2, reps, chkA, tys, Try.results66, KX_draw, KX_drawQ, KX_tail, lastO_one, lastO_more, dropL_one, dropL_more, callP_eq, callM_true, digA, e5, e39, e40, d2, d3, hiw, hx', hy', hin, hin2, hw1, hw2, hov, hov2, Nat.mul_one]
          exact IH (i + 1, (out.set i (x - 10000)).set (i + 1) (y + 1)) _ (by first | omega | (simp only; omega)) ⟨rfl, by first | omega | (dsimp only; omega), hp.big hlt hx hbig hy, (by first | rfl | simp only [getT, List.map_append, List.map_cons, List.map_nil, digC, digA]), (by first | rfl | simp only [getT, List.map_append, List.map_cons, List.map_nil, digC, digA]), (by first | rfl | simp only [getT, List.map_append, List.map_cons, List.map_nil, digC, digA]), (by first | rfl | simp only [getT, List.map_append, List.map_cons, List.map_nil, digC, digA])⟩
        · have d3 : decide (x ≥ 10000) = false := by simp; omega
          simp (maxSteps := 1000000) +contextual (disch := first | with_reducible assumption | exact ⟨rfl⟩ | exact ⟨rfl, rfl⟩ | (refine _root_.id ?_; kernel_rfl) | omega) only [evs, ext_mv, nth, put, putT, getT, binInt, binStr, binBool, aUn, outA, resA, mapO, resA1, oneOf, w1, w2, w3, bots, cond_true, cond_false, if_true, if_false, ite_true, ite_false, reduceIte, reduceCtorEq, implies_true, Nat.reduceAdd, Nat.reduceSub, AV.int, AV.bool, AV.str, Nat.reduceBEq, Nat.reduceEqDiff, Nat.reduceMul, Nat.reduceLT, Nat.reduceLeDiff, Int.reduceNeg, BEq.rfl, beq_self_eq_true, tabl, cellsOf, fldA, ldA, stA, entAt, partA, takeN, over, leafOk, Value.oneCell', idxA, nilA, cellsEq, fillA, elemsA, pure1, pure2, reps, chkA, tys, Try.results66, KX_draw, KX_drawQ, KX_tail, lastO_one, lastO_more, dropL_one, dropL_more, callP_eq, callM_true, digA, e5, e39, e40, d2, d3, hiw, hx', hin, Nat.mul_one]
          exact IH (i + 1, out) _ (by first | omega | (simp only; omega)) ⟨rfl, by first | omega | (dsimp only; omega), hp.small hlt hx (by first | omega | (dsimp only; omega)), (by first | rfl | simp only [getT, List.map_append, List.map_cons, List.map_nil, digC, digA]), (by first | rfl | simp only [getT, List.map_append, List.map_cons, List.map_nil, digC, digA]), (by first | rfl | simp only [getT, List.map_append, List.map_cons, List.map_nil, digC, digA]), (by first | rfl | simp only [getT, List.map_append, List.map_cons, List.map_nil, digC, digA])⟩
      · have d2 : decide ((i : Int) < ((dig a).length : Int)) = false := by simpa using hlt
        have he : i = (dig a).length := by omega
        subst he
        have hdone := hp.done
        have hT := fun tk k => big_trim_own [⟨0, out.map numC⟩] tk k out 0 0 (by omega) rfl
        rw [hlen] at hT
        have hfz := fz_num (m := 0) (id := 0) (ep := 0) (S := [⟨0, out.map numC⟩]) (Nat.le_refl _) rfl (trim_len out)
        rw [← trim_is_take, hdone] at hfz
        rw [hdone] at hT
        simp (maxSteps := 1000000) +contextual (disch := first | with_reducible assumption | exact ⟨rfl⟩ | exact ⟨rfl, rfl⟩ | (refine _root_.id ?_; kernel_rfl) | omega) only [evs, ext_mv, nth, put, putT, getT, binInt, binStr, binBool, aUn, outA, resA, mapO, resA1, oneOf, w1, w2, w3, bots, cond_true, cond_false, if_true, if_false, ite_true, ite_false, reduceIte, reduceCtorEq, implies_true, Nat.reduceAdd, Nat.reduceSub, AV.int, AV.bool, AV.str, Nat.reduceBEq, Nat.reduceEqDiff, Nat.reduceMul, Nat.reduceLT, Nat.reduceLeDiff, Int.reduceNeg, BEq.rfl, beq_self_eq_true, tabl, cellsOf, fldA, ldA, stA, entAt, partA, takeN, over, leafOk, Value.oneCell', idxA, nilA, cellsEq, fillA, elemsA, pure1, pure2, reps, chkA, tys, Try.results66, KX_draw, KX_drawQ, KX_tail, lastO_one, lastO_more, dropL_one, dropL_more, callP_eq, callM_true, digA, e5, e39, e40, d2, hT, hfz]
end
end Go.Proofs.Ytmgbmbganlndkaa
/-
  What the functions of the numbers compute: differences of digits; sums and differences by the reference.
-/

namespace Go.Proofs.Ytmgbmbganlndkaa
open Go

theorem val_lt {l : List Int} (h : okD l) : val l < 10000 ^ l.length := by
  induction l with
  | nil => simp [val]
  | cons d l ih =>
    have h1 := h d (by simp)
    have h2 := ih fun x hx => h x (by simp [hx])
    simp only [val, List.length_cons, Int.pow_succ]; omega
theorem val_top {l : List Int} {i : Nat} {x : Int} (hl : l.length = i + 1) (hx : nth l i = some x) (hk : ∀ j y, j < i → nth l j = some y → 0 ≤ y ∧ y < 10000) (h0 : x < 0) : val l < 0 := by
  have e : l = l.take i ++ [x] := by
    apply List.ext_getElem?
    intro j
    rcases Nat.lt_trichotomy j i with hj | hj | hj
    · rw [List.getElem?_append_left (by simp; omega), List.getElem?_take_of_lt hj]
    · subst hj
      have hlj : (l.take j).length = j := by simp; omega
      rw [List.getElem?_append_right (by omega), hlj, Nat.sub_self, ← nth_get, hx]; rfl
    · rw [List.getElem?_eq_none (by omega), List.getElem?_eq_none (by simp; omega)]
  have hk' : okD (l.take i) := okD_of fun j y hy => by
    have hj := nth_lt hy
    have hj1 : j < i := by rw [List.length_take] at hj; omega
    refine hk j y hj1 ?_
    rw [nth_get] at hy ⊢
    rw [List.getElem?_take_of_lt hj1] at hy; exact hy
  have h1 := val_lt hk'
  have hlen : (l.take i).length = i := by simp; omega
  rw [hlen] at h1
  rw [e, val_append, hlen]
  have hp := pow_pos4 i
  have : (10000 : Int) ^ i * val [x] ≤ 10000 ^ i * (-1) := Int.mul_le_mul_of_nonneg_left (by simp [val]; omega) (by omega)
  omega
structure Minus1 (a b la i : Nat) (out : List Int) : Prop where
  len : out.length = la
  eqv : val out - 10000 ^ i * val ((dig b).drop i) = (a : Int) - b
  ok : ∀ j x, nth out j = some x → -9999 ≤ x ∧ x ≤ 9999 ∧ (i ≤ j → 0 ≤ x)
theorem Minus1.start {a b : Nat} : Minus1 a b (dig a).length 0 (padL (dig a) (dig a).length) := by
  refine ⟨padL_len (by omega), ?_, fun j x hx => ?_⟩
  · rw [padL_val, val_dig, List.drop_zero, val_dig]; simp
  · rcases padL_at hx with h | ⟨h, rfl⟩
    · have := of_okD (okD_dig a) h; exact ⟨by omega, by omega, fun _ => this.1⟩
    · exact ⟨by omega, by omega, fun _ => by omega⟩
theorem Minus1.step {a b la i : Nat} {out : List Int} {x d : Int} (h : Minus1 a b la i out) (hx : nth out i = some x) (hd : nth (dig b) i = some d) : Minus1 a b la (i + 1) (out.set i (x - d)) := by
  have hdk := of_okD (okD_dig b) hd
  refine ⟨by rw [List.length_set]; exact h.len, ?_, fun j y hy => ?_⟩
  · have hv := h.eqv
    rw [nth_drop hd, val] at hv
    rw [val_set hx, ← hv, Int.pow_succ, Int.mul_add]
    have e1 : x - d - x = -d := by omega
    rw [e1, Int.neg_mul, Int.mul_comm d, Int.mul_assoc]; omega
  · rcases set_same hy with ⟨rfl, rfl⟩ | ⟨hne, hy⟩
    · have := h.ok _ x hx
      exact ⟨by have := this.2.2 (Nat.le_refl _); omega, by omega, by omega⟩
    · have := h.ok j y hy
      exact ⟨this.1, this.2.1, fun hj => this.2.2 (by omega)⟩
structure Minus2 (v : Nat) (la i : Nat) (out : List Int) : Prop where
  len : out.length = la
  eqv : val out = v
  ok : ∀ j x, nth out j = some x → x ≤ 9999 ∧ (j < i → 0 ≤ x) ∧ (j = i → -10000 ≤ x) ∧ (i < j → -9999 ≤ x)
theorem Minus2.start {a b la : Nat} {out : List Int} (h : Minus1 a b la (dig b).length out) (hab : b ≤ a) : Minus2 (a - b) la 0 out := by
  refine ⟨h.len, ?_, fun j x hx => ?_⟩
  · have := h.eqv
    rw [List.drop_length, val] at this; omega
  · have := h.ok j x hx; exact ⟨this.2.1, by omega, by omega, by omega⟩
theorem Minus2.small {v la i : Nat} {out : List Int} {x : Int} (h : Minus2 v la i out) (hx : nth out i = some x) (h1 : 0 ≤ x) : Minus2 v la (i + 1) out := by
  refine ⟨h.len, h.eqv, fun j y hy => ?_⟩
  have := h.ok j y hy
  refine ⟨this.1, fun hj => ?_, fun hj => by have := this.2.2.2 (by omega); omega, fun hj => this.2.2.2 (by omega)⟩
  by_cases e : j = i
  · subst e; rw [hx] at hy; simp only [Option.some.injEq] at hy; omega
  · exact this.2.1 (by omega)
theorem Minus2.room {v la i : Nat} {out : List Int} {x : Int} (h : Minus2 v la i out) (hx : nth out i = some x) (h1 : x < 0) : i + 1 < la := by
  have hi := nth_lt hx
  have hl := h.len
  rcases Nat.lt_or_ge (i + 1) la with h2 | h2
  · exact h2
  · exfalso
    have := val_top (l := out) (i := i) (by omega) hx (fun j y hj hy => by have := h.ok j y hy; exact ⟨this.2.1 hj, by omega⟩) h1
    have := h.eqv; omega
theorem Minus2.neg {v la i : Nat} {out : List Int} {x y : Int} (h : Minus2 v la i out) (hx : nth out i = some x) (h1 : x < 0) (hy : nth (out.set i (x + 10000)) (i + 1) = some y) : Minus2 v la (i + 1) ((out.set i (x + 10000)).set (i + 1) (y - 1)) := by
  have hyo : nth out (i + 1) = some y := by
    rcases set_same hy with ⟨e, -⟩ | ⟨-, hy⟩
    · omega
    · exact hy
  have hk := h.ok i x hx
  have hky := h.ok (i + 1) y hyo
  refine ⟨by rw [List.length_set, List.length_set]; exact h.len, ?_, fun j z hz => ?_⟩
  · rw [val_set hy, val_set hx, ← h.eqv, Int.pow_succ]
    have e1 : x + 10000 - x = 10000 := by omega
    have e2 : y - 1 - y = -1 := by omega
    rw [e1, e2, Int.mul_comm (10000 ^ i) 10000]; omega
  · rcases set_same hz with ⟨rfl, rfl⟩ | ⟨hne, hz⟩
    · exact ⟨by omega, by omega, fun _ => by have := hky.2.2.2 (by omega); omega, by omega⟩
    · rcases set_same hz with ⟨rfl, rfl⟩ | ⟨hne2, hz⟩
      · exact ⟨by omega, fun _ => by have := hk.2.2.1 rfl; omega, by omega, by omega⟩
      · have := h.ok j z hz
        exact ⟨this.1, fun hj => this.2.1 (by omega), fun hj => by omega, fun hj => this.2.2.2 (by omega)⟩
theorem Minus2.done {v la : Nat} {out : List Int} (h : Minus2 v la la out) : trimL out = dig v := by
  have hk : okD out := okD_of fun j x hx => by
    have := h.ok j x hx
    have hl := nth_lt hx
    rw [h.len] at hl
    exact ⟨this.2.1 hl, by omega⟩
  rw [trim_dig hk, h.eqv]; congr 1
theorem val_drop (l : List Int) (i : Nat) : val (l.drop i) = (nth l i).getD 0 + 10000 * val (l.drop (i + 1)) := by
  by_cases h : i < l.length
  · obtain ⟨x, hx⟩ := nth_some h
    rw [nth_drop hx, hx]; rfl
  · rw [List.drop_eq_nil_of_le (by omega), List.drop_eq_nil_of_le (by omega), nth_get, List.getElem?_eq_none (by omega)]; rfl
theorem dig_getD (a i : Nat) : 0 ≤ (nth (dig a) i).getD 0 ∧ (nth (dig a) i).getD 0 < 10000 := by
  cases h : nth (dig a) i with
  | none => simp
  | some x => exact of_okD (okD_dig a) h
theorem okD_snoc {l : List Int} {x : Int} (h : okD l) (h0 : 0 ≤ x) (h1 : x < 10000) : okD (l ++ [x]) := fun d hd => by
  rcases List.mem_append.1 hd with hd | hd
  · exact h d hd
  · simp at hd; subst hd; exact ⟨h0, h1⟩
theorem val_snoc (l : List Int) (x : Int) : val (l ++ [x]) = val l + 10000 ^ l.length * x := by rw [val_append]; simp [val]
theorem pow_step (i : Nat) (x r : Int) : (10000 : Int) ^ i * x + 10000 ^ (i + 1) * r = 10000 ^ i * (x + 10000 * r) := by rw [Int.pow_succ, Int.mul_add, Int.mul_assoc]
/-- the reference's sum, digit by digit -/
structure Sum1 (a b i : Nat) (c : Int) (out : List Int) : Prop where
  len : out.length = i
  ok : okD out
  c0 : 0 ≤ c ∧ c ≤ 1
  eqv : val out + 10000 ^ i * (c + val ((dig a).drop i) + val ((dig b).drop i)) = (a + b : Nat)
theorem Sum1.step {a b i : Nat} {c n : Int} {out : List Int} (h : Sum1 a b i c out) (hn : n = (nth (dig a) i).getD 0 + (nth (dig b) i).getD 0 + c) : Sum1 a b (i + 1) (n.tdiv 10000) (out ++ [n.tmod 10000]) ∧ 0 ≤ n ∧ n ≤ 19999 ∧ 0 ≤ n.tmod 10000 ∧ n.tmod 10000 < 10000 := by
  have h1 := dig_getD a i
  have h2 := dig_getD b i
  have h3 := h.c0
  have e1 : n.tdiv 10000 = n / 10000 := Int.tdiv_eq_ediv_of_nonneg (by omega)
  have e2 : n.tmod 10000 = n % 10000 := Int.tmod_eq_emod_of_nonneg (by omega)
  refine ⟨⟨by simp [h.len], okD_snoc h.ok (by omega) (by omega), by omega, ?_⟩, by omega, by omega, by omega, by omega⟩
  have hv := h.eqv
  rw [val_drop (dig a) i, val_drop (dig b) i] at hv
  have : n.tmod 10000 + 10000 * (n.tdiv 10000 + val ((dig a).drop (i + 1)) + val ((dig b).drop (i + 1))) = c + ((nth (dig a) i).getD 0 + 10000 * val ((dig a).drop (i + 1))) + ((nth (dig b) i).getD 0 + 10000 * val ((dig b).drop (i + 1))) := by omega
  rw [val_snoc, h.len, Int.add_assoc, pow_step, this]
  exact hv
theorem Sum1.done {a b i : Nat} {c : Int} {out : List Int} (h : Sum1 a b i c out) (h1 : (dig a).length ≤ i) (h2 : (dig b).length ≤ i) (h3 : c = 0) : trimL out = dig (a + b) := by
  have hv := h.eqv
  rw [List.drop_eq_nil_of_le h1, List.drop_eq_nil_of_le h2, h3] at hv
  simp only [val] at hv
  rw [trim_dig h.ok]
  congr 1; omega
structure Dif1 (a b i : Nat) (c : Int) (out : List Int) : Prop where
  len : out.length = i
  ok : okD out
  c0 : 0 ≤ c ∧ c ≤ 1
  eqv : val out + 10000 ^ i * (val ((dig a).drop i) - val ((dig b).drop i) - c) = (a : Int) - b
theorem Dif1.step {a b i : Nat} {c n d : Int} {out : List Int} (h : Dif1 a b i c out) (hd : nth (dig a) i = some d) (hn : n = d - (nth (dig b) i).getD 0 - c) : (n < 0 → Dif1 a b (i + 1) 1 (out ++ [n + 10000])) ∧ (¬ n < 0 → Dif1 a b (i + 1) 0 (out ++ [n])) ∧ -10000 ≤ n ∧ n < 10000 := by
  have h1 := of_okD (okD_dig a) hd
  have h2 := dig_getD b i
  have h3 := h.c0
  have hv := h.eqv
  rw [val_drop (dig b) i, nth_drop hd, val] at hv
  refine ⟨fun hn0 => ⟨by simp [h.len], okD_snoc h.ok (by omega) (by omega), by omega, ?_⟩, fun hn0 => ⟨by simp [h.len], okD_snoc h.ok (by omega) (by omega), by omega, ?_⟩, by omega, by omega⟩
  · have : n + 10000 + 10000 * (val ((dig a).drop (i + 1)) - val ((dig b).drop (i + 1)) - 1) = d + 10000 * val ((dig a).drop (i + 1)) - ((nth (dig b) i).getD 0 + 10000 * val ((dig b).drop (i + 1))) - c := by omega
    rw [val_snoc, h.len, Int.add_assoc, pow_step, this]
    exact hv
  · have : n + 10000 * (val ((dig a).drop (i + 1)) - val ((dig b).drop (i + 1)) - 0) = d + 10000 * val ((dig a).drop (i + 1)) - ((nth (dig b) i).getD 0 + 10000 * val ((dig b).drop (i + 1))) - c := by omega
    rw [val_snoc, h.len, Int.add_assoc, pow_step, this]
    exact hv
theorem len_mono {a b : Nat} (h : b ≤ a) : (dig b).length ≤ (dig a).length := by
  rw [dig_len]
  have := (dig_len (n := a) (k := (dig a).length)).1 (Nat.le_refl _)
  omega
theorem Dif1.done {a b : Nat} {c : Int} {out : List Int} (h : Dif1 a b (dig a).length c out) (hab : b ≤ a) : trimL out = dig (a - b) := by
  have hv := h.eqv
  have h3 := h.c0
  rw [List.drop_length, List.drop_eq_nil_of_le (len_mono hab)] at hv
  simp only [val] at hv
  have hlt := val_lt h.ok
  rw [h.len] at hlt
  have hp := pow_pos4 (dig a).length
  have hc : c = 0 := by
    rcases Int.lt_or_le c 1 with h1 | h1
    · omega
    · have : c = 1 := by omega
      subst this
      have : (10000 : Int) ^ (dig a).length * (0 - 0 - 1) = -(10000 ^ (dig a).length) := by omega
      omega
  subst hc
  rw [trim_dig h.ok]
  congr 1
  have : (10000 : Int) ^ (dig a).length * (0 - 0 - 0) = 0 := by simp
  omega
section
variable (S : List Ent) (tk : List Nat) (k : Nat)
set_option maxRecDepth 100000 in
theorem big_minus (a b : Nat) (ha : (dig a).length ≤ 100000) (hab : b ≤ a) : cL Try.prog 67 [digA (dig a), digA (dig b)] S tk k = some (digA (dig (a - b)), S, tk, k) := by
  refine call_pure Try.func67 rfl rfl (by decide +kernel) (by decide +kernel) Try.ntmps67 rfl rfl _ _ _ rfl ?_; rw [RK_KX]
  have hba := len_mono hab
  have hbo : (elemOf Try.prog 26).bind (bytesOf Try.prog) = some 8 := by kernel_rfl
  have hmk := mk_num (P := Try.prog) (t := 26) (n := (dig a).length) (by simp only [tys, Option.bind_some]) (by simp only [tys, Option.bind_some]) hbo (by omega)
  have hcp := cp_num (P := Try.prog) (t := 26) (n := (dig a).length) (id := 0) (ep := 0) (l := dig a) (c := .unk) (S := [⟨0, zeroC (dig a).length⟩]) (by simp only [tys, Option.bind_some]) (by omega) rfl
  simp (maxSteps := 1000000) +contextual (disch := first | with_reducible assumption | exact ⟨rfl⟩ | exact ⟨rfl, rfl⟩ | (refine _root_.id ?_; kernel_rfl) | omega) only [evs, ext_mv, nth, put, putT, getT, binInt, binStr, binBool, aUn, outA, resA, mapO, resA1, oneOf, w1, w2, w3, bots, cond_true, cond_false, if_true, if_false, ite_true, ite_false, reduceIte, reduceCtorEq, implies_true, Nat.reduceAdd, Nat.reduceSub, AV.int, AV.bool, AV.str, Nat.reduceBEq, Nat.reduceEqDiff, Nat.reduceMul, Nat.reduceLT, Nat.reduceLeDiff, Int.reduceNeg, BEq.rfl, beq_self_eq_true, tabl, cellsOf, fldA, ldA, stA, entAt, partA, takeN, over, leafOk, Value.oneCell', idxA, nilA, cellsEq, fillA, elemsA, pure1, pure2, reps, chkA, tys, Try.results67, KX_draw, KX_drawQ, KX_tail, lastO_one, lastO_more, dropL_one, dropL_more, callP_eq, callM_true, digA, hmk, hcp]
  refine loop1 (fun x st => st.T.length = 56 ∧ (x.1 ≤ (dig b).length) ∧ (Minus1 a b (dig a).length x.1 x.2) ∧ getT st.T 5 = .sref 0 0 0 (dig a).length 1 ∧ getT st.T 15 = digA (dig b) ∧ getT st.T 16 = .int (dig b).length ∧ getT st.T 17 = .int (x.1 : Nat) ∧ st.S = [⟨0, x.2.map numC⟩]) (fun x => (dig b).length - x.1) (fun x => digA (dig (a - b))) (0, padL (dig a) (dig a).length) ?_ ?_
  case refine_2 => exact ⟨rfl, Nat.zero_le _, Minus1.start, rfl, rfl, rfl, rfl, rfl⟩
  rintro ⟨i, out⟩ ⟨T, S', tk', n'⟩ ⟨hl, hi, hp, e5, e15, e16, e17, eS⟩ IH
  simp only at hi hp e5 e15 e16 e17 eS
  subst eS
  obtain ⟨g, hg, hT⟩ := tab_of hl
  rw [hg] at e5 e15 e16 e17
  subst hT
  clear hg hl
  have hlen := hp.len
  by_cases hlt : i < (dig b).length
  · have d2 : decide ((i : Int) < ((dig b).length : Int)) = true := by simpa using hlt
    obtain ⟨d, hd⟩ := nth_some hlt
    have hd' := nth_dig hd
    have hiw := wrap_add (i := i) (by omega)
    obtain ⟨x, hx⟩ := nth_some (show i < out.length by omega)
    have hx' := nth_num hx
    have hin : i < (dig a).length := by omega
    have hxk := hp.ok i x hx
    have hdk := of_okD (okD_dig b) hd
    have hws : IntKind.i64.wrap (x - d) = x - d := wrap_of (by unfold i64; omega)
    have hov := over_num (v := x - d) hx
    simp (maxSteps := 1000000) +contextual (disch := first | with_reducible assumption | exact ⟨rfl⟩ | exact ⟨rfl, rfl⟩ | (refine _root_.id ?_; kernel_rfl) | omega) only [evs, ext_mv, nth, put, putT, getT, binInt, binStr, binBool, aUn, outA, resA, mapO, resA1, oneOf, w1, w2, w3, bots, cond_true, cond_false, if_true, if_false, ite_true, ite_false, reduceIte, reduceCtorEq, implies_true, Nat.reduceAdd, Nat.reduceSub, AV.int, AV.bool, AV.str, Nat.reduceBEq, Nat.reduceEqDiff, Nat.reduceMul, Nat.reduceLT, Nat.reduceLeDiff, Int.reduceNeg, BEq.rfl, beq_self_eq_true, tabl, cellsOf, fldA, ldA, stA, entAt, partA, takeN, over, leafOk, Value.oneCell', idxA, nilA, cellsEq, fillA, elemsA, pure1, pure2, reps, chkA, tys, Try.results67, KX_draw, KX_drawQ, KX_tail, lastO_one, lastO_more, dropL_one, dropL_more, callP_eq, callM_true, digA, e5, e15, e16, e17, d2, hd', hiw, hx', hin, hws, hov, Nat.mul_one]
    exact IH (i + 1, out.set i (x - d)) _ (by first | omega | (simp only; omega)) ⟨rfl, by first | omega | (dsimp only; omega), hp.step hx hd, (by first | rfl | simp only [getT, List.map_append, List.map_cons, List.map_nil, digC, digA]), (by first | rfl | simp only [getT, List.map_append, List.map_cons, List.map_nil, digC, digA]), (by first | rfl | simp only [getT, List.map_append, List.map_cons, List.map_nil, digC, digA]), (by first | rfl | simp only [getT, List.map_append, List.map_cons, List.map_nil, digC, digA]), (by first | rfl | simp only [getT, List.map_append, List.map_cons, List.map_nil, digC, digA])⟩
  · have d2 : decide ((i : Int) < ((dig b).length : Int)) = false := by simpa using hlt
    have he : i = (dig b).length := by omega
    subst he
    have hp2 := Minus2.start hp hab
    clear IH hp
    simp (maxSteps := 1000000) +contextual (disch := first | with_reducible assumption | exact ⟨rfl⟩ | exact ⟨rfl, rfl⟩ | (refine _root_.id ?_; kernel_rfl) | omega) only [evs, ext_mv, nth, put, putT, getT, binInt, binStr, binBool, aUn, outA, resA, mapO, resA1, oneOf, w1, w2, w3, bots, cond_true, cond_false, if_true, if_false, ite_true, ite_false, reduceIte, reduceCtorEq, implies_true, Nat.reduceAdd, Nat.reduceSub, AV.int, AV.bool, AV.str, Nat.reduceBEq, Nat.reduceEqDiff, Nat.reduceMul, Nat.reduceLT, Nat.reduceLeDiff, Int.reduceNeg, BEq.rfl, beq_self_eq_true, tabl, cellsOf, fldA, ldA, stA, entAt, partA, takeN, over, leafOk, Value.oneCell', idxA, nilA, cellsEq, fillA, elemsA, pure1, pure2, reps, chkA, tys, Try.results67, KX_draw, KX_drawQ, KX_tail, lastO_one, lastO_more, dropL_one, dropL_more, callP_eq, callM_true, digA, e5, e15, e16, e17, d2]
    refine loop1 (fun x st => st.T.length = 56 ∧ (x.1 ≤ (dig a).length) ∧ (Minus2 (a - b) (dig a).length x.1 x.2) ∧ getT st.T 5 = .sref 0 0 0 (dig a).length 1 ∧ getT st.T 31 = .int (dig a).length ∧ getT st.T 32 = .int (x.1 : Nat) ∧ st.S = [⟨0, x.2.map numC⟩]) (fun x => (dig a).length - x.1) (fun x => digA (dig (a - b))) (0, out) ?_ ?_
    case refine_2 => exact ⟨rfl, Nat.zero_le _, hp2, rfl, rfl, rfl, rfl⟩
    rintro ⟨i, out⟩ ⟨T, S', tk', n'⟩ ⟨hl, hi, hp, e5, e31, e32, eS⟩ IH
    simp only at hi hp e5 e31 e32 eS
    subst eS
    obtain ⟨g, hg, hT⟩ := tab_of hl
    rw [hg] at e5 e31 e32
    subst hT
    clear hg hl
    clear hlen
    have hlen := hp.len
    by_cases hlt : i < (dig a).length
    · have d2 : decide ((i : Int) < ((dig a).length : Int)) = true := by simpa using hlt
      have hiw := wrap_add (i := i) (by omega)
      obtain ⟨x, hx⟩ := nth_some (show i < out.length by omega)
      have hx' := nth_num hx
      have hk := hp.ok i x hx
      by_cases hneg : x < 0
      · have d3 : decide (x < 0) = true := by simpa using hneg
        have hin2 := hp.room hx hneg
        obtain ⟨y, hy⟩ := nth_some (show i + 1 < (out.set i (x + 10000)).length by rw [List.length_set]; omega)
        have hy' := nth_num hy
        have hyk := hp.ok (i + 1) y (by
          rcases set_same hy with ⟨e, -⟩ | ⟨-, hy⟩
          · omega
          · exact hy)
        have hy2 := hyk.2.2.2 (by omega)
        have hx2 := hk.2.2.1 rfl
        have hw1 : IntKind.i64.wrap (x + 10000) = x + 10000 := wrap_of (by unfold i64; omega)
        have hw2 : IntKind.i64.wrap (y - 1) = y - 1 := wrap_of (by unfold i64; omega)
        have hov := over_num (v := x + 10000) hx
        have hov2 := over_num (v := y - 1) hy
        simp (maxSteps := 1000000) +contextual (disch := first | with_reducible assumption | exact ⟨rfl⟩ | exact ⟨rfl, rfl⟩ | (refine _root_.id ?_; kernel_rfl) | omega) only [evs, ext_mv, nth, put, putT, getT, binInt, binStr, binBool, aUn, outA, resA, mapO, resA1, oneOf, w1, w2, w3, bots, cond_true, cond_false, if_true, if_false, ite_true, ite_false, reduceIte, reduceCtorEq, implies_true, Nat.reduceAdd, Nat.reduceSub, AV.int, AV.bool, AV.str, Nat.reduceBEq, Nat.reduceEqDiff, Nat.reduceMul, Nat.reduceLT, Nat.reduceLeDiff, Int.reduceNeg, BEq.rfl, beq_self_eq_true, tabl, cellsOf, fldA, ldA, stA, entAt, partA, takeN, over, leafOk, Value.oneCell', idxA, nilA, cellsEq, fillA, elemsA, pure1, pure2, reps, chkA, tys, Try.results67, KX_draw, KX_drawQ, KX_tail, lastO_one, lastO_more, dropL_one, dropL_more, callP_eq, callM_true, digA, e5, e31, e32, d2, d3, hiw, hx', hy', hlt, hin2, hw1, hw2, hov, hov2, Nat.mul_one]
        exact IH (i + 1, (out.set i (x + 10000)).set (i + 1) (y - 1)) _ (by first | omega | (simp only; omega)) ⟨rfl, by first | omega | (dsimp only; omega), hp.neg hx hneg hy, (by first | rfl | simp only [getT, List.map_append, List.map_cons, List.map_nil, digC, digA]), (by first | rfl | simp only [getT, List.map_append, List.map_cons, List.map_nil, digC, digA]), (by first | rfl | simp only [getT, List.map_append, List.map_cons, List.map_nil, digC, digA]), (by first | rfl | simp only [getT, List.map_append, List.map_cons, List.map_nil, digC, digA])⟩
      · have d3 : decide (x < 0) = false := by simp; omega
        simp (maxSteps := 1000000) +contextual (disch := first | with_reducible assumption | exact ⟨rfl⟩ | exact ⟨rfl, rfl⟩ | (refine _root_.id ?_; kernel_rfl) | omega) only [evs, ext_mv, nth, put, putT, getT, binInt, binStr, binBool, aUn, outA, resA, mapO, resA1, oneOf, w1, w2, w3, bots, cond_true, cond_false, if_true, if_false, ite_true, ite_false, reduceIte, reduceCtorEq, implies_true, Nat.reduceAdd, Nat.reduceSub, AV.int, AV.bool, AV.str, Nat.reduceBEq, Nat.reduceEqDiff, Nat.reduceMul, Nat.reduceLT, Nat.reduceLeDiff, Int.reduceNeg, BEq.rfl, beq_self_eq_true, tabl, cellsOf, fldA, ldA, stA, entAt, partA, takeN, over, leafOk, Value.oneCell', idxA, nilA, cellsEq, fillA, elemsA, pure1, pure2, reps, chkA, tys, Try.results67, KX_draw, KX_drawQ, KX_tail, lastO_one, lastO_more, dropL_one, dropL_more, callP_eq, callM_true, digA, e5, e31, e32, d2, d3, hiw, hx', hlt, Nat.mul_one]
        exact IH (i + 1, out) _ (by first | omega | (simp only; omega)) ⟨rfl, by first | omega | (dsimp only; omega), hp.small hx (by first | omega | (dsimp only; omega)), (by first | rfl | simp only [getT, List.map_append, List.map_cons, List.map_nil, digC, digA]), (by first | rfl | simp only [getT, List.map_append, List.map_cons, List.map_nil, digC, digA]), (by first | rfl | simp only [getT, List.map_append, List.map_cons, List.map_nil, digC, digA]), (by first | rfl | simp only [getT, List.map_append, List.map_cons, List.map_nil, digC, digA])⟩
    · have d2 : decide ((i : Int) < ((dig a).length : Int)) = false := by simpa using hlt
      have he : i = (dig a).length := by omega
      subst he
      have hdone := hp.done
      have hT := fun tk k => big_trim_own [⟨0, out.map numC⟩] tk k out 0 0 (by omega) rfl
      rw [hlen] at hT
      have hfz := fz_num (m := 0) (id := 0) (ep := 0) (S := [⟨0, out.map numC⟩]) (Nat.le_refl _) rfl (trim_len out)
      rw [← trim_is_take, hdone] at hfz
      rw [hdone] at hT
      simp (maxSteps := 1000000) +contextual (disch := first | with_reducible assumption | exact ⟨rfl⟩ | exact ⟨rfl, rfl⟩ | (refine _root_.id ?_; kernel_rfl) | omega) only [evs, ext_mv, nth, put, putT, getT, binInt, binStr, binBool, aUn, outA, resA, mapO, resA1, oneOf, w1, w2, w3, bots, cond_true, cond_false, if_true, if_false, ite_true, ite_false, reduceIte, reduceCtorEq, implies_true, Nat.reduceAdd, Nat.reduceSub, AV.int, AV.bool, AV.str, Nat.reduceBEq, Nat.reduceEqDiff, Nat.reduceMul, Nat.reduceLT, Nat.reduceLeDiff, Int.reduceNeg, BEq.rfl, beq_self_eq_true, tabl, cellsOf, fldA, ldA, stA, entAt, partA, takeN, over, leafOk, Value.oneCell', idxA, nilA, cellsEq, fillA, elemsA, pure1, pure2, reps, chkA, tys, Try.results67, KX_draw, KX_drawQ, KX_tail, lastO_one, lastO_more, dropL_one, dropL_more, callP_eq, callM_true, digA, e5, e31, e32, d2, hT, hfz]
set_option maxRecDepth 100000 in
theorem R02_plus (a b : Nat) (ha : (dig a).length ≤ 100000) (hb : (dig b).length ≤ 100000) : cL Try.prog 69 [digA (dig a), digA (dig b)] S tk k = some (digA (dig (a + b)), S, tk, k) := by
  refine call_pure Try.func69 rfl rfl (by decide +kernel) (by decide +kernel) Try.ntmps69 rfl rfl _ _ _ rfl ?_; rw [RK_KX]
  simp (maxSteps := 1000000) +contextual (disch := first | with_reducible assumption | exact ⟨rfl⟩ | exact ⟨rfl, rfl⟩ | (refine _root_.id ?_; kernel_rfl) | omega) only [evs, ext_mv, nth, put, putT, getT, binInt, binStr, binBool, aUn, outA, resA, mapO, resA1, oneOf, w1, w2, w3, bots, cond_true, cond_false, if_true, if_false, ite_true, ite_false, reduceIte, reduceCtorEq, implies_true, Nat.reduceAdd, Nat.reduceSub, AV.int, AV.bool, AV.str, Nat.reduceBEq, Nat.reduceEqDiff, Nat.reduceMul, Nat.reduceLT, Nat.reduceLeDiff, Int.reduceNeg, BEq.rfl, beq_self_eq_true, tabl, cellsOf, fldA, ldA, stA, entAt, partA, takeN, over, leafOk, Value.oneCell', idxA, nilA, cellsEq, fillA, elemsA, pure1, pure2, reps, chkA, tys, Try.results69, KX_draw, KX_drawQ, KX_tail, lastO_one, lastO_more, dropL_one, dropL_more, callP_eq, callM_true, digA]
  refine loop1 (fun x st => st.T.length = 43 ∧ (Sum1 a b x.1 x.2.1 x.2.2.1) ∧ (x.1 ≤ 100001) ∧ (okCap st.tk x.2.2.2 1 = true) ∧ (x.1 = 100001 → x.2.1 = 0) ∧ getT st.T 0 = digA (dig a) ∧ getT st.T 1 = digA (dig b) ∧ getT st.T 5 = .frz (x.2.2.1.map digC) x.2.2.2 ∧ getT st.T 6 = .int x.2.1 ∧ getT st.T 7 = .int (x.1 : Nat) ∧ st.S = []) (fun x => 2 * (max (dig a).length (dig b).length - x.1) + x.2.1.toNat) (fun x => digA (dig (a + b))) (0, 0, [], .nilc) ?_ ?_
  case refine_2 => exact ⟨rfl, ⟨rfl, by intro d hd; simp at hd, by simp, by rw [List.drop_zero, List.drop_zero, val_dig, val_dig]; simp [val]⟩, by omega, rfl, fun _ => rfl, rfl, rfl, rfl, rfl, rfl, rfl⟩
  rintro ⟨i, w, out, c⟩ ⟨T, S', tk', n'⟩ ⟨hl, hp, hi, hok, hib, e0, e1, e5, e6, e7, eS⟩ IH
  simp only at hp hi hok hib e0 e1 e5 e6 e7 eS
  subst eS
  obtain ⟨g, hg, hT⟩ := tab_of hl
  rw [hg] at e0 e1 e5 e6 e7
  subst hT
  clear hg hl
  have hlen := hp.len
  have hr := rowsOk_dig out
  have hn : (out.map digC).length + 1 ≤ 1048576 := by simp; omega
  have hok' := okCap_new hok
  have hiw := wrap_add (i := i) (by omega)
  have hw0 := hp.c0
  obtain ⟨n, hn0⟩ : ∃ n, n = (nth (dig a) i).getD 0 + (nth (dig b) i).getD 0 + w := ⟨_, rfl⟩
  obtain ⟨hst, hn1, hn2, hm1, hm2⟩ := hp.step hn0
  have hA := fun S tk k => R02_digit S tk k (dig a) i .unk
  have hB := fun S tk k => R02_digit S tk k (dig b) i .unk
  have g1 := dig_getD a i
  have g2 := dig_getD b i
  have hws : IntKind.i64.wrap ((nth (dig a) i).getD 0 + (nth (dig b) i).getD 0) = (nth (dig a) i).getD 0 + (nth (dig b) i).getD 0 := wrap_of (by unfold i64; omega)
  have hws2 : IntKind.i64.wrap ((nth (dig a) i).getD 0 + (nth (dig b) i).getD 0 + w) = n := by rw [hn0, wrap_of (by unfold i64; omega)]
  have hwq : IntKind.i64.wrap (n.tdiv 10000) = n.tdiv 10000 := by
    have e1 : n.tdiv 10000 = n / 10000 := Int.tdiv_eq_ediv_of_nonneg (by omega)
    rw [e1, wrap_of (by unfold i64; omega)]
  have hz : ((10000 : Int) == 0) = false := rfl
  have hz' : ¬ ((10000 : Int) = 0) := by omega
  have hdivn : n.tdiv 10000 = n / 10000 := Int.tdiv_eq_ediv_of_nonneg (by omega)
  by_cases ca : i < (dig a).length
  · have d1 : decide ((i : Int) < ((dig a).length : Int)) = true := by simpa using ca
    simp (maxSteps := 1000000) +contextual (disch := first | with_reducible assumption | exact ⟨rfl⟩ | exact ⟨rfl, rfl⟩ | (refine _root_.id ?_; kernel_rfl) | omega) only [evs, ext_mv, nth, put, putT, getT, binInt, binStr, binBool, aUn, outA, resA, mapO, resA1, oneOf, w1, w2, w3, bots, cond_true, cond_false, if_true, if_false, ite_true, ite_false, reduceIte, reduceCtorEq, implies_true, Nat.reduceAdd, Nat.reduceSub, AV.int, AV.bool, AV.str, Nat.reduceBEq, Nat.reduceEqDiff, Nat.reduceMul, Nat.reduceLT, Nat.reduceLeDiff, Int.reduceNeg, BEq.rfl, beq_self_eq_true, tabl, cellsOf, fldA, ldA, stA, entAt, partA, takeN, over, leafOk, Value.oneCell', idxA, nilA, cellsEq, fillA, elemsA, pure1, pure2, reps, chkA, tys, Try.results69, KX_draw, KX_drawQ, KX_tail, lastO_one, lastO_more, dropL_one, dropL_more, callP_eq, callM_true, digA, e0, e1, e5, e6, e7, d1, hA, hB, hws, hws2, hwq, hr, hiw, hz']
    exact IH (i + 1, n.tdiv 10000, out ++ [n.tmod 10000], capNew tk' c 1) _ (by first | omega | (simp only; omega)) ⟨rfl, hst, by first | omega | (dsimp only; omega), hok', by first | omega | (dsimp only; omega), (by first | rfl | simp only [getT, List.map_append, List.map_cons, List.map_nil, digC, digA]), (by first | rfl | simp only [getT, List.map_append, List.map_cons, List.map_nil, digC, digA]), (by first | rfl | simp only [getT, List.map_append, List.map_cons, List.map_nil, digC, digA]), (by first | rfl | simp only [getT, List.map_append, List.map_cons, List.map_nil, digC, digA]), (by first | rfl | simp only [getT, List.map_append, List.map_cons, List.map_nil, digC, digA]), (by first | rfl | simp only [getT, List.map_append, List.map_cons, List.map_nil, digC, digA])⟩
  · have d1 : decide ((i : Int) < ((dig a).length : Int)) = false := by simpa using ca
    by_cases cb : i < (dig b).length
    · have d2 : decide ((i : Int) < ((dig b).length : Int)) = true := by simpa using cb
      simp (maxSteps := 1000000) +contextual (disch := first | with_reducible assumption | exact ⟨rfl⟩ | exact ⟨rfl, rfl⟩ | (refine _root_.id ?_; kernel_rfl) | omega) only [evs, ext_mv, nth, put, putT, getT, binInt, binStr, binBool, aUn, outA, resA, mapO, resA1, oneOf, w1, w2, w3, bots, cond_true, cond_false, if_true, if_false, ite_true, ite_false, reduceIte, reduceCtorEq, implies_true, Nat.reduceAdd, Nat.reduceSub, AV.int, AV.bool, AV.str, Nat.reduceBEq, Nat.reduceEqDiff, Nat.reduceMul, Nat.reduceLT, Nat.reduceLeDiff, Int.reduceNeg, BEq.rfl, beq_self_eq_true, tabl, cellsOf, fldA, ldA, stA, entAt, partA, takeN, over, leafOk, Value.oneCell', idxA, nilA, cellsEq, fillA, elemsA, pure1, pure2, reps, chkA, tys, Try.results69, KX_draw, KX_drawQ, KX_tail, lastO_one, lastO_more, dropL_one, dropL_more, callP_eq, callM_true, digA, e0, e1, e5, e6, e7, d1, d2, hA, hB, hws, hws2, hwq, hr, hiw, hz']
      exact IH (i + 1, n.tdiv 10000, out ++ [n.tmod 10000], capNew tk' c 1) _ (by first | omega | (simp only; omega)) ⟨rfl, hst, by first | omega | (dsimp only; omega), hok', by first | omega | (dsimp only; omega), (by first | rfl | simp only [getT, List.map_append, List.map_cons, List.map_nil, digC, digA]), (by first | rfl | simp only [getT, List.map_append, List.map_cons, List.map_nil, digC, digA]), (by first | rfl | simp only [getT, List.map_append, List.map_cons, List.map_nil, digC, digA]), (by first | rfl | simp only [getT, List.map_append, List.map_cons, List.map_nil, digC, digA]), (by first | rfl | simp only [getT, List.map_append, List.map_cons, List.map_nil, digC, digA]), (by first | rfl | simp only [getT, List.map_append, List.map_cons, List.map_nil, digC, digA])⟩
    · have d2 : decide ((i : Int) < ((dig b).length : Int)) = false := by simpa using cb
      by_cases cw : w > 0
      · have d3 : decide (w > 0) = true := by simpa using cw
        simp (maxSteps := 1000000) +contextual (disch := first | with_reducible assumption | exact ⟨rfl⟩ | exact ⟨rfl, rfl⟩ | (refine _root_.id ?_; kernel_rfl) | omega) only [evs, ext_mv, nth, put, putT, getT, binInt, binStr, binBool, aUn, outA, resA, mapO, resA1, oneOf, w1, w2, w3, bots, cond_true, cond_false, if_true, if_false, ite_true, ite_false, reduceIte, reduceCtorEq, implies_true, Nat.reduceAdd, Nat.reduceSub, AV.int, AV.bool, AV.str, Nat.reduceBEq, Nat.reduceEqDiff, Nat.reduceMul, Nat.reduceLT, Nat.reduceLeDiff, Int.reduceNeg, BEq.rfl, beq_self_eq_true, tabl, cellsOf, fldA, ldA, stA, entAt, partA, takeN, over, leafOk, Value.oneCell', idxA, nilA, cellsEq, fillA, elemsA, pure1, pure2, reps, chkA, tys, Try.results69, KX_draw, KX_drawQ, KX_tail, lastO_one, lastO_more, dropL_one, dropL_more, callP_eq, callM_true, digA, e0, e1, e5, e6, e7, d1, d2, d3, hA, hB, hws, hws2, hwq, hr, hiw, hz']
        have hsmall : n = w := by rw [hn0, nth_get, nth_get, List.getElem?_eq_none (by omega), List.getElem?_eq_none (by omega)]; simp
        exact IH (i + 1, n.tdiv 10000, out ++ [n.tmod 10000], capNew tk' c 1) _ (by first | omega | (simp only; omega)) ⟨rfl, hst, by first | omega | (dsimp only; omega), hok', by first | omega | (dsimp only; omega), (by first | rfl | simp only [getT, List.map_append, List.map_cons, List.map_nil, digC, digA]), (by first | rfl | simp only [getT, List.map_append, List.map_cons, List.map_nil, digC, digA]), (by first | rfl | simp only [getT, List.map_append, List.map_cons, List.map_nil, digC, digA]), (by first | rfl | simp only [getT, List.map_append, List.map_cons, List.map_nil, digC, digA]), (by first | rfl | simp only [getT, List.map_append, List.map_cons, List.map_nil, digC, digA]), (by first | rfl | simp only [getT, List.map_append, List.map_cons, List.map_nil, digC, digA])⟩
      · have d3 : decide (w > 0) = false := by simpa using cw
        have hdone := hp.done (by omega) (by omega) (by omega)
        have hT := fun S tk k => R02_trim S tk k out c (by omega)
        simp only [digA, hdone] at hT
        simp (maxSteps := 1000000) +contextual (disch := first | with_reducible assumption | exact ⟨rfl⟩ | exact ⟨rfl, rfl⟩ | (refine _root_.id ?_; kernel_rfl) | omega) only [evs, ext_mv, nth, put, putT, getT, binInt, binStr, binBool, aUn, outA, resA, mapO, resA1, oneOf, w1, w2, w3, bots, cond_true, cond_false, if_true, if_false, ite_true, ite_false, reduceIte, reduceCtorEq, implies_true, Nat.reduceAdd, Nat.reduceSub, AV.int, AV.bool, AV.str, Nat.reduceBEq, Nat.reduceEqDiff, Nat.reduceMul, Nat.reduceLT, Nat.reduceLeDiff, Int.reduceNeg, BEq.rfl, beq_self_eq_true, tabl, cellsOf, fldA, ldA, stA, entAt, partA, takeN, over, leafOk, Value.oneCell', idxA, nilA, cellsEq, fillA, elemsA, pure1, pure2, reps, chkA, tys, Try.results69, KX_draw, KX_drawQ, KX_tail, lastO_one, lastO_more, dropL_one, dropL_more, callP_eq, callM_true, digA, e0, e1, e5, e6, e7, d1, d2, d3, hT]
set_option maxRecDepth 100000 in
theorem R02_minus (a b : Nat) (ha : (dig a).length ≤ 100000) (hab : b ≤ a) : cL Try.prog 70 [digA (dig a), digA (dig b)] S tk k = some (digA (dig (a - b)), S, tk, k) := by
  refine call_pure Try.func70 rfl rfl (by decide +kernel) (by decide +kernel) Try.ntmps70 rfl rfl _ _ _ rfl ?_; rw [RK_KX]
  simp (maxSteps := 1000000) +contextual (disch := first | with_reducible assumption | exact ⟨rfl⟩ | exact ⟨rfl, rfl⟩ | (refine _root_.id ?_; kernel_rfl) | omega) only [evs, ext_mv, nth, put, putT, getT, binInt, binStr, binBool, aUn, outA, resA, mapO, resA1, oneOf, w1, w2, w3, bots, cond_true, cond_false, if_true, if_false, ite_true, ite_false, reduceIte, reduceCtorEq, implies_true, Nat.reduceAdd, Nat.reduceSub, AV.int, AV.bool, AV.str, Nat.reduceBEq, Nat.reduceEqDiff, Nat.reduceMul, Nat.reduceLT, Nat.reduceLeDiff, Int.reduceNeg, BEq.rfl, beq_self_eq_true, tabl, cellsOf, fldA, ldA, stA, entAt, partA, takeN, over, leafOk, Value.oneCell', idxA, nilA, cellsEq, fillA, elemsA, pure1, pure2, reps, chkA, tys, Try.results70, KX_draw, KX_drawQ, KX_tail, lastO_one, lastO_more, dropL_one, dropL_more, callP_eq, callM_true, digA]
  refine loop1 (fun x st => st.T.length = 35 ∧ (Dif1 a b x.1 x.2.1 x.2.2.1) ∧ (x.1 ≤ (dig a).length) ∧ (okCap st.tk x.2.2.2 1 = true) ∧ getT st.T 0 = digA (dig a) ∧ getT st.T 1 = digA (dig b) ∧ getT st.T 5 = .frz (x.2.2.1.map digC) x.2.2.2 ∧ getT st.T 6 = .int x.2.1 ∧ getT st.T 7 = .int (x.1 : Nat) ∧ st.S = []) (fun x => (dig a).length - x.1) (fun x => digA (dig (a - b))) (0, 0, [], .nilc) ?_ ?_
  case refine_2 => exact ⟨rfl, ⟨rfl, by intro d hd; simp at hd, by simp, by rw [List.drop_zero, List.drop_zero, val_dig, val_dig]; simp [val]⟩, Nat.zero_le _, rfl, rfl, rfl, rfl, rfl, rfl, rfl⟩
  rintro ⟨i, w, out, c⟩ ⟨T, S', tk', n'⟩ ⟨hl, hp, hi, hok, e0, e1, e5, e6, e7, eS⟩ IH
  simp only at hp hi hok e0 e1 e5 e6 e7 eS
  subst eS
  obtain ⟨g, hg, hT⟩ := tab_of hl
  rw [hg] at e0 e1 e5 e6 e7
  subst hT
  clear hg hl
  have hlen := hp.len
  have hr := rowsOk_dig out
  have hn : (out.map digC).length + 1 ≤ 1048576 := by simp; omega
  have hok' := okCap_new hok
  have hiw := wrap_add (i := i) (by omega)
  by_cases ca : i < (dig a).length
  · have d1 : decide ((i : Int) < ((dig a).length : Int)) = true := by simpa using ca
    obtain ⟨d, hd⟩ := nth_some ca
    have hd' := nth_dig hd
    obtain ⟨n, hn0⟩ : ∃ n, n = d - (nth (dig b) i).getD 0 - w := ⟨_, rfl⟩
    obtain ⟨hs1, hs2, hn1, hn2⟩ := hp.step hd hn0
    have hB := fun S tk k => R02_digit S tk k (dig b) i .unk
    have hdk := of_okD (okD_dig a) hd
    have g2 := dig_getD b i
    have hws : IntKind.i64.wrap (d - (nth (dig b) i).getD 0) = d - (nth (dig b) i).getD 0 := wrap_of (by unfold i64; omega)
    have hws2 : IntKind.i64.wrap (d - (nth (dig b) i).getD 0 - w) = n := by rw [hn0, wrap_of (by unfold i64; have := hp.c0; omega)]
    have hws3 : IntKind.i64.wrap (n + 10000) = n + 10000 := wrap_of (by unfold i64; omega)
    by_cases hneg : n < 0
    · have d2 : decide (n < 0) = true := by simpa using hneg
      simp (maxSteps := 1000000) +contextual (disch := first | with_reducible assumption | exact ⟨rfl⟩ | exact ⟨rfl, rfl⟩ | (refine _root_.id ?_; kernel_rfl) | omega) only [evs, ext_mv, nth, put, putT, getT, binInt, binStr, binBool, aUn, outA, resA, mapO, resA1, oneOf, w1, w2, w3, bots, cond_true, cond_false, if_true, if_false, ite_true, ite_false, reduceIte, reduceCtorEq, implies_true, Nat.reduceAdd, Nat.reduceSub, AV.int, AV.bool, AV.str, Nat.reduceBEq, Nat.reduceEqDiff, Nat.reduceMul, Nat.reduceLT, Nat.reduceLeDiff, Int.reduceNeg, BEq.rfl, beq_self_eq_true, tabl, cellsOf, fldA, ldA, stA, entAt, partA, takeN, over, leafOk, Value.oneCell', idxA, nilA, cellsEq, fillA, elemsA, pure1, pure2, reps, chkA, tys, Try.results70, KX_draw, KX_drawQ, KX_tail, lastO_one, lastO_more, dropL_one, dropL_more, callP_eq, callM_true, digA, e0, e1, e5, e6, e7, d1, d2, hd', hB, hws, hws2, hws3, hr, hiw]
      exact IH (i + 1, 1, out ++ [n + 10000], capNew tk' c 1) _ (by first | omega | (simp only; omega)) ⟨rfl, hs1 hneg, by first | omega | (dsimp only; omega), hok', (by first | rfl | simp only [getT, List.map_append, List.map_cons, List.map_nil, digC, digA]), (by first | rfl | simp only [getT, List.map_append, List.map_cons, List.map_nil, digC, digA]), (by first | rfl | simp only [getT, List.map_append, List.map_cons, List.map_nil, digC, digA]), (by first | rfl | simp only [getT, List.map_append, List.map_cons, List.map_nil, digC, digA]), (by first | rfl | simp only [getT, List.map_append, List.map_cons, List.map_nil, digC, digA]), (by first | rfl | simp only [getT, List.map_append, List.map_cons, List.map_nil, digC, digA])⟩
    · have d2 : decide (n < 0) = false := by simpa using hneg
      simp (maxSteps := 1000000) +contextual (disch := first | with_reducible assumption | exact ⟨rfl⟩ | exact ⟨rfl, rfl⟩ | (refine _root_.id ?_; kernel_rfl) | omega) only [evs, ext_mv, nth, put, putT, getT, binInt, binStr, binBool, aUn, outA, resA, mapO, resA1, oneOf, w1, w2, w3, bots, cond_true, cond_false, if_true, if_false, ite_true, ite_false, reduceIte, reduceCtorEq, implies_true, Nat.reduceAdd, Nat.reduceSub, AV.int, AV.bool, AV.str, Nat.reduceBEq, Nat.reduceEqDiff, Nat.reduceMul, Nat.reduceLT, Nat.reduceLeDiff, Int.reduceNeg, BEq.rfl, beq_self_eq_true, tabl, cellsOf, fldA, ldA, stA, entAt, partA, takeN, over, leafOk, Value.oneCell', idxA, nilA, cellsEq, fillA, elemsA, pure1, pure2, reps, chkA, tys, Try.results70, KX_draw, KX_drawQ, KX_tail, lastO_one, lastO_more, dropL_one, dropL_more, callP_eq, callM_true, digA, e0, e1, e5, e6, e7, d1, d2, hd', hB, hws, hws2, hws3, hr, hiw]
      exact IH (i + 1, 0, out ++ [n], capNew tk' c 1) _ (by first | omega | (simp only; omega)) ⟨rfl, hs2 hneg, by first | omega | (dsimp only; omega), hok', (by first | rfl | simp only [getT, List.map_append, List.map_cons, List.map_nil, digC, digA]), (by first | rfl | simp only [getT, List.map_append, List.map_cons, List.map_nil, digC, digA]), (by first | rfl | simp only [getT, List.map_append, List.map_cons, List.map_nil, digC, digA]), (by first | rfl | simp only [getT, List.map_append, List.map_cons, List.map_nil, digC, digA]), (by first | rfl | simp only [getT, List.map_append, List.map_cons, List.map_nil, digC, digA]), (by first | rfl | simp only [getT, List.map_append, List.map_cons, List.map_nil, digC, digA])⟩
  · have d1 : decide ((i : Int) < ((dig a).length : Int)) = false := by simpa using ca
    have he : i = (dig a).length := by omega
    subst he
    have hdone := hp.done hab
    have hT := fun S tk k => R02_trim S tk k out c (by omega)
    simp only [digA, hdone] at hT
    simp (maxSteps := 1000000) +contextual (disch := first | with_reducible assumption | exact ⟨rfl⟩ | exact ⟨rfl, rfl⟩ | (refine _root_.id ?_; kernel_rfl) | omega) only [evs, ext_mv, nth, put, putT, getT, binInt, binStr, binBool, aUn, outA, resA, mapO, resA1, oneOf, w1, w2, w3, bots, cond_true, cond_false, if_true, if_false, ite_true, ite_false, reduceIte, reduceCtorEq, implies_true, Nat.reduceAdd, Nat.reduceSub, AV.int, AV.bool, AV.str, Nat.reduceBEq, Nat.reduceEqDiff, Nat.reduceMul, Nat.reduceLT, Nat.reduceLeDiff, Int.reduceNeg, BEq.rfl, beq_self_eq_true, tabl, cellsOf, fldA, ldA, stA, entAt, partA, takeN, over, leafOk, Value.oneCell', idxA, nilA, cellsEq, fillA, elemsA, pure1, pure2, reps, chkA, tys, Try.results70, KX_draw, KX_drawQ, KX_tail, lastO_one, lastO_more, dropL_one, dropL_more, callP_eq, callM_true, digA, e0, e1, e5, e6, e7, d1, hT]
end
end Go.Proofs.Ytmgbmbganlndkaa
/-
  What the functions of the numbers compute: products of digits.
-/

namespace Go.Proofs.Ytmgbmbganlndkaa
open Go

theorem okD_set {l : List Int} {i : Nat} {x : Int} (h : okD l) (h0 : 0 ≤ x) (h1 : x < 10000) : okD (l.set i x) := fun d hd => by
  rcases List.mem_or_eq_of_mem_set hd with hd | rfl
  · exact h d hd
  · exact ⟨h0, h1⟩
structure Mul1 (X Y i : Nat) (out : List Int) : Prop where
  len : out.length = (dig X).length + (dig Y).length
  ok : okD out
  zero : ∀ j x, i + (dig Y).length ≤ j → nth out j = some x → x = 0
  eqv : val out + 10000 ^ i * (val ((dig X).drop i) * Y) = X * Y
theorem Mul1.start (X Y : Nat) : Mul1 X Y 0 (List.replicate ((dig X).length + (dig Y).length) 0) := by
  have hz : ∀ (n j : Nat) (x : Int), nth (List.replicate n (0 : Int)) j = some x → x = 0 := fun n j x h => by
    rw [nth_get] at h
    exact (List.mem_replicate.1 (List.mem_of_getElem? h)).2
  refine ⟨by simp, okD_of fun j x hx => by rw [hz _ _ _ hx]; omega, fun j x _ hx => hz _ _ _ hx, ?_⟩
  rw [val_replicate, List.drop_zero, val_dig]; simp
structure Mul2 (X Y i k : Nat) (v d c : Int) (out : List Int) : Prop where
  len : out.length = (dig X).length + (dig Y).length
  ok : okD out
  zero : ∀ j x, i + (dig Y).length ≤ j → (k ≤ (dig Y).length ∨ i + (dig Y).length < j) → nth out j = some x → x = 0
  c0 : 0 ≤ c ∧ c < 10000
  eqv : val out + 10000 ^ (i + k) * (c + d * val ((dig Y).drop k)) = v
theorem Mul2.start {X Y i : Nat} {d : Int} {out : List Int} (h : Mul1 X Y i out) : Mul2 X Y i 0 (val out + 10000 ^ i * (d * Y)) d 0 out :=
  ⟨h.len, h.ok, fun j x hj _ hx => h.zero j x hj hx, by omega, by rw [List.drop_zero, val_dig]; simp⟩
theorem Mul2.step {X Y i k : Nat} {v d c x n : Int} {out : List Int} (h : Mul2 X Y i k v d c out) (hk : k ≤ (dig Y).length) (hd : 0 ≤ d ∧ d < 10000) (hx : nth out (i + k) = some x) (hn : n = c + x + d * (nth (dig Y) k).getD 0) :
    Mul2 X Y i (k + 1) v d (n.tdiv 10000) (out.set (i + k) (n.tmod 10000)) ∧ 0 ≤ n ∧ n ≤ 99999999 ∧ n.tdiv 10000 = n / 10000 := by
  have h1 := dig_getD Y k
  have h2 := of_okD h.ok hx
  have h3 := h.c0
  have hp0 : 0 ≤ d * (nth (dig Y) k).getD 0 := Int.mul_nonneg hd.1 h1.1
  have hp1 : d * (nth (dig Y) k).getD 0 ≤ 9999 * 9999 := Int.mul_le_mul (by omega) (by omega) h1.1 (by omega)
  have e1 : n.tdiv 10000 = n / 10000 := Int.tdiv_eq_ediv_of_nonneg (by omega)
  have e2 : n.tmod 10000 = n % 10000 := Int.tmod_eq_emod_of_nonneg (by omega)
  refine ⟨⟨by rw [List.length_set]; exact h.len, okD_set h.ok (by omega) (by omega), fun j y hj hjk hy => ?_, by omega, ?_⟩, by omega, by omega, e1⟩
  · rcases set_same hy with ⟨rfl, rfl⟩ | ⟨hne, hy⟩
    · have hkk : k = (dig Y).length := by omega
      omega
    · exact h.zero j y hj (by omega) hy
  · have hv := h.eqv
    rw [val_drop (dig Y) k] at hv
    have hmul : d * ((nth (dig Y) k).getD 0 + 10000 * val ((dig Y).drop (k + 1))) = d * (nth (dig Y) k).getD 0 + 10000 * (d * val ((dig Y).drop (k + 1))) := by
      rw [Int.mul_add, Int.mul_left_comm]
    rw [hmul] at hv
    rw [val_set hx, Int.add_assoc, ← Nat.add_assoc, Int.mul_comm (n.tmod 10000 - x), pow_step, ← hv]
    congr 2
    omega
theorem Mul2.next {X Y i : Nat} {d c x : Int} {o out : List Int} (h : Mul2 X Y i (dig Y).length (val o + 10000 ^ i * (d * Y)) d c out) (h0 : Mul1 X Y i o) (hd : nth (dig X) i = some d) (hx : nth out (i + (dig Y).length) = some x) : x = 0 ∧ Mul1 X Y (i + 1) (out.set (i + (dig Y).length) (x + c)) := by
  have hx0 := h.zero _ x (Nat.le_refl _) (.inl (Nat.le_refl _)) hx
  subst hx0
  have h3 := h.c0
  refine ⟨rfl, by rw [List.length_set]; exact h.len, okD_set h.ok (by omega) (by omega), fun j y hj hy => ?_, ?_⟩
  · rcases set_same hy with ⟨rfl, rfl⟩ | ⟨hne, hy⟩
    · omega
    · exact h.zero j y (by omega) (.inl (Nat.le_refl _)) hy
  · have hv := h.eqv
    rw [List.drop_length] at hv
    simp only [val, Int.mul_zero, Int.add_zero] at hv
    have hv0 := h0.eqv
    rw [nth_drop hd, val] at hv0
    rw [val_set hx, ← hv0]
    have e1 : (0 : Int) + c - 0 = c := by omega
    rw [e1, Int.mul_comm c, hv, Int.add_assoc, pow_step]
    congr 2
    rw [Int.add_mul, Int.mul_assoc]
theorem Mul2.last {X Y i k : Nat} {d c : Int} {o out : List Int} (h : Mul2 X Y i k (val o + 10000 ^ i * (d * Y)) d c out) (hk : (dig Y).length ≤ k) (hc : c = 0) (h0 : Mul1 X Y i o) (hd : nth (dig X) i = some d) : Mul1 X Y (i + 1) out := by
  refine ⟨h.len, h.ok, fun j y hj hy => h.zero j y (by omega) (by omega) hy, ?_⟩
  have hv := h.eqv
  rw [List.drop_eq_nil_of_le hk, hc] at hv
  simp only [val, Int.mul_zero, Int.add_zero] at hv
  have hv0 := h0.eqv
  rw [nth_drop hd, val] at hv0
  rw [← hv0, hv, Int.add_assoc, pow_step]
  congr 2
  rw [Int.add_mul, Int.mul_assoc]
theorem Mul1.done {X Y : Nat} {out : List Int} (h : Mul1 X Y (dig X).length out) : trimL out = dig (X * Y) := by
  have hv := h.eqv
  rw [List.drop_length] at hv
  simp only [val, Int.zero_mul, Int.mul_zero, Int.add_zero] at hv
  rw [trim_dig h.ok, hv]
  congr 1
section
variable (S : List Ent) (tk : List Nat) (k : Nat)
theorem cells_take {l : List Int} {n : Nat} : ((l.map numC).take n) = (l.take n).map numC := by rw [← List.map_take]
theorem ap_own {t : TypeId} {c : Cap} {n id ep : Nat} {l : List Int} {tk : List Nat} {S : List Ent} (h : entAt S id ep = some (l.map numC)) (hn : n ≤ l.length) : apB1 Try.prog t (.frz [] c) (.sref id ep 0 n 1) tk S = apB (apT Try.prog t) [] c ((l.take n).map digC) tk := by
  have hg : (Globs.shAny : Bool) = true := rfl
  have hpure : (((l.take n).map digC).all fun e => e.all fun c => pure1 (w1 c)) = true := by
    rw [List.all_eq_true]
    intro e he
    rw [List.mem_map] at he
    obtain ⟨x, -, rfl⟩ := he
    rfl
  have hw1 : ((l.take n).map digC).map (·.map w1) = (l.take n).map digC := by rw [List.map_map]; exact List.map_congr_left fun _ _ => rfl
  unfold apB1
  simp only [isSref, hg, Bool.and_self, if_true, apR, h, List.drop_zero, rowsAt_num hn, hpure]
  rw [← apA_eq, hw1]
theorem R02_trim_own (l : List Int) (id ep : Nat) (hlen : l.length ≤ 1000000) (h : entAt S id ep = some (l.map numC)) : ∃ c tk', cL Try.prog 72 [.sref id ep 0 l.length 1] S tk k = some (.frz ((trimL l).map digC) c, S, tk', k) := by
  have hok : okCap tk .tight 1 = true := rfl
  refine ⟨capNew tk .tight 1, capPut tk .tight, ?_⟩
  refine call_shared Try.func72 rfl rfl (by decide +kernel) Try.ntmps72 rfl ?_; rw [RK_KX]
  simp (maxSteps := 1000000) +contextual (disch := first | with_reducible assumption | exact ⟨rfl⟩ | exact ⟨rfl, rfl⟩ | (refine _root_.id ?_; kernel_rfl) | omega) only [evs, ext_mv, nth, put, putT, getT, binInt, binStr, binBool, aUn, outA, resA, mapO, resA1, oneOf, w1, w2, w3, bots, cond_true, cond_false, if_true, if_false, ite_true, ite_false, reduceIte, reduceCtorEq, implies_true, Nat.reduceAdd, Nat.reduceSub, AV.int, AV.bool, AV.str, Nat.reduceBEq, Nat.reduceEqDiff, Nat.reduceMul, Nat.reduceLT, Nat.reduceLeDiff, Int.reduceNeg, BEq.rfl, beq_self_eq_true, tabl, cellsOf, fldA, ldA, stA, entAt_new, entAt_old, entAt_old2, List.take_left, List.take_length, partA, takeN, over, leafOk, Value.oneCell', idxA, nilA, cellsEq, fillA, elemsA, pure1, pure2, reps, chkA, tys, Try.results72, KX_draw, KX_drawQ, KX_tail, lastO_one, lastO_more, dropL_one, dropL_more, callP_eq, callM_true, w2, w1]
  refine loopS (fun x st => st.T.length = 23 ∧ (x ≤ l.length) ∧ (∀ j, x ≤ j → ∀ x, nth l j = some x → x = 0) ∧ getT st.T 0 = .sref id ep 0 l.length 1 ∧ getT st.T 3 = .int (x : Nat) ∧ st.S = S ∧ st.tk = tk ∧ st.n = k) (fun x => x) (fun x => (.frz ((trimL l).map digC) (capNew tk .tight 1), S, capPut tk .tight, k)) (l.length) ?_ ?_
  case refine_2 => exact ⟨rfl, Nat.le_refl _, hz_start l, rfl, rfl, rfl, rfl, rfl⟩
  rintro n ⟨T, S', tk', n'⟩ ⟨hl, hn, hz, e0, e3, eS, eT, eN⟩ IH
  subst eS eT eN
  obtain ⟨g, hg, hT⟩ := tab_of hl
  rw [hg] at e0 e3
  subst hT
  clear hg hl
  have hr2 : rowsOk 1 ((l.map digC).take n) = true := by rw [← List.map_take]; exact rowsOk_dig _
  have hr3 : rowsOk 1 ((l.take n).map digC) = true := rowsOk_dig _
  have hl2 : ([] : List (List AV)).length + ((l.take n).map digC).length ≤ 1048576 := by simp; omega
  have hap := fun t c tk => ap_own (t := t) (c := c) (tk := tk) h hn
  by_cases h0 : n = 0
  · have d1 : decide ((n : Int) > 0) = false := by simp; omega
    have ht := trim_stop hn hz (.inl h0)
    simp (maxSteps := 1000000) +contextual (disch := first | with_reducible assumption | exact ⟨rfl⟩ | exact ⟨rfl, rfl⟩ | (refine _root_.id ?_; kernel_rfl) | omega) only [evs, ext_mv, nth, put, putT, getT, binInt, binStr, binBool, aUn, outA, resA, mapO, resA1, oneOf, w1, w2, w3, bots, cond_true, cond_false, if_true, if_false, ite_true, ite_false, reduceIte, reduceCtorEq, implies_true, Nat.reduceAdd, Nat.reduceSub, AV.int, AV.bool, AV.str, Nat.reduceBEq, Nat.reduceEqDiff, Nat.reduceMul, Nat.reduceLT, Nat.reduceLeDiff, Int.reduceNeg, BEq.rfl, beq_self_eq_true, tabl, cellsOf, fldA, ldA, stA, entAt_new, entAt_old, entAt_old2, List.take_left, List.take_length, partA, takeN, over, leafOk, Value.oneCell', idxA, nilA, cellsEq, fillA, elemsA, pure1, pure2, reps, chkA, tys, Try.results72, KX_draw, KX_drawQ, KX_tail, lastO_one, lastO_more, dropL_one, dropL_more, callP_eq, callM_true, e0, e3, d1, sliceA, hr3, bound, intN_cast, hn, Nat.le_refl, Nat.zero_le, litA_nil, Nat.zero_mul, Nat.sub_zero, Nat.add_zero, hap]
    rw [ht]
  · have d1 : decide ((n : Int) > 0) = true := by simp; omega
    have hp := pred_idx h0 (by omega)
    have hn1 : n - 1 < l.length := by omega
    obtain ⟨x, hx⟩ := nth_some hn1
    have hx' := nth_num hx
    by_cases hx0 : x = 0
    · have d2 : (x == 0) = true := by simpa using hx0
      simp (maxSteps := 1000000) +contextual (disch := first | with_reducible assumption | exact ⟨rfl⟩ | exact ⟨rfl, rfl⟩ | (refine _root_.id ?_; kernel_rfl) | omega) only [evs, ext_mv, nth, put, putT, getT, binInt, binStr, binBool, aUn, outA, resA, mapO, resA1, oneOf, w1, w2, w3, bots, cond_true, cond_false, if_true, if_false, ite_true, ite_false, reduceIte, reduceCtorEq, implies_true, Nat.reduceAdd, Nat.reduceSub, AV.int, AV.bool, AV.str, Nat.reduceBEq, Nat.reduceEqDiff, Nat.reduceMul, Nat.reduceLT, Nat.reduceLeDiff, Int.reduceNeg, BEq.rfl, beq_self_eq_true, tabl, cellsOf, fldA, ldA, stA, entAt_new, entAt_old, entAt_old2, List.take_left, List.take_length, partA, takeN, over, leafOk, Value.oneCell', idxA, nilA, cellsEq, fillA, elemsA, pure1, pure2, reps, chkA, tys, Try.results72, KX_draw, KX_drawQ, KX_tail, lastO_one, lastO_more, dropL_one, dropL_more, callP_eq, callM_true, e0, e3, d1, d2, hp, hx', h, hn1, Nat.mul_one]
      exact IH (n - 1) _ (by first | omega | (simp only; omega)) ⟨rfl, by first | omega | (dsimp only; omega), hz_pred hz hx hx0, (by first | rfl | simp only [getT, List.map_append, List.map_cons, List.map_nil, digC, digA]), (by first | rfl | simp only [getT, List.map_append, List.map_cons, List.map_nil, digC, digA]), (by first | rfl | simp only [getT, List.map_append, List.map_cons, List.map_nil, digC, digA]), rfl, rfl⟩
    · have d2 : (x == 0) = false := by simpa using hx0
      have ht := trim_stop hn hz (.inr ⟨x, hx, hx0⟩)
      simp (maxSteps := 1000000) +contextual (disch := first | with_reducible assumption | exact ⟨rfl⟩ | exact ⟨rfl, rfl⟩ | (refine _root_.id ?_; kernel_rfl) | omega) only [evs, ext_mv, nth, put, putT, getT, binInt, binStr, binBool, aUn, outA, resA, mapO, resA1, oneOf, w1, w2, w3, bots, cond_true, cond_false, if_true, if_false, ite_true, ite_false, reduceIte, reduceCtorEq, implies_true, Nat.reduceAdd, Nat.reduceSub, AV.int, AV.bool, AV.str, Nat.reduceBEq, Nat.reduceEqDiff, Nat.reduceMul, Nat.reduceLT, Nat.reduceLeDiff, Int.reduceNeg, BEq.rfl, beq_self_eq_true, tabl, cellsOf, fldA, ldA, stA, entAt_new, entAt_old, entAt_old2, List.take_left, List.take_length, partA, takeN, over, leafOk, Value.oneCell', idxA, nilA, cellsEq, fillA, elemsA, pure1, pure2, reps, chkA, tys, Try.results72, KX_draw, KX_drawQ, KX_tail, lastO_one, lastO_more, dropL_one, dropL_more, callP_eq, callM_true, e0, e3, d1, d2, hp, hx', h, hn1, Nat.mul_one, sliceA, hr3, bound, intN_cast, hn, Nat.le_refl, Nat.zero_le, litA_nil, Nat.zero_mul, Nat.sub_zero, Nat.add_zero, hap]
      rw [ht]
set_option maxRecDepth 100000 in
theorem R02_times (X Y : Nat) (ha : (dig X).length ≤ 100000) (hb : (dig Y).length ≤ 100000) : cL Try.prog 48 [digA (dig X), digA (dig Y)] S tk k = some (digA (dig (X * Y)), S, tk, k) := by
  refine call_pure Try.func48 rfl rfl (by decide +kernel) (by decide +kernel) Try.ntmps48 rfl rfl _ _ _ rfl ?_; rw [RK_KX]
  have hw : IntKind.i64.wrap (((dig X).length : Int) + ((dig Y).length : Int)) = (((dig X).length + (dig Y).length : Nat) : Int) := by rw [wrap_of (by unfold i64; omega)]; omega
  have hbo : (elemOf Try.prog 26).bind (bytesOf Try.prog) = some 8 := by kernel_rfl
  have hmk := mk_num (P := Try.prog) (t := 26) (n := (dig X).length + (dig Y).length) (by simp only [tys, Option.bind_some]) (by simp only [tys, Option.bind_some]) hbo (by omega)
  simp (maxSteps := 1000000) +contextual (disch := first | with_reducible assumption | exact ⟨rfl⟩ | exact ⟨rfl, rfl⟩ | (refine _root_.id ?_; kernel_rfl) | omega) only [evs, ext_mv, nth, put, putT, getT, binInt, binStr, binBool, aUn, outA, resA, mapO, resA1, oneOf, w1, w2, w3, bots, cond_true, cond_false, if_true, if_false, ite_true, ite_false, reduceIte, reduceCtorEq, implies_true, Nat.reduceAdd, Nat.reduceSub, AV.int, AV.bool, AV.str, Nat.reduceBEq, Nat.reduceEqDiff, Nat.reduceMul, Nat.reduceLT, Nat.reduceLeDiff, Int.reduceNeg, BEq.rfl, beq_self_eq_true, tabl, cellsOf, fldA, ldA, stA, entAt, partA, takeN, over, leafOk, Value.oneCell', idxA, nilA, cellsEq, fillA, elemsA, pure1, pure2, reps, chkA, tys, Try.results48, KX_draw, KX_drawQ, KX_tail, lastO_one, lastO_more, dropL_one, dropL_more, callP_eq, callM_true, digA, hw, hmk]
  refine loop1 (fun x st => st.T.length = 60 ∧ (x.1 ≤ (dig X).length) ∧ (Mul1 X Y x.1 x.2) ∧ getT st.T 0 = digA (dig X) ∧ getT st.T 1 = digA (dig Y) ∧ getT st.T 5 = .sref 0 0 0 ((dig X).length + (dig Y).length) 1 ∧ getT st.T 6 = .int (x.1 : Nat) ∧ st.S = [⟨0, x.2.map numC⟩]) (fun x => (dig X).length - x.1) (fun x => digA (dig (X * Y))) (0, List.replicate ((dig X).length + (dig Y).length) 0) ?_ ?_
  case refine_2 => exact ⟨rfl, Nat.zero_le _, Mul1.start X Y, rfl, rfl, rfl, rfl, rfl⟩
  rintro ⟨i, out⟩ ⟨T, S', tk', n'⟩ ⟨hl, hi, hp, e0, e1, e5, e6, eS⟩ IH
  simp only at hi hp e0 e1 e5 e6 eS
  subst eS
  obtain ⟨g, hg, hT⟩ := tab_of hl
  rw [hg] at e0 e1 e5 e6
  subst hT
  clear hg hl
  have OUT := IH
  clear IH
  have hlen := hp.len
  by_cases hlt : i < (dig X).length
  · have d2 : decide ((i : Int) < ((dig X).length : Int)) = true := by simpa using hlt
    obtain ⟨d, hd⟩ := nth_some hlt
    have hd' := nth_dig hd
    have hdk := of_okD (okD_dig X) hd
    have hiw := wrap_add (i := i) (by omega)
    have hst := Mul2.start (d := d) hp
    simp (maxSteps := 1000000) +contextual (disch := first | with_reducible assumption | exact ⟨rfl⟩ | exact ⟨rfl, rfl⟩ | (refine _root_.id ?_; kernel_rfl) | omega) only [evs, ext_mv, nth, put, putT, getT, binInt, binStr, binBool, aUn, outA, resA, mapO, resA1, oneOf, w1, w2, w3, bots, cond_true, cond_false, if_true, if_false, ite_true, ite_false, reduceIte, reduceCtorEq, implies_true, Nat.reduceAdd, Nat.reduceSub, AV.int, AV.bool, AV.str, Nat.reduceBEq, Nat.reduceEqDiff, Nat.reduceMul, Nat.reduceLT, Nat.reduceLeDiff, Int.reduceNeg, BEq.rfl, beq_self_eq_true, tabl, cellsOf, fldA, ldA, stA, entAt, partA, takeN, over, leafOk, Value.oneCell', idxA, nilA, cellsEq, fillA, elemsA, pure1, pure2, reps, chkA, tys, Try.results48, KX_draw, KX_drawQ, KX_tail, lastO_one, lastO_more, dropL_one, dropL_more, callP_eq, callM_true, digA, e0, e1, e5, e6, d2]
    refine loop1 (fun x st => st.T.length = 60 ∧ (x.1 ≤ (dig Y).length + 1) ∧ (Mul2 X Y i x.1 (val out + 10000 ^ i * (d * Y)) d x.2.1 x.2.2) ∧ (x.1 = (dig Y).length + 1 → x.2.1 = 0) ∧ getT st.T 0 = digA (dig X) ∧ getT st.T 1 = digA (dig Y) ∧ getT st.T 5 = .sref 0 0 0 ((dig X).length + (dig Y).length) 1 ∧ getT st.T 6 = .int (i : Nat) ∧ getT st.T 7 = .int x.2.1 ∧ getT st.T 8 = .int (x.1 : Nat) ∧ st.S = [⟨0, x.2.2.map numC⟩]) (fun x => (dig Y).length + 1 - x.1) (fun x => digA (dig (X * Y))) (0, 0, out) ?_ ?_
    case refine_2 => exact ⟨rfl, Nat.zero_le _, hst, fun _ => rfl, rfl, rfl, rfl, rfl, rfl, rfl, rfl⟩
    rintro ⟨m, c, o2⟩ ⟨T, S', tk', n'⟩ ⟨hl, hm, hq, hmc, e0, e1, e5, e6, e7, e8, eS⟩ IH
    simp only at hm hq hmc e0 e1 e5 e6 e7 e8 eS
    subst eS
    obtain ⟨g, hg, hT⟩ := tab_of hl
    rw [hg] at e0 e1 e5 e6 e7 e8
    subst hT
    clear hg hl
    have hlen2 := hq.len
    have hc0 := hq.c0
    have hmw := wrap_add (i := m) (by omega)
    have hB := fun S tk k => R02_digit S tk k (dig Y) m .unk
    by_cases cm : m < (dig Y).length
    · have d3 : decide ((m : Int) < ((dig Y).length : Int)) = true := by simpa using cm
      obtain ⟨x, hx⟩ := nth_some (show i + m < o2.length by omega)
      have hx' := nth_num hx
      have hin : i + m < (dig X).length + (dig Y).length := by omega
      have him : IntKind.i64.wrap ((i : Int) + (m : Int)) = ((i + m : Nat) : Int) := by rw [wrap_of (by unfold i64; omega)]; omega
      obtain ⟨n, hn⟩ : ∃ n, n = c + x + d * (nth (dig Y) m).getD 0 := ⟨_, rfl⟩
      obtain ⟨hq2, hn0, hn1, hn2⟩ := hq.step (by omega) hdk hx hn
      have hxk := of_okD hq.ok hx
      have hyk := dig_getD Y m
      have hp0 : 0 ≤ d * (nth (dig Y) m).getD 0 := Int.mul_nonneg hdk.1 hyk.1
      have hw1 : IntKind.i64.wrap (d * (nth (dig Y) m).getD 0) = d * (nth (dig Y) m).getD 0 := wrap_of (by unfold i64; omega)
      have hw2 : IntKind.i64.wrap (x + d * (nth (dig Y) m).getD 0) = x + d * (nth (dig Y) m).getD 0 := wrap_of (by unfold i64; omega)
      have hw3 : IntKind.i64.wrap (x + d * (nth (dig Y) m).getD 0 + c) = n := by rw [hn, wrap_of (by unfold i64; omega)]; omega
      have hwq : IntKind.i64.wrap (n.tdiv 10000) = n.tdiv 10000 := by rw [hn2, wrap_of (by unfold i64; omega)]
      have hz' : ¬ ((10000 : Int) = 0) := by omega
      have hov := over_num (v := n.tmod 10000) hx
      simp (maxSteps := 1000000) +contextual (disch := first | with_reducible assumption | exact ⟨rfl⟩ | exact ⟨rfl, rfl⟩ | (refine _root_.id ?_; kernel_rfl) | omega) only [evs, ext_mv, nth, put, putT, getT, binInt, binStr, binBool, aUn, outA, resA, mapO, resA1, oneOf, w1, w2, w3, bots, cond_true, cond_false, if_true, if_false, ite_true, ite_false, reduceIte, reduceCtorEq, implies_true, Nat.reduceAdd, Nat.reduceSub, AV.int, AV.bool, AV.str, Nat.reduceBEq, Nat.reduceEqDiff, Nat.reduceMul, Nat.reduceLT, Nat.reduceLeDiff, Int.reduceNeg, BEq.rfl, beq_self_eq_true, tabl, cellsOf, fldA, ldA, stA, entAt, partA, takeN, over, leafOk, Value.oneCell', idxA, nilA, cellsEq, fillA, elemsA, pure1, pure2, reps, chkA, tys, Try.results48, KX_draw, KX_drawQ, KX_tail, lastO_one, lastO_more, dropL_one, dropL_more, callP_eq, callM_true, digA, e0, e1, e5, e6, e7, e8, d3, hd', hmw, hB, him, hin, hx', hw1, hw2, hw3, hwq, hz', hov, Nat.mul_one]
      exact IH (m + 1, n.tdiv 10000, o2.set (i + m) (n.tmod 10000)) _ (by first | omega | (simp only; omega)) ⟨rfl, by first | omega | (dsimp only; omega), hq2, by first | omega | (dsimp only; omega), (by first | rfl | simp only [getT, List.map_append, List.map_cons, List.map_nil, digC, digA]), (by first | rfl | simp only [getT, List.map_append, List.map_cons, List.map_nil, digC, digA]), (by first | rfl | simp only [getT, List.map_append, List.map_cons, List.map_nil, digC, digA]), (by first | rfl | simp only [getT, List.map_append, List.map_cons, List.map_nil, digC, digA]), (by first | rfl | simp only [getT, List.map_append, List.map_cons, List.map_nil, digC, digA]), (by first | rfl | simp only [getT, List.map_append, List.map_cons, List.map_nil, digC, digA]), (by first | rfl | simp only [getT, List.map_append, List.map_cons, List.map_nil, digC, digA])⟩
    · have d3 : decide ((m : Int) < ((dig Y).length : Int)) = false := by simpa using cm
      by_cases cc : c > 0
      · have d4 : decide (c > 0) = true := by simpa using cc
        have hme : m = (dig Y).length := by
          rcases Nat.lt_or_ge m ((dig Y).length + 1) with h | h
          · omega
          · have := hmc (by omega); omega
        obtain ⟨x, hx⟩ := nth_some (show i + m < o2.length by omega)
        have hx' := nth_num hx
        have hin : i + m < (dig X).length + (dig Y).length := by omega
        have him : IntKind.i64.wrap ((i : Int) + (m : Int)) = ((i + m : Nat) : Int) := by rw [wrap_of (by unfold i64; omega)]; omega
        obtain ⟨n, hn⟩ : ∃ n, n = c + x + d * (nth (dig Y) m).getD 0 := ⟨_, rfl⟩
        obtain ⟨hq2, hn0, hn1, hn2⟩ := hq.step (by omega) hdk hx hn
        have hxk := of_okD hq.ok hx
        have hyk := dig_getD Y m
        have hp0 : 0 ≤ d * (nth (dig Y) m).getD 0 := Int.mul_nonneg hdk.1 hyk.1
        have hw1 : IntKind.i64.wrap (d * (nth (dig Y) m).getD 0) = d * (nth (dig Y) m).getD 0 := wrap_of (by unfold i64; omega)
        have hw2 : IntKind.i64.wrap (x + d * (nth (dig Y) m).getD 0) = x + d * (nth (dig Y) m).getD 0 := wrap_of (by unfold i64; omega)
        have hw3 : IntKind.i64.wrap (x + d * (nth (dig Y) m).getD 0 + c) = n := by rw [hn, wrap_of (by unfold i64; omega)]; omega
        have hwq : IntKind.i64.wrap (n.tdiv 10000) = n.tdiv 10000 := by rw [hn2, wrap_of (by unfold i64; omega)]
        have hz' : ¬ ((10000 : Int) = 0) := by omega
        have hov := over_num (v := n.tmod 10000) hx
        have hxz := hq.zero _ x (by omega) (.inl (by omega)) hx
        have hnc : n = c := by rw [hn, hxz, nth_get, List.getElem?_eq_none (by omega)]; simp
        simp (maxSteps := 1000000) +contextual (disch := first | with_reducible assumption | exact ⟨rfl⟩ | exact ⟨rfl, rfl⟩ | (refine _root_.id ?_; kernel_rfl) | omega) only [evs, ext_mv, nth, put, putT, getT, binInt, binStr, binBool, aUn, outA, resA, mapO, resA1, oneOf, w1, w2, w3, bots, cond_true, cond_false, if_true, if_false, ite_true, ite_false, reduceIte, reduceCtorEq, implies_true, Nat.reduceAdd, Nat.reduceSub, AV.int, AV.bool, AV.str, Nat.reduceBEq, Nat.reduceEqDiff, Nat.reduceMul, Nat.reduceLT, Nat.reduceLeDiff, Int.reduceNeg, BEq.rfl, beq_self_eq_true, tabl, cellsOf, fldA, ldA, stA, entAt, partA, takeN, over, leafOk, Value.oneCell', idxA, nilA, cellsEq, fillA, elemsA, pure1, pure2, reps, chkA, tys, Try.results48, KX_draw, KX_drawQ, KX_tail, lastO_one, lastO_more, dropL_one, dropL_more, callP_eq, callM_true, digA, e0, e1, e5, e6, e7, e8, d3, d4, hd', hmw, hB, him, hin, hx', hw1, hw2, hw3, hwq, hz', hov, Nat.mul_one]
        exact IH (m + 1, n.tdiv 10000, o2.set (i + m) (n.tmod 10000)) _ (by first | omega | (simp only; omega)) ⟨rfl, by first | omega | (dsimp only; omega), hq2, fun _ => by show n.tdiv 10000 = 0; rw [hn2, hnc]; omega, (by first | rfl | simp only [getT, List.map_append, List.map_cons, List.map_nil, digC, digA]), (by first | rfl | simp only [getT, List.map_append, List.map_cons, List.map_nil, digC, digA]), (by first | rfl | simp only [getT, List.map_append, List.map_cons, List.map_nil, digC, digA]), (by first | rfl | simp only [getT, List.map_append, List.map_cons, List.map_nil, digC, digA]), (by first | rfl | simp only [getT, List.map_append, List.map_cons, List.map_nil, digC, digA]), (by first | rfl | simp only [getT, List.map_append, List.map_cons, List.map_nil, digC, digA]), (by first | rfl | simp only [getT, List.map_append, List.map_cons, List.map_nil, digC, digA])⟩
      · have d4 : decide (c > 0) = false := by simpa using cc
        simp (maxSteps := 1000000) +contextual (disch := first | with_reducible assumption | exact ⟨rfl⟩ | exact ⟨rfl, rfl⟩ | (refine _root_.id ?_; kernel_rfl) | omega) only [evs, ext_mv, nth, put, putT, getT, binInt, binStr, binBool, aUn, outA, resA, mapO, resA1, oneOf, w1, w2, w3, bots, cond_true, cond_false, if_true, if_false, ite_true, ite_false, reduceIte, reduceCtorEq, implies_true, Nat.reduceAdd, Nat.reduceSub, AV.int, AV.bool, AV.str, Nat.reduceBEq, Nat.reduceEqDiff, Nat.reduceMul, Nat.reduceLT, Nat.reduceLeDiff, Int.reduceNeg, BEq.rfl, beq_self_eq_true, tabl, cellsOf, fldA, ldA, stA, entAt, partA, takeN, over, leafOk, Value.oneCell', idxA, nilA, cellsEq, fillA, elemsA, pure1, pure2, reps, chkA, tys, Try.results48, KX_draw, KX_drawQ, KX_tail, lastO_one, lastO_more, dropL_one, dropL_more, callP_eq, callM_true, digA, e0, e1, e5, e6, e7, e8, d3, d4, hiw]
        exact OUT (i + 1, o2) _ (by first | omega | (simp only; omega)) ⟨rfl, by first | omega | (dsimp only; omega), hq.last (by first | omega | (dsimp only; omega)) (by first | omega | (dsimp only; omega)) hp hd, (by first | rfl | simp only [getT, List.map_append, List.map_cons, List.map_nil, digC, digA]), (by first | rfl | simp only [getT, List.map_append, List.map_cons, List.map_nil, digC, digA]), (by first | rfl | simp only [getT, List.map_append, List.map_cons, List.map_nil, digC, digA]), (by first | rfl | simp only [getT, List.map_append, List.map_cons, List.map_nil, digC, digA]), (by first | rfl | simp only [getT, List.map_append, List.map_cons, List.map_nil, digC, digA])⟩
  · have d2 : decide ((i : Int) < ((dig X).length : Int)) = false := by simpa using hlt
    have he : i = (dig X).length := by omega
    subst he
    have hdone := hp.done
    obtain ⟨c9, tk9, hT⟩ := R02_trim_own [⟨0, out.map numC⟩] tk' n' out 0 0 (by omega) rfl
    rw [hlen, hdone] at hT
    simp (maxSteps := 1000000) +contextual (disch := first | with_reducible assumption | exact ⟨rfl⟩ | exact ⟨rfl, rfl⟩ | (refine _root_.id ?_; kernel_rfl) | omega) only [evs, ext_mv, nth, put, putT, getT, binInt, binStr, binBool, aUn, outA, resA, mapO, resA1, oneOf, w1, w2, w3, bots, cond_true, cond_false, if_true, if_false, ite_true, ite_false, reduceIte, reduceCtorEq, implies_true, Nat.reduceAdd, Nat.reduceSub, AV.int, AV.bool, AV.str, Nat.reduceBEq, Nat.reduceEqDiff, Nat.reduceMul, Nat.reduceLT, Nat.reduceLeDiff, Int.reduceNeg, BEq.rfl, beq_self_eq_true, tabl, cellsOf, fldA, ldA, stA, entAt, partA, takeN, over, leafOk, Value.oneCell', idxA, nilA, cellsEq, fillA, elemsA, pure1, pure2, reps, chkA, tys, Try.results48, KX_draw, KX_drawQ, KX_tail, lastO_one, lastO_more, dropL_one, dropL_more, callP_eq, callM_true, digA, e0, e1, e5, e6, d2, hT]
/-- a signed number over digits of one's own -/
def sgnOwn (neg : Bool) (id ep n : Nat) : AV := if 200 < n then .tup [.agg [.bool false, .frz [] .nilc], .bool false] else if n = 0 then .tup [.agg [.bool false, .frz [] .nilc], .bool true] else .tup [.agg [.bool neg, .sref id ep 0 n 1], .bool true]
theorem big_signed_own (neg : Bool) (id ep n : Nat) (hid : id < S.length) : cL Try.prog 56 [.bool neg, .sref id ep 0 n 1] S tk k = some (sgnOwn neg id ep n, S, tk, k + 1) := by
  refine call_shared Try.func56 rfl rfl (by decide +kernel) Try.ntmps56 rfl ?_; rw [RK_KX]
  by_cases h1 : 200 < n
  · have d1 : decide ((n : Int) > 200) = true := by simp; omega
    simp (maxSteps := 1000000) +contextual (disch := first | with_reducible assumption | exact ⟨rfl⟩ | exact ⟨rfl, rfl⟩ | (refine _root_.id ?_; kernel_rfl) | omega) only [evs, ext_mv, nth, put, putT, getT, binInt, binStr, binBool, aUn, outA, resA, mapO, resA1, oneOf, w1, w2, w3, bots, cond_true, cond_false, if_true, if_false, ite_true, ite_false, reduceIte, reduceCtorEq, implies_true, Nat.reduceAdd, Nat.reduceSub, AV.int, AV.bool, AV.str, Nat.reduceBEq, Nat.reduceEqDiff, Nat.reduceMul, Nat.reduceLT, Nat.reduceLeDiff, Int.reduceNeg, BEq.rfl, beq_self_eq_true, tabl, cellsOf, fldA, ldA, stA, entAt_new, entAt_old, entAt_old2, List.take_left, List.take_length, partA, takeN, over, leafOk, Value.oneCell', idxA, nilA, cellsEq, fillA, elemsA, pure1, pure2, reps, chkA, tys, Try.results56, KX_draw, KX_drawQ, KX_tail, lastO_one, lastO_more, dropL_one, dropL_more, callP_eq, callM_true, d1]
    simp [sgnOwn, h1]
  have d1 : decide ((n : Int) > 200) = false := by simp; omega
  by_cases h2 : n = 0
  · have d2 : ((n : Int) == 0) = true := by simp; omega
    simp (maxSteps := 1000000) +contextual (disch := first | with_reducible assumption | exact ⟨rfl⟩ | exact ⟨rfl, rfl⟩ | (refine _root_.id ?_; kernel_rfl) | omega) only [evs, ext_mv, nth, put, putT, getT, binInt, binStr, binBool, aUn, outA, resA, mapO, resA1, oneOf, w1, w2, w3, bots, cond_true, cond_false, if_true, if_false, ite_true, ite_false, reduceIte, reduceCtorEq, implies_true, Nat.reduceAdd, Nat.reduceSub, AV.int, AV.bool, AV.str, Nat.reduceBEq, Nat.reduceEqDiff, Nat.reduceMul, Nat.reduceLT, Nat.reduceLeDiff, Int.reduceNeg, BEq.rfl, beq_self_eq_true, tabl, cellsOf, fldA, ldA, stA, entAt_new, entAt_old, entAt_old2, List.take_left, List.take_length, partA, takeN, over, leafOk, Value.oneCell', idxA, nilA, cellsEq, fillA, elemsA, pure1, pure2, reps, chkA, tys, Try.results56, KX_draw, KX_drawQ, KX_tail, lastO_one, lastO_more, dropL_one, dropL_more, callP_eq, callM_true, d1, d2]
    simp [sgnOwn, h2]
  · have d2 : ((n : Int) == 0) = false := by simp; omega
    simp (maxSteps := 1000000) +contextual (disch := first | with_reducible assumption | exact ⟨rfl⟩ | exact ⟨rfl, rfl⟩ | (refine _root_.id ?_; kernel_rfl) | omega) only [evs, ext_mv, nth, put, putT, getT, binInt, binStr, binBool, aUn, outA, resA, mapO, resA1, oneOf, w1, w2, w3, bots, cond_true, cond_false, if_true, if_false, ite_true, ite_false, reduceIte, reduceCtorEq, implies_true, Nat.reduceAdd, Nat.reduceSub, AV.int, AV.bool, AV.str, Nat.reduceBEq, Nat.reduceEqDiff, Nat.reduceMul, Nat.reduceLT, Nat.reduceLeDiff, Int.reduceNeg, BEq.rfl, beq_self_eq_true, tabl, cellsOf, fldA, ldA, stA, entAt_new, entAt_old, entAt_old2, List.take_left, List.take_length, partA, takeN, over, leafOk, Value.oneCell', idxA, nilA, cellsEq, fillA, elemsA, pure1, pure2, reps, chkA, tys, Try.results56, KX_draw, KX_drawQ, KX_tail, lastO_one, lastO_more, dropL_one, dropL_more, callP_eq, callM_true, d1, d2]
    simp [sgnOwn, h1, h2]
theorem trim_not_nil {l : List Int} (h : l ≠ []) : l.length ≠ 0 := fun h' => h (List.length_eq_zero_iff.1 h')
set_option maxRecDepth 100000 in
theorem big_Mul (p q : Bool) (l r : List Int) (hl : l.length ≤ 1000000) (hr : r.length ≤ 1000000) : cL Try.prog 30 [bigA p l, bigA q r] S tk k = some (sgnF (p != q) (dig ((V p l).natAbs * (V q r).natAbs)), S, tk, k) := by
  have hD1 := fun S tk k => big_digits S tk k p l .unk hl
  have hD2 := fun S tk k => big_digits S tk k q r .unk hr
  have ha := V_len p l
  have hb := V_len q r
  generalize (V p l).natAbs = X at *
  generalize (V q r).natAbs = Y at *
  simp only [digA] at hD1 hD2
  refine call_pure Try.func30 rfl rfl (by decide +kernel) (by decide +kernel) Try.ntmps30 rfl rfl _ _ _ (sgn_pure _ _) ?_; rw [RK_KX]
  have hw : IntKind.i64.wrap (((dig X).length : Int) + ((dig Y).length : Int)) = (((dig X).length + (dig Y).length : Nat) : Int) := by rw [wrap_of (by unfold i64; omega)]; omega
  have hbo : (elemOf Try.prog 26).bind (bytesOf Try.prog) = some 8 := by kernel_rfl
  have hmk := mk_num (P := Try.prog) (t := 26) (n := (dig X).length + (dig Y).length) (by simp only [tys, Option.bind_some]) (by simp only [tys, Option.bind_some]) hbo (by omega)
  simp (maxSteps := 1000000) +contextual (disch := first | with_reducible assumption | exact ⟨rfl⟩ | exact ⟨rfl, rfl⟩ | (refine _root_.id ?_; kernel_rfl) | omega) only [evs, ext_mv, nth, put, putT, getT, binInt, binStr, binBool, aUn, outA, resA, mapO, resA1, oneOf, w1, w2, w3, bots, cond_true, cond_false, if_true, if_false, ite_true, ite_false, reduceIte, reduceCtorEq, implies_true, Nat.reduceAdd, Nat.reduceSub, AV.int, AV.bool, AV.str, Nat.reduceBEq, Nat.reduceEqDiff, Nat.reduceMul, Nat.reduceLT, Nat.reduceLeDiff, Int.reduceNeg, BEq.rfl, beq_self_eq_true, tabl, cellsOf, fldA, ldA, stA, entAt, partA, takeN, over, leafOk, Value.oneCell', idxA, nilA, cellsEq, fillA, elemsA, pure1, pure2, reps, chkA, tys, Try.results30, KX_draw, KX_drawQ, KX_tail, lastO_one, lastO_more, dropL_one, dropL_more, callP_eq, callM_true, bigA, digA, hD1, hD2, hw, hmk]
  refine loop1 (fun x st => st.T.length = 81 ∧ (x.1 ≤ (dig X).length) ∧ (Mul1 X Y x.1 x.2) ∧ getT st.T 2 = .ref 0 0 0 ∧ getT st.T 3 = .ref 1 1 0 ∧ getT st.T 4 = .ref 2 2 0 ∧ getT st.T 6 = digA (dig X) ∧ getT st.T 7 = digA (dig Y) ∧ getT st.T 8 = .sref 3 3 0 ((dig X).length + (dig Y).length) 1 ∧ getT st.T 24 = digA (dig X) ∧ getT st.T 25 = .int (dig X).length ∧ getT st.T 26 = .int (x.1 : Nat) ∧ st.S = [⟨0, [.bool p, digA l]⟩, ⟨1, [.bool q, digA r]⟩, ⟨2, [.bool false, .frz [] .nilc]⟩, ⟨3, x.2.map numC⟩]) (fun x => (dig X).length - x.1) (fun x => sgnF (p != q) (dig (X * Y))) (0, List.replicate ((dig X).length + (dig Y).length) 0) ?_ ?_
  case refine_2 => exact ⟨rfl, Nat.zero_le _, Mul1.start X Y, rfl, rfl, rfl, rfl, rfl, rfl, rfl, rfl, rfl, rfl⟩
  rintro ⟨i, out⟩ ⟨T, S', tk', n'⟩ ⟨hl, hi, hp, e2, e3, e4, e6, e7, e8, e24, e25, e26, eS⟩ IH
  simp only at hi hp e2 e3 e4 e6 e7 e8 e24 e25 e26 eS
  subst eS
  obtain ⟨g, hg, hT⟩ := tab_of hl
  rw [hg] at e2 e3 e4 e6 e7 e8 e24 e25 e26
  subst hT
  clear hg hl
  have OUT := IH
  clear IH
  have hlen := hp.len
  by_cases hlt : i < (dig X).length
  · have d2 : decide ((i : Int) < ((dig X).length : Int)) = true := by simpa using hlt
    obtain ⟨d, hd⟩ := nth_some hlt
    have hd' := nth_dig hd
    have hdk := of_okD (okD_dig X) hd
    have hiw := wrap_add (i := i) (by omega)
    have hst := Mul2.start (d := d) hp
    simp (maxSteps := 1000000) +contextual (disch := first | with_reducible assumption | exact ⟨rfl⟩ | exact ⟨rfl, rfl⟩ | (refine _root_.id ?_; kernel_rfl) | omega) only [evs, ext_mv, nth, put, putT, getT, binInt, binStr, binBool, aUn, outA, resA, mapO, resA1, oneOf, w1, w2, w3, bots, cond_true, cond_false, if_true, if_false, ite_true, ite_false, reduceIte, reduceCtorEq, implies_true, Nat.reduceAdd, Nat.reduceSub, AV.int, AV.bool, AV.str, Nat.reduceBEq, Nat.reduceEqDiff, Nat.reduceMul, Nat.reduceLT, Nat.reduceLeDiff, Int.reduceNeg, BEq.rfl, beq_self_eq_true, tabl, cellsOf, fldA, ldA, stA, entAt, partA, takeN, over, leafOk, Value.oneCell', idxA, nilA, cellsEq, fillA, elemsA, pure1, pure2, reps, chkA, tys, Try.results30, KX_draw, KX_drawQ, KX_tail, lastO_one, lastO_more, dropL_one, dropL_more, callP_eq, callM_true, digA, e2, e3, e4, e6, e7, e8, e24, e25, e26, d2, hd']
    refine loop1 (fun x st => st.T.length = 81 ∧ (x.1 ≤ (dig Y).length) ∧ (Mul2 X Y i x.1 (val out + 10000 ^ i * (d * Y)) d x.2.1 x.2.2) ∧ getT st.T 2 = .ref 0 0 0 ∧ getT st.T 3 = .ref 1 1 0 ∧ getT st.T 4 = .ref 2 2 0 ∧ getT st.T 6 = digA (dig X) ∧ getT st.T 7 = digA (dig Y) ∧ getT st.T 8 = .sref 3 3 0 ((dig X).length + (dig Y).length) 1 ∧ getT st.T 9 = .int (i : Nat) ∧ getT st.T 10 = .int d ∧ getT st.T 11 = .int x.2.1 ∧ getT st.T 24 = digA (dig X) ∧ getT st.T 25 = .int (dig X).length ∧ getT st.T 26 = .int (i : Nat) ∧ getT st.T 31 = digA (dig Y) ∧ getT st.T 32 = .int (dig Y).length ∧ getT st.T 33 = .int (x.1 : Nat) ∧ st.S = [⟨0, [.bool p, digA l]⟩, ⟨1, [.bool q, digA r]⟩, ⟨2, [.bool false, .frz [] .nilc]⟩, ⟨3, x.2.2.map numC⟩]) (fun x => (dig Y).length - x.1) (fun x => sgnF (p != q) (dig (X * Y))) (0, 0, out) ?_ ?_
    case refine_2 => exact ⟨rfl, Nat.zero_le _, hst, rfl, rfl, rfl, rfl, rfl, rfl, rfl, rfl, rfl, rfl, rfl, rfl, rfl, rfl, rfl, rfl⟩
    rintro ⟨m, c, o2⟩ ⟨T, S', tk', n'⟩ ⟨hl, hm, hq, e2, e3, e4, e6, e7, e8, e9, e10, e11, e24, e25, e26, e31, e32, e33, eS⟩ IH
    simp only at hm hq e2 e3 e4 e6 e7 e8 e9 e10 e11 e24 e25 e26 e31 e32 e33 eS
    subst eS
    obtain ⟨g, hg, hT⟩ := tab_of hl
    rw [hg] at e2 e3 e4 e6 e7 e8 e9 e10 e11 e24 e25 e26 e31 e32 e33
    subst hT
    clear hg hl
    have hlen2 := hq.len
    have hc0 := hq.c0
    have hmw := wrap_add (i := m) (by omega)
    have him : IntKind.i64.wrap ((i : Int) + (m : Int)) = ((i + m : Nat) : Int) := by rw [wrap_of (by unfold i64; omega)]; omega
    by_cases cm : m < (dig Y).length
    · have d3 : decide ((m : Int) < ((dig Y).length : Int)) = true := by simpa using cm
      obtain ⟨y, hy⟩ := nth_some cm
      have hy' := nth_dig hy
      obtain ⟨x, hx⟩ := nth_some (show i + m < o2.length by omega)
      have hx' := nth_num hx
      have hin : i + m < (dig X).length + (dig Y).length := by omega
      obtain ⟨n, hn⟩ : ∃ n, n = c + x + d * (nth (dig Y) m).getD 0 := ⟨_, rfl⟩
      obtain ⟨hq2, hn0, hn1, hn2⟩ := hq.step (by omega) hdk hx hn
      rw [hy] at hn
      simp only [Option.getD_some] at hn
      have hxk := of_okD hq.ok hx
      have hyk := of_okD (okD_dig Y) hy
      have hp0 : 0 ≤ d * y := Int.mul_nonneg hdk.1 hyk.1
      have hw1 : IntKind.i64.wrap (d * y) = d * y := wrap_of (by unfold i64; omega)
      have hw2 : IntKind.i64.wrap (x + d * y) = x + d * y := wrap_of (by unfold i64; omega)
      have hw3 : IntKind.i64.wrap (c + (x + d * y)) = n := by rw [hn, wrap_of (by unfold i64; omega)]; omega
      have hwq : IntKind.i64.wrap (n.tdiv 10000) = n.tdiv 10000 := by rw [hn2, wrap_of (by unfold i64; omega)]
      have hz' : ¬ ((10000 : Int) = 0) := by omega
      have hov := over_num (v := n.tmod 10000) hx
      simp (maxSteps := 1000000) +contextual (disch := first | with_reducible assumption | exact ⟨rfl⟩ | exact ⟨rfl, rfl⟩ | (refine _root_.id ?_; kernel_rfl) | omega) only [evs, ext_mv, nth, put, putT, getT, binInt, binStr, binBool, aUn, outA, resA, mapO, resA1, oneOf, w1, w2, w3, bots, cond_true, cond_false, if_true, if_false, ite_true, ite_false, reduceIte, reduceCtorEq, implies_true, Nat.reduceAdd, Nat.reduceSub, AV.int, AV.bool, AV.str, Nat.reduceBEq, Nat.reduceEqDiff, Nat.reduceMul, Nat.reduceLT, Nat.reduceLeDiff, Int.reduceNeg, BEq.rfl, beq_self_eq_true, tabl, cellsOf, fldA, ldA, stA, entAt, partA, takeN, over, leafOk, Value.oneCell', idxA, nilA, cellsEq, fillA, elemsA, pure1, pure2, reps, chkA, tys, Try.results30, KX_draw, KX_drawQ, KX_tail, lastO_one, lastO_more, dropL_one, dropL_more, callP_eq, callM_true, digA, e2, e3, e4, e6, e7, e8, e9, e10, e11, e24, e25, e26, e31, e32, e33, d3, hy', hmw, him, hin, hx', hw1, hw2, hw3, hwq, hz', hov, Nat.mul_one]
      exact IH (m + 1, n.tdiv 10000, o2.set (i + m) (n.tmod 10000)) _ (by first | omega | (simp only; omega)) ⟨rfl, by first | omega | (dsimp only; omega), hq2, (by first | rfl | simp only [getT, List.map_append, List.map_cons, List.map_nil, digC, digA]), (by first | rfl | simp only [getT, List.map_append, List.map_cons, List.map_nil, digC, digA]), (by first | rfl | simp only [getT, List.map_append, List.map_cons, List.map_nil, digC, digA]), (by first | rfl | simp only [getT, List.map_append, List.map_cons, List.map_nil, digC, digA]), (by first | rfl | simp only [getT, List.map_append, List.map_cons, List.map_nil, digC, digA]), (by first | rfl | simp only [getT, List.map_append, List.map_cons, List.map_nil, digC, digA]), (by first | rfl | simp only [getT, List.map_append, List.map_cons, List.map_nil, digC, digA]), (by first | rfl | simp only [getT, List.map_append, List.map_cons, List.map_nil, digC, digA]), (by first | rfl | simp only [getT, List.map_append, List.map_cons, List.map_nil, digC, digA]), (by first | rfl | simp only [getT, List.map_append, List.map_cons, List.map_nil, digC, digA]), (by first | rfl | simp only [getT, List.map_append, List.map_cons, List.map_nil, digC, digA]), (by first | rfl | simp only [getT, List.map_append, List.map_cons, List.map_nil, digC, digA]), (by first | rfl | simp only [getT, List.map_append, List.map_cons, List.map_nil, digC, digA]), (by first | rfl | simp only [getT, List.map_append, List.map_cons, List.map_nil, digC, digA]), (by first | rfl | simp only [getT, List.map_append, List.map_cons, List.map_nil, digC, digA]), (by first | rfl | simp only [getT, List.map_append, List.map_cons, List.map_nil, digC, digA])⟩
    · have d3 : decide ((m : Int) < ((dig Y).length : Int)) = false := by simpa using cm
      have hme : m = (dig Y).length := by omega
      subst hme
      have hin : i + (dig Y).length < (dig X).length + (dig Y).length := by omega
      obtain ⟨x, hx⟩ := nth_some (show i + (dig Y).length < o2.length by omega)
      have hx' := nth_num hx
      obtain ⟨hxz, hnext⟩ := hq.next hp hd hx
      have hov := over_num (v := x + c) hx
      have hw1 : IntKind.i64.wrap (x + c) = x + c := wrap_of (by unfold i64; omega)
      simp (maxSteps := 1000000) +contextual (disch := first | with_reducible assumption | exact ⟨rfl⟩ | exact ⟨rfl, rfl⟩ | (refine _root_.id ?_; kernel_rfl) | omega) only [evs, ext_mv, nth, put, putT, getT, binInt, binStr, binBool, aUn, outA, resA, mapO, resA1, oneOf, w1, w2, w3, bots, cond_true, cond_false, if_true, if_false, ite_true, ite_false, reduceIte, reduceCtorEq, implies_true, Nat.reduceAdd, Nat.reduceSub, AV.int, AV.bool, AV.str, Nat.reduceBEq, Nat.reduceEqDiff, Nat.reduceMul, Nat.reduceLT, Nat.reduceLeDiff, Int.reduceNeg, BEq.rfl, beq_self_eq_true, tabl, cellsOf, fldA, ldA, stA, entAt, partA, takeN, over, leafOk, Value.oneCell', idxA, nilA, cellsEq, fillA, elemsA, pure1, pure2, reps, chkA, tys, Try.results30, KX_draw, KX_drawQ, KX_tail, lastO_one, lastO_more, dropL_one, dropL_more, callP_eq, callM_true, digA, e2, e3, e4, e6, e7, e8, e9, e10, e11, e24, e25, e26, e31, e32, e33, d3, hiw, him, hin, hx', hov, hw1, Nat.mul_one]
      exact OUT (i + 1, o2.set (i + (dig Y).length) (x + c)) _ (by first | omega | (simp only; omega)) ⟨rfl, by first | omega | (dsimp only; omega), hnext, (by first | rfl | simp only [getT, List.map_append, List.map_cons, List.map_nil, digC, digA]), (by first | rfl | simp only [getT, List.map_append, List.map_cons, List.map_nil, digC, digA]), (by first | rfl | simp only [getT, List.map_append, List.map_cons, List.map_nil, digC, digA]), (by first | rfl | simp only [getT, List.map_append, List.map_cons, List.map_nil, digC, digA]), (by first | rfl | simp only [getT, List.map_append, List.map_cons, List.map_nil, digC, digA]), (by first | rfl | simp only [getT, List.map_append, List.map_cons, List.map_nil, digC, digA]), (by first | rfl | simp only [getT, List.map_append, List.map_cons, List.map_nil, digC, digA]), (by first | rfl | simp only [getT, List.map_append, List.map_cons, List.map_nil, digC, digA]), (by first | rfl | simp only [getT, List.map_append, List.map_cons, List.map_nil, digC, digA]), (by first | rfl | simp only [getT, List.map_append, List.map_cons, List.map_nil, digC, digA])⟩
  · have d2 : decide ((i : Int) < ((dig X).length : Int)) = false := by simpa using hlt
    have he : i = (dig X).length := by omega
    subst he
    have hdone := hp.done
    have hT := fun tk k => big_trim_own [⟨0, [.bool p, digA l]⟩, ⟨1, [.bool q, digA r]⟩, ⟨2, [.bool false, .frz [] .nilc]⟩, ⟨3, out.map numC⟩] tk k out 3 3 (by omega) rfl
    have hG := fun tk k => big_signed_own [⟨0, [.bool p, digA l]⟩, ⟨1, [.bool q, digA r]⟩, ⟨2, [.bool false, .frz [] .nilc]⟩, ⟨3, out.map numC⟩] tk k (!(p == q)) 3 3 (dig (X * Y)).length (by simp)
    have hfz := fz_num (m := 0) (id := 3) (ep := 3) (S := [⟨0, [.bool p, digA l]⟩, ⟨1, [.bool q, digA r]⟩, ⟨2, [.bool (!(p == q)), .sref 3 3 0 (dig (X * Y)).length 1]⟩, ⟨3, out.map numC⟩]) (Nat.zero_le _) rfl (trim_len out)
    rw [← trim_is_take, hdone] at hfz
    rw [hlen, hdone] at hT
    simp only [digA] at hfz hT hG
    have hs1 := sh_trim
    have hs2 := sh_signed
    by_cases h1 : 200 < (dig (X * Y)).length
    · simp only [sgnOwn, h1, if_true] at hG
      simp (maxSteps := 1000000) +contextual (disch := first | with_reducible assumption | exact ⟨rfl⟩ | exact ⟨rfl, rfl⟩ | (refine _root_.id ?_; kernel_rfl) | omega) only [evs, ext_mv, nth, put, putT, getT, binInt, binStr, binBool, aUn, outA, resA, mapO, resA1, oneOf, w1, w2, w3, bots, cond_true, cond_false, if_true, if_false, ite_true, ite_false, reduceIte, reduceCtorEq, implies_true, Nat.reduceAdd, Nat.reduceSub, AV.int, AV.bool, AV.str, Nat.reduceBEq, Nat.reduceEqDiff, Nat.reduceMul, Nat.reduceLT, Nat.reduceLeDiff, Int.reduceNeg, BEq.rfl, beq_self_eq_true, tabl, cellsOf, fldA, ldA, stA, entAt, partA, takeN, over, leafOk, Value.oneCell', idxA, nilA, cellsEq, fillA, elemsA, pure1, pure2, reps, chkA, tys, Try.results30, KX_draw, KX_drawQ, KX_tail, lastO_one, lastO_more, dropL_one, dropL_more, callP_eq, callM_true, digA, e2, e3, e4, e6, e7, e8, e24, e25, e26, d2, hT, hG, hs1.1, hs1.2.1, hs1.2.2, hs2.1, hs2.2.1, hs2.2.2]
      simp [sgnF, h1, bigA, digA, bne]
    · by_cases h2 : dig (X * Y) = []
      · simp only [sgnOwn, h2, List.length_nil, if_true, Nat.not_lt_zero, if_false] at hG hT
        simp (maxSteps := 1000000) +contextual (disch := first | with_reducible assumption | exact ⟨rfl⟩ | exact ⟨rfl, rfl⟩ | (refine _root_.id ?_; kernel_rfl) | omega) only [evs, ext_mv, nth, put, putT, getT, binInt, binStr, binBool, aUn, outA, resA, mapO, resA1, oneOf, w1, w2, w3, bots, cond_true, cond_false, if_true, if_false, ite_true, ite_false, reduceIte, reduceCtorEq, implies_true, Nat.reduceAdd, Nat.reduceSub, AV.int, AV.bool, AV.str, Nat.reduceBEq, Nat.reduceEqDiff, Nat.reduceMul, Nat.reduceLT, Nat.reduceLeDiff, Int.reduceNeg, BEq.rfl, beq_self_eq_true, tabl, cellsOf, fldA, ldA, stA, entAt, partA, takeN, over, leafOk, Value.oneCell', idxA, nilA, cellsEq, fillA, elemsA, pure1, pure2, reps, chkA, tys, Try.results30, KX_draw, KX_drawQ, KX_tail, lastO_one, lastO_more, dropL_one, dropL_more, callP_eq, callM_true, digA, e2, e3, e4, e6, e7, e8, e24, e25, e26, d2, hT, hG, hs1.1, hs1.2.1, hs1.2.2, hs2.1, hs2.2.1, hs2.2.2]
        simp [sgnF, h2, bigA, digA, bne]
      · simp only [sgnOwn, h1, trim_not_nil h2, if_false] at hG
        simp (maxSteps := 1000000) +contextual (disch := first | with_reducible assumption | exact ⟨rfl⟩ | exact ⟨rfl, rfl⟩ | (refine _root_.id ?_; kernel_rfl) | omega) only [evs, ext_mv, nth, put, putT, getT, binInt, binStr, binBool, aUn, outA, resA, mapO, resA1, oneOf, w1, w2, w3, bots, cond_true, cond_false, if_true, if_false, ite_true, ite_false, reduceIte, reduceCtorEq, implies_true, Nat.reduceAdd, Nat.reduceSub, AV.int, AV.bool, AV.str, Nat.reduceBEq, Nat.reduceEqDiff, Nat.reduceMul, Nat.reduceLT, Nat.reduceLeDiff, Int.reduceNeg, BEq.rfl, beq_self_eq_true, tabl, cellsOf, fldA, ldA, stA, entAt, partA, takeN, over, leafOk, Value.oneCell', idxA, nilA, cellsEq, fillA, elemsA, pure1, pure2, reps, chkA, tys, Try.results30, KX_draw, KX_drawQ, KX_tail, lastO_one, lastO_more, dropL_one, dropL_more, callP_eq, callM_true, digA, e2, e3, e4, e6, e7, e8, e24, e25, e26, d2, hT, hG, hs1.1, hs1.2.1, hs1.2.2, hs2.1, hs2.2.1, hs2.2.2, hfz]
        simp [sgnF, h1, h2, bigA, digA, bne]
end
end Go.Proofs.Ytmgbmbganlndkaa
