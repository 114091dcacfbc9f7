/-
  Texts laid together: UX7.
-/
import Derived.Test.YtmkoiandfojgmaaGreatZM16
namespace Go.Proofs.YtmkoiandfojgmaaGreat
open Go
section
variable [Depth]
theorem R01_In (n : Int) : ∃ b : Bool, (∀ S tk k, cL Tryz.prog 77 [.int n] S tk k = some (.bool b, S, tk, k)) ∧ (b = true → True) := by
  refine opB Tryz.func77 Tryz.ntmps77 ?_
  simp (maxSteps := 10^6) +contextual (disch := try exact dqd) only [ev0, simprocAttr, AV.int, AV.bool, AV.str, Tryz.results77, gE]
set_option maxRecDepth 100000 in
set_option maxHeartbeats 4000000 in
theorem R20_node (e : XT) (hb : bkX e ≤ 1048576) : ∃ m : Int, (∀ S tk k, cL Tryz.prog 50 [.agg (exprC e)] S tk k = some (.int m, S, tk, k)) ∧ (m = 0 → goodN e) := by
  obtain ⟨o, s, n, ks, ps, al, ts⟩ := e
  have hu := R20_uses o
  obtain ⟨bc, hcn, hcq⟩ := R20_counts o s n ks ps al ts hb (usesF o)
  obtain ⟨bn, hnm, -⟩ := R20_named o s n ks ps al ts hb (usesF o)
  obtain ⟨bd, hds, -⟩ := R20_distinct o s n ks ps al ts hb
  obtain ⟨mt, hty, -⟩ := R20_typed o s n ks ps al ts hb
  obtain ⟨bi, hin, -⟩ := R01_In n
  have hkl := exprsC_len ks
  have hal := altsC_len al
  have htl := typesC_len ts
  have hpl : (ps.map paramC).length = ps.length := List.length_map ..
  simp only [exprC] at hcn hnm hds hty
  refine opI' Tryz.func50 Tryz.ntmps50 ?_
  by_cases hr : 1 ≤ o ∧ o ≤ 26
  · obtain ho | ho | ho | ho | ho | ho | ho | ho | ho | ho | ho | ho | ho | ho | ho | ho | ho | ho | ho | ho | ho | ho | ho | ho | ho | ho : o = 1 ∨ o = 2 ∨ o = 3 ∨ o = 4 ∨ o = 5 ∨ o = 6 ∨ o = 7 ∨ o = 8 ∨ o = 9 ∨ o = 10 ∨ o = 11 ∨ o = 12 ∨ o = 13 ∨ o = 14 ∨ o = 15 ∨ o = 16 ∨ o = 17 ∨ o = 18 ∨ o = 19 ∨ o = 20 ∨ o = 21 ∨ o = 22 ∨ o = 23 ∨ o = 24 ∨ o = 25 ∨ o = 26 := by omega
    all_goals
      subst ho
      simp (config := { decide := true }) only [usesF, useC, if_true, if_false] at hu hcn hnm hcq
      simp (maxSteps := 10^6) +contextual (disch := try exact dqd) only [ev0, simprocAttr, AV.int, AV.bool, AV.str, Tryz.results50, gE, exprC, hu, hcn, hnm, hds, hty, hin, hkl, hal, htl, hpl]
      intros
      try refine And.intro ?_ ?_
      all_goals
        intros
        have h := hcq ‹_›
        simp only [decide_eq_false_iff_not, gt_iff_lt, Int.not_lt] at *
        exact ⟨fun h => by first | exact absurd h (by decide) | exact List.eq_nil_of_length_eq_zero (by omega), fun h => by first | exact absurd rfl h | exact List.eq_nil_of_length_eq_zero (by omega), fun h => by omega, fun h => by omega, fun h => by omega, fun h => by omega, by omega, by first | exact h.2.2.1 trivial | omega, by first | exact h.2.2.2.1 trivial | omega, h.2.2.2.2⟩
  · have hu0 : usesF o = ⟨false, false, 0, 0, false, false, false, false, false⟩ := by
      unfold usesF
      rw [if_neg (by omega), if_neg (by omega), if_neg (by omega), if_neg (by omega), if_neg (by omega), if_neg (by omega), if_neg (by omega), if_neg (by omega), if_neg (by omega), if_neg (by omega), if_neg (by omega), if_neg (by omega)]
    simp only [hu0, useC] at hu
    simp (maxSteps := 10^6) +contextual (disch := try exact dqd) only [ev0, simprocAttr, AV.int, AV.bool, AV.str, Tryz.results50, gE, exprC, hu]
end
end Go.Proofs.YtmkoiandfojgmaaGreat
