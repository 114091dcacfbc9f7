/-
  Texts laid together: UR1, UR2, UX2.
-/
import Derived.Test.YtmkoiandfojgmaaGreatZM14
import Derived.Test.YtmkoiandfojgmaaGreatZM13
namespace Go.Proofs.YtmkoiandfojgmaaGreat
open Go
section
variable [Depth] (S : List Ent) (tk : List Nat) (k : Nat)
theorem R04_keywords : cL Tryz.prog 123 [] S tk k = some (.frz (kwL.map strC) .unk, S, tk, k) := by
  refine opP Tryz.func123 Tryz.ntmps123 ?_
  simp (maxSteps := 10^6) +contextual (disch := try exact dqd) only [ev0, simprocAttr, AV.int, AV.bool, AV.str, Tryz.results123]
  rfl
theorem R04_Find (l : List ByteArray) (s : ByteArray) (hlen : l.length ≤ 1000000) : cL Tryz.prog 15 [.frz (l.map strC) .unk, .str s] S tk k = some (.int (findF 0 l s), S, tk, k) := by
  refine opP Tryz.func15 Tryz.ntmps15 ?_
  simp (maxSteps := 10^6) +contextual (disch := try exact dqd) only [ev0, simprocAttr, AV.int, AV.bool, AV.str, Tryz.results15]
  refine loop1 (P := Tryz.prog) (fun x st => st.T.length = 19 ∧ (x ≤ l.length) ∧ (findF 0 l s = findF x (l.drop x) s) ∧ getT st.T 0 = .frz (l.map strC) .unk ∧ getT st.T 1 = .str s ∧ getT st.T 7 = .int (l.length : Nat) ∧ getT st.T 8 = .int (x : Nat) ∧ st.S = []) (fun x => l.length - x) (fun x => .int (findF 0 l s)) (0) ?_ ?_
  case refine_2 => exact ⟨rfl, Nat.zero_le _, rfl, rfl, rfl, rfl, rfl, rfl⟩
  rintro i ⟨T, S', tk', n'⟩ ⟨hl, hi, hA, e0, e1, e7, e8, eS⟩ IH
  subst eS
  obtain ⟨g, hg, hT⟩ := tab_of hl
  rw [hg] at e0 e1 e7 e8
  subst hT
  clear hg hl
  by_cases la : i < l.length
  · have d1 : decide ((i : Int) < (l.length : Int)) = true := by simpa using la
    obtain ⟨x, hx⟩ := nth_some la
    have hx' : nth (l.map strC) i = some (strC x) := by rw [nth_map, hx]; rfl
    have hw := wrap_add (i := i) (by omega)
    rw [nth_drop hx] at hA
    simp only [findF] at hA
    cases hq : sEq x s <;> rw [hq] at hA
    · simp (maxSteps := 10^6) +contextual (disch := try exact dqd) only [ev0, simprocAttr, AV.int, AV.bool, AV.str, Tryz.results15, e0, e1, e7, e8, d1, hx', hw, strC, hq]
      exact IH (i + 1) _ (by omega) ⟨rfl, by omega, by simpa using hA, rfl, rfl, rfl, rfl, rfl⟩
    · simp (maxSteps := 10^6) +contextual (disch := try exact dqd) only [ev0, simprocAttr, AV.int, AV.bool, AV.str, Tryz.results15, e0, e1, e7, e8, d1, hx', hw, strC, hq]
      simpa using hA.symm
  · have d1 : decide ((i : Int) < (l.length : Int)) = false := by simpa using la
    have he : i = l.length := by omega
    simp (maxSteps := 10^6) +contextual (disch := try exact dqd) only [ev0, simprocAttr, AV.int, AV.bool, AV.str, Tryz.results15, e0, e1, e7, e8, d1]
    rw [hA, he, List.drop_length]; rfl
theorem R04_Keyword (s : ByteArray) : cL Tryz.prog 118 [.str s] S tk k = some (.bool (kwF s), S, tk, k) := by
  refine opP Tryz.func118 Tryz.ntmps118 ?_
  have h1 := R04_keywords
  have h2 := fun S tk k => R04_Find S tk k kwL s (by decide)
  simp (maxSteps := 10^6) +contextual (disch := try exact dqd) only [ev0, simprocAttr, AV.int, AV.bool, AV.str, Tryz.results118, h1, h2]
  rw [findF_nn]; rfl
theorem R04_small (b : UInt8) : cL Tryz.prog 117 [.prim (.int .u8 b.toNat)] S tk k = some (.bool (smallB b), S, tk, k) := by
  have e1 : decide ((b.toNat : Int) ≥ (97 : Int)) = decide (97 ≤ b.toNat) := decide_eq_decide.2 (by omega)
  have e2 : decide ((b.toNat : Int) ≤ (122 : Int)) = decide (b.toNat ≤ 122) := decide_eq_decide.2 (by omega)
  unfold smallB
  generalize decide (97 ≤ b.toNat) = q1 at *
  generalize decide (b.toNat ≤ 122) = q2 at *
  refine opP Tryz.func117 Tryz.ntmps117 ?_
  cases q1 <;> cases q2
  all_goals
    simp (maxSteps := 10^6) +contextual (disch := try exact dqd) only [ev0, simprocAttr, AV.int, AV.bool, AV.str, Tryz.results117, e1, e2]
    try rfl
theorem R04_capital (b : UInt8) : cL Tryz.prog 120 [.prim (.int .u8 b.toNat)] S tk k = some (.bool (capB b), S, tk, k) := by
  have e1 : decide ((b.toNat : Int) ≥ (65 : Int)) = decide (65 ≤ b.toNat) := decide_eq_decide.2 (by omega)
  have e2 : decide ((b.toNat : Int) ≤ (90 : Int)) = decide (b.toNat ≤ 90) := decide_eq_decide.2 (by omega)
  unfold capB
  generalize decide (65 ≤ b.toNat) = q1 at *
  generalize decide (b.toNat ≤ 90) = q2 at *
  refine opP Tryz.func120 Tryz.ntmps120 ?_
  cases q1 <;> cases q2
  all_goals
    simp (maxSteps := 10^6) +contextual (disch := try exact dqd) only [ev0, simprocAttr, AV.int, AV.bool, AV.str, Tryz.results120, e1, e2]
    try rfl
theorem R04_digit (b : UInt8) : cL Tryz.prog 119 [.prim (.int .u8 b.toNat)] S tk k = some (.bool (digB b), S, tk, k) := by
  have e1 : decide ((b.toNat : Int) ≥ (48 : Int)) = decide (48 ≤ b.toNat) := decide_eq_decide.2 (by omega)
  have e2 : decide ((b.toNat : Int) ≤ (57 : Int)) = decide (b.toNat ≤ 57) := decide_eq_decide.2 (by omega)
  unfold digB
  generalize decide (48 ≤ b.toNat) = q1 at *
  generalize decide (b.toNat ≤ 57) = q2 at *
  refine opP Tryz.func119 Tryz.ntmps119 ?_
  cases q1 <;> cases q2
  all_goals
    simp (maxSteps := 10^6) +contextual (disch := try exact dqd) only [ev0, simprocAttr, AV.int, AV.bool, AV.str, Tryz.results119, e1, e2]
    try rfl
set_option maxHeartbeats 2000000 in
theorem R04_Check (s : ByteArray) : cL Tryz.prog 106 [.str s] S tk k = some (.int (if nameF s = true then 0 else 3), S, tk, k) := by
  refine opP Tryz.func106 Tryz.ntmps106 ?_
  have c2 := fun S tk k => R04_Keyword S tk k s
  by_cases h1 : s.size < 1
  · have d1 : decide ((s.size : Int) < 1) = true := by simp; omega
    simp (maxSteps := 10^6) +contextual (disch := try exact dqd) only [ev0, simprocAttr, AV.int, AV.bool, AV.str, Tryz.results106, d1]
    have : nameF s = false := by unfold nameF sizedF; rw [show decide (1 ≤ s.size) = false from decide_eq_false (by omega)]; rfl
    rw [this]; rfl
  by_cases h2 : 24 < s.size
  · have d1 : decide ((s.size : Int) < 1) = false := by simp; omega
    have d2 : decide ((s.size : Int) > 24) = true := by simp; omega
    simp (maxSteps := 10^6) +contextual (disch := try exact dqd) only [ev0, simprocAttr, AV.int, AV.bool, AV.str, Tryz.results106, d1, d2]
    have : nameF s = false := by unfold nameF sizedF; rw [show decide (s.size ≤ 24) = false from decide_eq_false (by omega), Bool.and_false]; rfl
    rw [this]; rfl
  have d1 : decide ((s.size : Int) < 1) = false := by simp; omega
  have d2 : decide ((s.size : Int) > 24) = false := by simp; omega
  have hz : sizedF s = true := by unfold sizedF; simp; omega
  obtain ⟨b, hb⟩ := bs_at (show 0 < s.size by omega)
  have hb' := sIx hb
  have c3 := fun S tk k => R04_small S tk k b
  have hN : nameF s = (smallB b && !kwF s && (bsL s).all lowB) := by simp [nameF, hz, head_at hb]
  generalize hRR : nameF s = R at *
  cases hq : smallB b with
  | false =>
    rw [hq] at c3 hN
    simp (maxSteps := 10^6) +contextual (disch := try exact dqd) only [ev0, simprocAttr, AV.int, AV.bool, AV.str, Tryz.results106, d1, d2, c2, c3, hb']
    rw [hN]; rfl
  | true =>
    rw [hq] at c3 hN
    cases hk : kwF s with
    | true =>
      rw [hk] at c2 hN
      simp (maxSteps := 10^6) +contextual (disch := try exact dqd) only [ev0, simprocAttr, AV.int, AV.bool, AV.str, Tryz.results106, d1, d2, c2, c3, hb']
      rw [hN]; rfl
    | false =>
      rw [hk] at c2 hN
      simp (maxSteps := 10^6) +contextual (disch := try exact dqd) only [ev0, simprocAttr, AV.int, AV.bool, AV.str, Tryz.results106, d1, d2, c2, c3, hb']
      have hN1 : R = ((bsL s).drop 0).all lowB := by rw [hN]; rfl
      clear hb' c2 c3 hN hb hRR
      refine loop1 (P := Tryz.prog) (fun x st => st.T.length = 46 ∧ (x ≤ s.size) ∧ (R = ((bsL s).drop x).all lowB) ∧ getT st.T 0 = .str s ∧ getT st.T 23 = .int (s.size : Nat) ∧ getT st.T 24 = .int (x : Nat) ∧ st.S = []) (fun x => s.size - x) (fun x => .int (if R = true then 0 else 3)) (0) ?_ ?_
      case refine_2 => exact ⟨rfl, Nat.zero_le _, hN1, rfl, rfl, rfl, rfl⟩
      rintro i ⟨T, S', tk', n'⟩ ⟨hl, hi, hA, e0, e23, e24, eS⟩ IH
      subst eS
      obtain ⟨g, hg, hT⟩ := tab_of hl
      rw [hg] at e0 e23 e24
      subst hT
      clear hg hl
      by_cases la : i < s.size
      · have d1 : decide ((i : Int) < (s.size : Int)) = true := by simpa using la
        obtain ⟨b, hb⟩ := bs_at la
        have hb' := sIx hb
        have hw := wrap_add (i := i) (by omega)
        rw [nth_drop hb] at hA
        have n1 := fun S tk k => R04_small S tk k b
        have n3 := fun S tk k => R04_digit S tk k b
        have e95 : (((b.toNat : Nat) : Int) != 95) = !decide (b.toNat = 95) := by
          by_cases h : b.toNat = 95 <;> simp [h] <;> omega
        simp only [List.all_cons, lowB] at hA
        cases q1 : smallB b <;> cases q3 : digB b <;> cases q2 : decide (b.toNat = 95) <;> simp only [q1, q2, q3, Bool.or_true, Bool.true_or, Bool.or_false, Bool.false_and, Bool.true_and, Bool.not_true, Bool.not_false] at n1 n3 e95 hA
        case false.false.false =>
          simp (maxSteps := 10^6) +contextual (disch := try exact dqd) only [ev0, simprocAttr, AV.int, AV.bool, AV.str, Tryz.results106, e0, e23, e24, d1, hb', hw, n1, n3, e95]
          rw [hA]; rfl
        all_goals
          simp (maxSteps := 10^6) +contextual (disch := try exact dqd) only [ev0, simprocAttr, AV.int, AV.bool, AV.str, Tryz.results106, e0, e23, e24, d1, hb', hw, n1, n3, e95]
          exact IH (i + 1) _ (by omega) ⟨rfl, by omega, hA, rfl, rfl, rfl, rfl⟩
      · have d1 : decide ((i : Int) < (s.size : Int)) = false := by simpa using la
        have he : i = s.size := by omega
        simp (maxSteps := 10^6) +contextual (disch := try exact dqd) only [ev0, simprocAttr, AV.int, AV.bool, AV.str, Tryz.results106, e0, e23, e24, d1]
        rw [hA, he, ← bsL_len, List.drop_length]; rfl
set_option maxHeartbeats 2000000 in
theorem R04_Title (s : ByteArray) : cL Tryz.prog 107 [.str s] S tk k = some (.int (if titleF s = true then 0 else 3), S, tk, k) := by
  refine opP Tryz.func107 Tryz.ntmps107 ?_
  by_cases h1 : s.size < 1
  · have d1 : decide ((s.size : Int) < 1) = true := by simp; omega
    simp (maxSteps := 10^6) +contextual (disch := try exact dqd) only [ev0, simprocAttr, AV.int, AV.bool, AV.str, Tryz.results107, d1]
    have : titleF s = false := by unfold titleF sizedF; rw [show decide (1 ≤ s.size) = false from decide_eq_false (by omega)]; rfl
    rw [this]; rfl
  by_cases h2 : 24 < s.size
  · have d1 : decide ((s.size : Int) < 1) = false := by simp; omega
    have d2 : decide ((s.size : Int) > 24) = true := by simp; omega
    simp (maxSteps := 10^6) +contextual (disch := try exact dqd) only [ev0, simprocAttr, AV.int, AV.bool, AV.str, Tryz.results107, d1, d2]
    have : titleF s = false := by unfold titleF sizedF; rw [show decide (s.size ≤ 24) = false from decide_eq_false (by omega), Bool.and_false]; rfl
    rw [this]; rfl
  have d1 : decide ((s.size : Int) < 1) = false := by simp; omega
  have d2 : decide ((s.size : Int) > 24) = false := by simp; omega
  have hz : sizedF s = true := by unfold sizedF; simp; omega
  obtain ⟨b, hb⟩ := bs_at (show 0 < s.size by omega)
  have hb' := sIx hb
  have c3 := fun S tk k => R04_capital S tk k b
  have hN : titleF s = (capB b && (bsL s).all alnB && !(sEq s ⟨#[73, 110, 116]⟩ || sEq s ⟨#[66, 111, 111, 108]⟩ || sEq s ⟨#[67, 101, 108, 108]⟩ || sEq s ⟨#[70, 117, 110]⟩)) := by simp [titleF, hz, head_at hb, bInt, bBool, bCell, bFun]
  generalize hRR : titleF s = R at *
  cases hq : capB b with
  | false =>
    rw [hq] at c3 hN
    simp (maxSteps := 10^6) +contextual (disch := try exact dqd) only [ev0, simprocAttr, AV.int, AV.bool, AV.str, Tryz.results107, d1, d2, c3, hb']
    rw [hN]; rfl
  | true =>
    rw [hq] at c3 hN
    cases r1 : sEq s ⟨#[73, 110, 116]⟩ <;> cases r2 : sEq s ⟨#[66, 111, 111, 108]⟩ <;> cases r3 : sEq s ⟨#[67, 101, 108, 108]⟩ <;> cases r4 : sEq s ⟨#[70, 117, 110]⟩ <;> simp only [r1, r2, r3, r4, Bool.or_true, Bool.true_or, Bool.or_false, Bool.not_true, Bool.not_false, Bool.and_true, Bool.and_false, Bool.true_and] at hN
    case false.false.false.false =>
      simp (maxSteps := 10^6) +contextual (disch := try exact dqd) only [ev0, simprocAttr, AV.int, AV.bool, AV.str, Tryz.results107, d1, d2, c3, hb', r1, r2, r3, r4]
      have hN1 : R = ((bsL s).drop 0).all alnB := by rw [hN]; rfl
      clear hb' c3 hN hb hRR r1 r2 r3 r4
      refine loop1 (P := Tryz.prog) (fun x st => st.T.length = 59 ∧ (x ≤ s.size) ∧ (R = ((bsL s).drop x).all alnB) ∧ getT st.T 0 = .str s ∧ getT st.T 35 = .int (s.size : Nat) ∧ getT st.T 36 = .int (x : Nat) ∧ st.S = []) (fun x => s.size - x) (fun x => .int (if R = true then 0 else 3)) (0) ?_ ?_
      case refine_2 => exact ⟨rfl, Nat.zero_le _, hN1, rfl, rfl, rfl, rfl⟩
      rintro i ⟨T, S', tk', n'⟩ ⟨hl, hi, hA, e0, e35, e36, eS⟩ IH
      subst eS
      obtain ⟨g, hg, hT⟩ := tab_of hl
      rw [hg] at e0 e35 e36
      subst hT
      clear hg hl
      by_cases la : i < s.size
      · have d1 : decide ((i : Int) < (s.size : Int)) = true := by simpa using la
        obtain ⟨b, hb⟩ := bs_at la
        have hb' := sIx hb
        have hw := wrap_add (i := i) (by omega)
        rw [nth_drop hb] at hA
        have n1 := fun S tk k => R04_small S tk k b
        have n2 := fun S tk k => R04_capital S tk k b
        have n3 := fun S tk k => R04_digit S tk k b
        simp only [List.all_cons, alnB] at hA
        cases q1 : smallB b <;> cases q2 : capB b <;> cases q3 : digB b <;> simp only [q1, q2, q3, Bool.or_true, Bool.true_or, Bool.or_false, Bool.false_and, Bool.true_and] at n1 n2 n3 hA
        case false.false.false =>
          simp (maxSteps := 10^6) +contextual (disch := try exact dqd) only [ev0, simprocAttr, AV.int, AV.bool, AV.str, Tryz.results107, e0, e35, e36, d1, hb', hw, n1, n2, n3]
          rw [hA]; rfl
        all_goals
          simp (maxSteps := 10^6) +contextual (disch := try exact dqd) only [ev0, simprocAttr, AV.int, AV.bool, AV.str, Tryz.results107, e0, e35, e36, d1, hb', hw, n1, n2, n3]
          exact IH (i + 1) _ (by omega) ⟨rfl, by omega, hA, rfl, rfl, rfl, rfl⟩
      · have d1 : decide ((i : Int) < (s.size : Int)) = false := by simpa using la
        have he : i = s.size := by omega
        simp (maxSteps := 10^6) +contextual (disch := try exact dqd) only [ev0, simprocAttr, AV.int, AV.bool, AV.str, Tryz.results107, e0, e35, e36, d1]
        rw [hA, he, ← bsL_len, List.drop_length]; rfl
    all_goals
      simp (maxSteps := 10^6) +contextual (disch := try exact dqd) only [ev0, simprocAttr, AV.int, AV.bool, AV.str, Tryz.results107, d1, d2, c3, hb', r1, r2, r3, r4]
      rw [hN]; rfl
end
theorem word_head {l : List UInt8} {b : UInt8} (h : nth l 0 = some b) : wordF l = (smallB b && l.all lowB) := by
  cases l with
  | nil => simp [nth] at h
  | cons x l =>
    simp only [nth, Option.some.injEq] at h; subst h
    simp only [wordF, List.all_cons, lowB]
    cases smallB x <;> simp
section
variable [Depth] (S : List Ent) (tk : List Nat) (k : Nat)
set_option maxHeartbeats 2000000 in
theorem R04_part (s : ByteArray) : cL Tryz.prog 108 [.str s] S tk k = some (.bool (partF s), S, tk, k) := by
  refine opP Tryz.func108 Tryz.ntmps108 ?_
  by_cases h1 : s.size < 1
  · have d1 : decide ((s.size : Int) < 1) = true := by simp; omega
    simp (maxSteps := 10^6) +contextual (disch := try exact dqd) only [ev0, simprocAttr, AV.int, AV.bool, AV.str, Tryz.results108, d1]
    unfold partF sizedF; rw [show decide (1 ≤ s.size) = false from decide_eq_false (by omega)]; rfl
  by_cases h2 : 24 < s.size
  · have d1 : decide ((s.size : Int) < 1) = false := by simp; omega
    have d2 : decide ((s.size : Int) > 24) = true := by simp; omega
    simp (maxSteps := 10^6) +contextual (disch := try exact dqd) only [ev0, simprocAttr, AV.int, AV.bool, AV.str, Tryz.results108, d1, d2]
    unfold partF sizedF; rw [show decide (s.size ≤ 24) = false from decide_eq_false (by omega), Bool.and_false]; rfl
  have d1 : decide ((s.size : Int) < 1) = false := by simp; omega
  have d2 : decide ((s.size : Int) > 24) = false := by simp; omega
  have hz : sizedF s = true := by unfold sizedF; simp; omega
  obtain ⟨b, hb⟩ := bs_at (show 0 < s.size by omega)
  have hb' := sIx hb
  have c3 := fun S tk k => R04_small S tk k b
  have hN : partF s = ((true && (bsL s).all alnB) || (smallB b && (bsL s).all lowB)) := by simp [partF, hz, word_head hb]
  generalize hRR : partF s = R at *
  generalize smallB b = sb at *
  simp (maxSteps := 10^6) +contextual (disch := try exact dqd) only [ev0, simprocAttr, AV.int, AV.bool, AV.str, Tryz.results108, d1, d2, c3, hb']
  clear hb' c3 hb hRR
  refine loop1 (P := Tryz.prog) (fun x st => st.T.length = 65 ∧ (x.1 ≤ s.size) ∧ (R = ((x.2.1 && ((bsL s).drop x.1).all alnB) || (x.2.2 && ((bsL s).drop x.1).all lowB))) ∧ getT st.T 0 = .str s ∧ getT st.T 3 = .bool x.2.1 ∧ getT st.T 4 = .bool x.2.2 ∧ getT st.T 18 = .int (s.size : Nat) ∧ getT st.T 19 = .int (x.1 : Nat) ∧ st.S = []) (fun x => s.size - x.1) (fun x => .bool R) (0, true, sb) ?_ ?_
  case refine_2 => exact ⟨rfl, Nat.zero_le _, hN, rfl, rfl, rfl, rfl, rfl, rfl⟩
  rintro ⟨i, p, v⟩ ⟨T, S', tk', n'⟩ ⟨hl, hi, hA, e0, e3, e4, e18, e19, eS⟩ IH
  simp only at hi hA e0 e3 e4 e18 e19 eS
  subst eS
  obtain ⟨g, hg, hT⟩ := tab_of hl
  rw [hg] at e0 e3 e4 e18 e19
  subst hT
  clear hg hl
  by_cases la : i < s.size
  · have d1 : decide ((i : Int) < (s.size : Int)) = true := by simpa using la
    obtain ⟨b, hb⟩ := bs_at la
    have hb' := sIx hb
    have hw := wrap_add (i := i) (by omega)
    rw [nth_drop hb] at hA
    have n1 := fun S tk k => R04_small S tk k b
    have n2 := fun S tk k => R04_capital S tk k b
    have n3 := fun S tk k => R04_digit S tk k b
    have e95 : (((b.toNat : Nat) : Int) == 95) = decide (b.toNat = 95) := by
      by_cases h : b.toNat = 95 <;> simp [h] <;> omega
    simp only [List.all_cons] at hA
    rw [← Bool.and_assoc, ← Bool.and_assoc] at hA
    have hp' : (p && alnB b) = (if p = true then (if smallB b = true then true else if capB b = true then true else digB b) else false) := by
      unfold alnB; cases p <;> cases smallB b <;> cases capB b <;> cases digB b <;> rfl
    have hv' : (v && lowB b) = (if v = true then (if smallB b = true then true else if digB b = true then true else decide (b.toNat = 95)) else false) := by
      unfold lowB; cases v <;> cases smallB b <;> cases digB b <;> cases decide (b.toNat = 95) <;> rfl
    generalize smallB b = q1 at *
    generalize capB b = q2 at *
    generalize digB b = q3 at *
    generalize decide (b.toNat = 95) = q4 at *
    cases p <;> cases v <;> cases q1 <;> cases q2 <;> cases q3 <;> cases q4
    all_goals
      simp (maxSteps := 10^6) +contextual (disch := try exact dqd) only [ev0, simprocAttr, AV.int, AV.bool, AV.str, Tryz.results108, e0, e3, e4, e18, e19, d1, hb', hw, n1, n2, n3, e95]
      simp only [hp', hv', if_true, if_false, Bool.false_eq_true] at hA
      exact IH (i + 1, _, _) _ (by simp only; omega) ⟨rfl, la, hA, rfl, rfl, rfl, rfl, rfl, rfl⟩
  · have d1 : decide ((i : Int) < (s.size : Int)) = false := by simpa using la
    have he : i = s.size := by omega
    have hA2 : R = (p || v) := by rw [hA, he, ← bsL_len, List.drop_length]; simp
    cases p <;> simp (maxSteps := 10^6) +contextual (disch := try exact dqd) only [ev0, simprocAttr, AV.int, AV.bool, AV.str, Tryz.results108, e0, e3, e4, e18, e19, d1] <;> rw [hA2] <;> simp
end
end Go.Proofs.YtmkoiandfojgmaaGreat
namespace Go.Proofs.YtmkoiandfojgmaaGreat
open Go
theorem strC_len (x : ByteArray) : (strC x).length = 1 := rfl
theorem segs_at {l : List UInt8} {i : Nat} {b : UInt8} (h : nth l i = some b) (hn : ∀ j c, j < i → nth l j = some c → c.toNat ≠ 46) (hb : b.toNat = 46) : segsL l = l.take i :: segsL (l.drop (i + 1)) := by
  rw [segs_cut, cut_at l i b h hn hb]; rfl
theorem segs_none {l : List UInt8} (hn : ∀ j c, nth l j = some c → c.toNat ≠ 46) : segsL l = [l] := by
  rw [segs_cut, cut_none l hn]; rfl
theorem nth_dropI {α : Type} (l : List α) (a j : Nat) : nth (l.drop a) j = nth l (a + j) := by
  rw [nth_get, nth_get, List.getElem?_drop]
theorem slice_mid (s : ByteArray) (a i : Nat) (h : a ≤ i) (h2 : i ≤ s.size) : sliceA Tryz.prog 9 (.prim (.string s)) (some (.prim (.int .i64 (a : Int)))) (some (.prim (.int .i64 (i : Int)))) none = some (.str (ofL (((bsL s).drop a).take (i - a)))) := by
  have : s.extract a i = ofL (((bsL s).drop a).take (i - a)) := by rw [extract_ofL, List.drop_take]
  simp [sliceA, isS, bound, intN, h, h2, this]
theorem slice_end (s : ByteArray) (a : Nat) (h : a ≤ s.size) : sliceA Tryz.prog 9 (.prim (.string s)) (some (.prim (.int .i64 (a : Int)))) none none = some (.str (ofL ((bsL s).drop a))) := by
  rw [slice_from s a h, extract_ofL, ← bsL_len, List.take_length]
section
variable [Depth] (S : List Ent) (tk : List Nat) (k : Nat)
theorem R04_parts (s : ByteArray) (hs : s.size ≤ 1000000) : cL Tryz.prog 105 [.str s] S tk k = some (.frz ((segsF s).map strC) .unk, S, tk, k) := by
  refine opP Tryz.func105 Tryz.ntmps105 ?_
  simp (maxSteps := 10^6) +contextual (disch := try exact dqd) only [ev0, simprocAttr, AV.int, AV.bool, AV.str, Tryz.results105]
  refine loop1 (P := Tryz.prog) (fun x st => st.T.length = 31 ∧ (x.1 ≤ s.size) ∧ (x.2.1 ≤ x.1) ∧ (x.2.2.1.length ≤ x.1) ∧ (okCap st.tk x.2.2.2 1 = true) ∧ (segsF s = x.2.2.1 ++ (segsL ((bsL s).drop x.2.1)).map ofL) ∧ (∀ q y, x.2.1 ≤ q → q < x.1 → nth (bsL s) q = some y → y.toNat ≠ 46) ∧ getT st.T 0 = .str s ∧ getT st.T 3 = .frz (x.2.2.1.map strC) x.2.2.2 ∧ getT st.T 4 = .int (x.2.1 : Nat) ∧ getT st.T 7 = .int (s.size : Nat) ∧ getT st.T 8 = .int (x.1 : Nat) ∧ st.S = []) (fun x => s.size - x.1) (fun x => .frz ((segsF s).map strC) .unk) (0, 0, [], .nilc) ?_ ?_
  case refine_2 => exact ⟨rfl, Nat.zero_le _, Nat.zero_le _, Nat.le_refl _, rfl, rfl, fun q y h1 h2 => by omega, rfl, rfl, rfl, rfl, rfl, rfl⟩
  rintro ⟨i, a, o, c⟩ ⟨T, S', tk', n'⟩ ⟨hl, hi, ha, ho, hok, hm, hA, e0, e3, e4, e7, e8, eS⟩ IH
  simp only at hi ha ho hok hm hA e0 e3 e4 e7 e8 eS
  subst eS
  obtain ⟨g, hg, hT⟩ := tab_of hl
  rw [hg] at e0 e3 e4 e7 e8
  subst hT
  clear hg hl
  have hr := rowsOk_map (f := strC) (sz := 1) (fun _ => rfl) o
  have hn : (o.map strC).length + 1 ≤ 1048576 := by simp; omega
  have hok' := okCap_new hok
  by_cases la : i < s.size
  · have d1 : decide ((i : Int) < (s.size : Int)) = true := by simpa using la
    obtain ⟨b, hb⟩ := bs_at la
    have hb' := sIx hb
    have hw := wrap_add (i := i) (by omega)
    by_cases h46 : b.toNat = 46
    · have d2 : (((b.toNat : Nat) : Int) == 46) = true := by rw [h46]; rfl
      have hseg := segs_at (l := (bsL s).drop a) (i := i - a) (b := b) (by rw [nth_dropI, show a + (i - a) = i by omega]; exact hb) (fun j c hj hc => by rw [nth_dropI] at hc; exact hA (a + j) c (by omega) (by omega) hc) h46
      rw [List.drop_drop, show a + (i - a + 1) = i + 1 by omega] at hseg
      have s1 := slice_mid s a i ha hi
      rw [hseg, List.map_cons] at hm
      generalize ofL (((bsL s).drop a).take (i - a)) = y at *
      simp (maxSteps := 10^6) +contextual (disch := try exact dqd) only [ev0, simprocAttr, AV.int, AV.bool, AV.str, Tryz.results105, e0, e3, e4, e7, e8, d1, d2, hb', hw, s1, hr, strC]
      exact IH (i + 1, i + 1, o ++ [y], capNew tk' c 1) _ (by simp only; omega) ⟨rfl, la, Nat.le_refl _, by simp; omega, hok', by simp only [hm, List.append_assoc, List.cons_append, List.nil_append], fun q y h1 h2 => by simp only at h1 h2; omega, rfl, by simp [getT, strC], rfl, rfl, rfl, rfl⟩
    · have d2 : (((b.toNat : Nat) : Int) == 46) = false := by simp; omega
      simp (maxSteps := 10^6) +contextual (disch := try exact dqd) only [ev0, simprocAttr, AV.int, AV.bool, AV.str, Tryz.results105, e0, e3, e4, e7, e8, d1, d2, hb', hw]
      refine IH (i + 1, a, o, c) _ (by simp only; omega) ⟨rfl, la, by simp only; omega, by simp only; omega, hok, hm, fun j c' h1 h2 hc => ?_, rfl, rfl, rfl, rfl, rfl, rfl⟩
      by_cases hji : j = i
      · subst hji; rw [hb] at hc; cases hc; exact h46
      · exact hA j c' h1 (by simp only at h2; omega) hc
  · have d1 : decide ((i : Int) < (s.size : Int)) = false := by simpa using la
    have he : i = s.size := by omega
    have hseg := segs_none (l := (bsL s).drop a) (fun j c hc => by
      rw [nth_dropI] at hc
      have : a + j < s.size := by
        rw [nth_get] at hc
        have := (List.getElem?_eq_some_iff.1 hc).1
        rwa [bsL_len] at this
      exact hA (a + j) c (by omega) (by omega) hc)
    have s1 := slice_end s a (by omega)
    rw [hseg, List.map_cons, List.map_nil] at hm
    generalize ofL ((bsL s).drop a) = y at *
    simp (maxSteps := 10^6) +contextual (disch := try exact dqd) only [ev0, simprocAttr, AV.int, AV.bool, AV.str, Tryz.results105, e0, e3, e4, e7, e8, d1, s1, hr, strC]
    rw [hm, List.map_append]; rfl
end
theorem core_eq2 {s : ByteArray} (h : s.size ≤ 120) {f : ByteArray} {fs : List ByteArray} (hf : segsF s = f :: fs) : coreF s = ((nameF f || titleF f || (sEq f bV && !fs.isEmpty)) && fs.all partF) := by
  unfold coreF
  rw [hf, show decide (s.size ≤ 120) = true by simpa using h]; rfl
theorem segs_len : ∀ l : List UInt8, (segsL l).length ≤ l.length + 1
  | [] => by simp [segsL]
  | b :: r => by
    have := segs_len r
    simp only [segsL]
    split
    · simp; omega
    · split
      · rename_i h; rw [h] at this; simp at this ⊢; omega
      · simp
theorem sliceA_1 {e : List AV} {es : List (List AV)} {c : Cap} (hr : rowsOk 1 (e :: es) = true) : sliceA Tryz.prog 44 (.frz (e :: es) c) (some (.prim (.int .i64 1))) none none = some (.frz es .unk) := by
  have hz : (elemOf Tryz.prog 44).bind (szOf Tryz.prog) = some 1 := by kernel_rfl
  simp [sliceA, hz, hr, bound, intN]
section
variable [Depth] (S : List Ent) (tk : List Nat) (k : Nat)
set_option maxHeartbeats 4000000 in
theorem R04_Core (s : ByteArray) : cL Tryz.prog 90 [.str s] S tk k = some (.int (if coreF s = true then 0 else 3), S, tk, k) := by
  refine opP Tryz.func90 Tryz.ntmps90 ?_
  by_cases h120 : s.size ≤ 120
  case neg =>
    have d0 : decide ((s.size : Int) > 120) = true := by simp; omega
    simp (maxSteps := 10^6) +contextual (disch := try exact dqd) only [ev0, simprocAttr, AV.int, AV.bool, AV.str, Tryz.results90, d0]
    have : coreF s = false := by unfold coreF; rw [show decide (s.size ≤ 120) = false by simpa using h120]; rfl
    rw [this]; rfl
  have d0 : decide ((s.size : Int) > 120) = false := by simp; omega
  have c1 := fun S tk k => R04_parts S tk k s (by omega)
  obtain ⟨f, fs, hf⟩ : ∃ f fs, segsF s = f :: fs := by
    unfold segsF; rw [segs_cut]; exact ⟨_, _, rfl⟩
  have hlen : fs.length ≤ 121 := by
    have h1 := segs_len (bsL s)
    have h2 : (segsF s).length = (segsL (bsL s)).length := by simp [segsF]
    rw [bsL_len] at h1
    rw [hf] at h2; simp at h2; omega
  rw [core_eq2 h120 hf]
  rw [hf] at c1
  clear hf
  have c2 := fun S tk k => R04_Check S tk k f
  have c3 := fun S tk k => R04_Title S tk k f
  have hsl := sliceA_1 (e := strC f) (es := fs.map strC) (c := .unk) (rowsOk_map (f := strC) (sz := 1) (fun _ => rfl) (f :: fs))
  have hemp : (((fs.length + 1 : Nat) : Int) == 1) = fs.isEmpty := by cases fs <;> simp; omega
  generalize hRR : ((nameF f || titleF f || (sEq f bV && !fs.isEmpty)) && fs.all partF) = RR
  unfold bV at hRR
  simp only [strC] at hsl
  have n30 : ((3 : Int) != 0) = true := rfl
  have n00 : ((0 : Int) != 0) = false := rfl
  cases q1 : nameF f <;> cases q2 : titleF f <;> cases q3 : sEq f ⟨#[118]⟩ <;> cases q4 : fs.isEmpty <;> rw [q1] at c2 <;> rw [q2] at c3 <;> rw [q4] at hemp <;> simp only [q1, q2, q3, q4, Bool.or_true, Bool.true_or, Bool.or_false, Bool.false_and, Bool.true_and, Bool.and_true, Bool.and_false, Bool.false_or, Bool.not_true, Bool.not_false] at hRR <;> simp only [if_true, if_false, Bool.false_eq_true] at c2 c3
  case false.false.false.false => simp (maxSteps := 10^6) +contextual (disch := try exact dqd) only [ev0, simprocAttr, AV.int, AV.bool, AV.str, Tryz.results90, d0, c1, c2, c3, q3, hemp, n30, n00, strC]; rw [← hRR]; rfl
  case false.false.false.true => simp (maxSteps := 10^6) +contextual (disch := try exact dqd) only [ev0, simprocAttr, AV.int, AV.bool, AV.str, Tryz.results90, d0, c1, c2, c3, q3, hemp, n30, n00, strC]; rw [← hRR]; rfl
  case false.false.true.true => simp (maxSteps := 10^6) +contextual (disch := try exact dqd) only [ev0, simprocAttr, AV.int, AV.bool, AV.str, Tryz.results90, d0, c1, c2, c3, q3, hemp, n30, n00, strC]; rw [← hRR]; rfl
  all_goals
    simp (maxSteps := 10^6) +contextual (disch := try exact dqd) only [ev0, simprocAttr, AV.int, AV.bool, AV.str, Tryz.results90, d0, c1, c2, c3, q3, hemp, n30, n00, hsl, strC]
    clear c1 c2 c3 q1 q2 q3 q4 hsl hemp n30 n00
    refine loop1 (P := Tryz.prog) (fun x st => st.T.length = 45 ∧ (x ≤ fs.length) ∧ (RR = (fs.drop x).all partF) ∧ getT st.T 35 = .frz (fs.map strC) .unk ∧ getT st.T 36 = .int (fs.length : Nat) ∧ getT st.T 37 = .int (x : Nat) ∧ st.S = []) (fun x => fs.length - x) (fun x => .int (if RR = true then 0 else 3)) (0) ?_ ?_
    case refine_2 => exact ⟨rfl, Nat.zero_le _, hRR.symm, rfl, rfl, rfl, rfl⟩
    rintro i ⟨T, S', tk', n'⟩ ⟨hl, hi, hA, e35, e36, e37, eS⟩ IH
    subst eS
    obtain ⟨g, hg, hT⟩ := tab_of hl
    rw [hg] at e35 e36 e37
    subst hT
    clear hg hl
    by_cases la : i < fs.length
    · have d1 : decide ((i : Int) < (fs.length : Int)) = true := by simpa using la
      obtain ⟨x, hx⟩ := nth_some la
      have hx' : nth (fs.map strC) i = some (strC x) := by rw [nth_map, hx]; rfl
      have hw := wrap_add (i := i) (by omega)
      rw [nth_drop hx, List.all_cons] at hA
      have c := fun S tk k => R04_part S tk k x
      cases hq : partF x <;> rw [hq] at c hA
      · simp (maxSteps := 10^6) +contextual (disch := try exact dqd) only [ev0, simprocAttr, AV.int, AV.bool, AV.str, Tryz.results90, e35, e36, e37, d1, hx', hw, strC, c]
        rw [hA]; rfl
      · rw [Bool.true_and] at hA
        simp (maxSteps := 10^6) +contextual (disch := try exact dqd) only [ev0, simprocAttr, AV.int, AV.bool, AV.str, Tryz.results90, e35, e36, e37, d1, hx', hw, strC, c]
        exact IH (i + 1) _ (by omega) ⟨rfl, la, hA, rfl, rfl, rfl, rfl⟩
    · have d1 : decide ((i : Int) < (fs.length : Int)) = false := by simpa using la
      have he : i = fs.length := by omega
      simp (maxSteps := 10^6) +contextual (disch := try exact dqd) only [ev0, simprocAttr, AV.int, AV.bool, AV.str, Tryz.results90, e35, e36, e37, d1]
      rw [hA, he, List.drop_length]; rfl
end
end Go.Proofs.YtmkoiandfojgmaaGreat
namespace Go.Proofs.YtmkoiandfojgmaaGreat
open Go
section
variable [Depth]
theorem R20_Depth : ∀ (b : Nat) (e : XT), bkX e ≤ b → bkX e ≤ 1048576 → ∀ (S : List Ent) (tk : List Nat) (k : Nat), cL Tryz.prog 33 [.agg (exprC e)] S tk k = some (.int (dpX e : Nat), S, tk, k)
  | 0, e, h, _ => by have := bkX_pos e; omega
  | b + 1, e, h, hb => R20_Depth_step e hb fun q hq => R20_Depth b q (by have := bodies_mem hq; omega) (by have := bodies_mem hq; omega)
theorem R20_SameNames0 (c c2 : Cap) (l : List ByteArray) : ∃ b : Bool, (∀ S tk k, cL Tryz.prog 42 [.frz (l.map strC) c2, .frz [] c] S tk k = some (.bool b, S, tk, k)) ∧ (b = true → l = []) := by
  refine opB Tryz.func42 Tryz.ntmps42 ?_
  cases l with
  | nil =>
    simp (maxSteps := 10^6) +contextual (disch := try exact dqd) only [ev0, simprocAttr, AV.int, AV.bool, AV.str, Tryz.results42, gE, List.map_nil]
    refine loopG (P := Tryz.prog) (fun x st => st.T.length = 26 ∧ (x = 0) ∧ getT st.T 0 = .frz [] .unk ∧ getT st.T 5 = .int (0 : Nat) ∧ st.S = []) (fun x => 0) (0) ?_ ?_
    case refine_2 => exact ⟨rfl, rfl, rfl, rfl, rfl⟩
    rintro i ⟨T, S', tk', n'⟩ ⟨hl, hi, e0, e5, eS⟩ IH
    subst eS
    obtain ⟨g, hg, hT⟩ := tab_of hl
    rw [hg] at e0 e5
    subst hT
    clear hg hl
    simp (maxSteps := 10^6) +contextual (disch := try exact dqd) only [ev0, simprocAttr, AV.int, AV.bool, AV.str, Tryz.results42, gE, e0, e5]
  | cons x l =>
    have d1 : (((l.length + 1 : Nat) : Int) != 0) = true := by simp; omega
    simp (maxSteps := 10^6) +contextual (disch := try exact dqd) only [ev0, simprocAttr, AV.int, AV.bool, AV.str, Tryz.results42, gE, List.map_cons, d1]
theorem R07_Same0 (c : Cap) (p : PT) : ∃ b : Bool, (∀ S tk k, cL Tryz.prog 84 [.agg (predC p), .agg [.int 0, .str ⟨#[]⟩, .int 0, .frz [] c]] S tk k = some (.bool b, S, tk, k)) ∧ (b = true → True) := by
  obtain ⟨o, s, n, ks⟩ := p
  refine opB Tryz.func84 Tryz.ntmps84 ?_
  have d2 : ((ks.length : Int) != 0) = true ∨ ks = [] := by cases ks <;> simp; omega
  rcases d2 with d2 | rfl
  · simp (maxSteps := 10^6) +contextual (disch := try exact dqd) only [ev0, simprocAttr, AV.int, AV.bool, AV.str, Tryz.results84, gE, predC, predsC_len, d2]
  · simp (maxSteps := 10^6) +contextual (disch := try exact dqd) only [ev0, simprocAttr, AV.int, AV.bool, AV.str, Tryz.results84, gE, predC, predsC]
    intro _ _ _
    refine loopG (P := Tryz.prog) (fun x st => st.T.length = 53 ∧ (x = 0) ∧ getT st.T 36 = .int (0 : Nat) ∧ getT st.T 37 = .int (0 : Nat) ∧ st.S = [⟨0, [.prim (.int .i64 o), .prim (.string s), .prim (.int .i64 n), .frz [] .unk]⟩, ⟨1, [.prim (.int .i64 0), .prim (.string ⟨#[]⟩), .prim (.int .i64 0), .frz [] .unk]⟩]) (fun x => 0) (0) ?_ ?_
    case refine_2 => exact ⟨rfl, rfl, rfl, rfl, rfl⟩
    rintro i ⟨T, S', tk', n'⟩ ⟨hl, hi, e36, e37, eS⟩ IH
    subst eS
    obtain ⟨g, hg, hT⟩ := tab_of hl
    rw [hg] at e36 e37
    subst hT
    clear hg hl
    simp (maxSteps := 10^6) +contextual (disch := try exact dqd) only [ev0, simprocAttr, AV.int, AV.bool, AV.str, Tryz.results84, gE, e36, e37]
theorem R20_SameTypes0 (c c2 : Cap) (l : List TT) : ∃ b : Bool, (∀ S tk k, cL Tryz.prog 41 [.frz (typesC l) c2, .frz [] c] S tk k = some (.bool b, S, tk, k)) ∧ (b = true → l = []) := by
  refine opB Tryz.func41 Tryz.ntmps41 ?_
  cases l with
  | nil =>
    simp (maxSteps := 10^6) +contextual (disch := try exact dqd) only [ev0, simprocAttr, AV.int, AV.bool, AV.str, Tryz.results41, gE, typesC]
    refine loopG (P := Tryz.prog) (fun x st => st.T.length = 27 ∧ (x = 0) ∧ getT st.T 0 = .frz [] .unk ∧ getT st.T 5 = .int (0 : Nat) ∧ st.S = []) (fun x => 0) (0) ?_ ?_
    case refine_2 => exact ⟨rfl, rfl, rfl, rfl, rfl⟩
    rintro i ⟨T, S', tk', n'⟩ ⟨hl, hi, e0, e5, eS⟩ IH
    subst eS
    obtain ⟨g, hg, hT⟩ := tab_of hl
    rw [hg] at e0 e5
    subst hT
    clear hg hl
    simp (maxSteps := 10^6) +contextual (disch := try exact dqd) only [ev0, simprocAttr, AV.int, AV.bool, AV.str, Tryz.results41, gE, e0, e5]
  | cons x l =>
    have d1 : (((l.length + 1 : Nat) : Int) != 0) = true := by simp; omega
    simp (maxSteps := 10^6) +contextual (disch := try exact dqd) only [ev0, simprocAttr, AV.int, AV.bool, AV.str, Tryz.results41, gE, typesC, typesC_len, List.length_cons, d1]
theorem R20_SameType0 (t : TT) : ∃ b : Bool, (∀ S tk k, cL Tryz.prog 60 [.agg (typeC t), .agg [.int 0, .str ⟨#[]⟩, .frz [] .nilc, .frz [] .nilc, .int 0, .str ⟨#[]⟩, .int 0, .frz [] .nilc, .frz [] .nilc]] S tk k = some (.bool b, S, tk, k)) ∧ (b = true → t.args = []) := by
  obtain ⟨o, s, al, ns, ⟨po, ps, pn, pk⟩, pp⟩ := t
  simp only [TT.args]
  obtain ⟨b1, h1, h1'⟩ := R20_SameNames0 .unk .unk ns
  obtain ⟨b2, h2, -⟩ := R07_Same0 .unk (.node po ps pn pk)
  obtain ⟨b3, h3, h3'⟩ := R20_SameTypes0 .unk .unk al
  simp only [predC] at h2
  refine opB Tryz.func60 Tryz.ntmps60 ?_
  cases pp with
  | nil =>
    simp (maxSteps := 10^6) +contextual (disch := try exact dqd) only [ev0, simprocAttr, AV.int, AV.bool, AV.str, Tryz.results60, gE, typeC, predC, predsC, strsA, List.cons_append, List.nil_append, h1, h2, h3]
    intro _ _ _ _
    generalize hP1 : [AV.prim (.int .i64 o), .prim (.string s), .frz (typesC al) .unk, .frz (ns.map strC) .unk, .prim (.int .i64 po), .prim (.string ps), .prim (.int .i64 pn), .frz (predsC pk) .unk, .frz [] .unk] = P1
    refine loopG (P := Tryz.prog) (fun x st => st.T.length = 67 ∧ (x = 0) ∧ getT st.T 2 = .ref 0 0 0 ∧ getT st.T 3 = .ref 1 1 0 ∧ getT st.T 5 = .int (0 : Nat) ∧ st.S = [⟨0, P1⟩, ⟨1, [.prim (.int .i64 0), .prim (.string ⟨#[]⟩), .frz [] .unk, .frz [] .unk, .prim (.int .i64 0), .prim (.string ⟨#[]⟩), .prim (.int .i64 0), .frz [] .unk, .frz [] .unk]⟩]) (fun x => 0) (0) ?_ ?_
    case refine_2 => exact ⟨rfl, rfl, rfl, rfl, rfl, rfl⟩
    rintro i ⟨T, S', tk', n'⟩ ⟨hl, hi, e2, e3, e5, eS⟩ IH
    subst eS
    obtain ⟨g, hg, hT⟩ := tab_of hl
    rw [hg] at e2 e3 e5
    subst hT
    clear hg hl
    subst hP1
    simp (maxSteps := 10^6) +contextual (disch := try exact dqd) only [ev0, simprocAttr, AV.int, AV.bool, AV.str, Tryz.results60, gE, e2, e3, e5, h3]
    exact h3'
  | cons x l =>
    have d1 : (((l.length + 1 : Nat) : Int) != 0) = true := by simp; omega
    simp (maxSteps := 10^6) +contextual (disch := try exact dqd) only [ev0, simprocAttr, AV.int, AV.bool, AV.str, Tryz.results60, gE, typeC, predC, predsC, predsC_len, strsA, List.cons_append, List.nil_append, List.length_cons, h1, h2, h3, d1]
theorem R20_Zero (t : TT) : ∃ b : Bool, (∀ S tk k, cL Tryz.prog 93 [.agg (typeC t)] S tk k = some (.bool b, S, tk, k)) ∧ (b = true → True) := by
  obtain ⟨b1, h1, -⟩ := R20_SameType0 t
  obtain ⟨o, s, al, ns, ⟨po, ps, pn, pk⟩, pp⟩ := t
  simp only [typeC, predC, strsA, List.cons_append, List.nil_append] at h1
  refine opB Tryz.func93 Tryz.ntmps93 ?_
  simp (maxSteps := 10^6) +contextual (disch := try exact dqd) only [ev0, simprocAttr, AV.int, AV.bool, AV.str, Tryz.results93, gE, typeC, predC, strsA, List.cons_append, List.nil_append, h1]
end
end Go.Proofs.YtmkoiandfojgmaaGreat
