/-
  Walks: the greatest common divisor, the quotient rounded down.
-/
import Derived.Test.YtkghgdkkholieaaLin1
namespace Go.Proofs.Ytkghgdkkholieaa
open Go.RowKit

theorem gcd_step (x y : Nat) : Nat.gcd y (x % y) = Nat.gcd x y := by rw [Nat.gcd_comm x y]; exact (Nat.gcd_rec y x ▸ (Nat.gcd_comm _ _))
/-- Go's quotient and rest of a number by a positive one -/
theorem tmod_case {a b : Int} (hb : 0 < b) : (a.tmod b = 0 ∧ a.tdiv b = a / b) ∨ (0 < a.tmod b ∧ a.tdiv b = a / b) ∨ (a.tmod b < 0 ∧ a.tdiv b - 1 = a / b) := by
  have e1 := @Int.tmod_eq_emod a b
  have e2 := @Int.tdiv_eq_ediv a b
  have h1 := Int.emod_nonneg a (show b ≠ 0 by omega)
  have h2 := Int.emod_lt_of_pos a hb
  have hs : b.sign = 1 := Int.sign_eq_one_of_pos hb
  by_cases hd : 0 ≤ a ∨ b ∣ a
  · rw [if_pos hd] at e1 e2
    rcases Int.lt_or_le 0 (a.tmod b) with h | h
    · exact .inr (.inl ⟨h, by omega⟩)
    · exact .inl ⟨by omega, by omega⟩
  · rw [if_neg hd] at e1 e2
    exact .inr (.inr ⟨by omega, by omega⟩)
theorem tdiv_bound {a b : Int} (a0 : -1000000000000 ≤ a) (a1 : a ≤ 1000000000000) : -1000000000000 ≤ a.tdiv b ∧ a.tdiv b ≤ 1000000000000 := by
  have := Int.natAbs_tdiv a b
  have h2 : (a.tdiv b).natAbs ≤ a.natAbs := by rw [this]; exact Nat.div_le_self _ _
  omega
theorem tmod_bound {a b : Int} (a0 : -1000000000000 ≤ a) (a1 : a ≤ 1000000000000) : -1000000000000 ≤ a.tmod b ∧ a.tmod b ≤ 1000000000000 := by
  have h2 : (a.tmod b).natAbs ≤ a.natAbs := by rw [Int.natAbs_tmod]; exact Nat.mod_le _ _
  omega

set_option maxHeartbeats 1000000 in
theorem num_Gcd (a b : Int) (w : World) (a0 : -1000000000000 ≤ a) (a1 : a ≤ 1000000000000) (b0 : -1000000000000 ≤ b) (b1 : b ≤ 1000000000000) :
    Calls Try.prog 30 #[.int .i64 a, .int .i64 b] w fun e w' => e = .returned (.int .i64 (Int.gcd a b)) ∧ Below w.heap.size w w' := by
  go_enter Try.func30, Try.ntmps30
  go_wp2_with (go_at_call 59; refine (num_abs _ _ (by assumption) (by assumption)).mono ?_; rintro e w' ⟨rfl, rfl⟩)
  go_loopw [0, 1] (fun s t wr => ∃ x y : Nat, s = .int .i64 x ∧ t = .int .i64 y ∧ x ≤ 1000000000000 ∧ y ≤ 1000000000000 ∧ Hid (Nat.gcd x y = Int.gcd a b) ∧ Below w.heap.size w wr) (fun _ t _ => (intOf t).toNat)
  case atStart => exact ⟨a.natAbs, b.natAbs, rfl, rfl, by omega, by omega, Lib.hid rfl, Below.refl _ _⟩
  case round =>
    obtain ⟨x, y, rfl, rfl, hx, hy, HG, hbe⟩ := hrel
    by_cases hz : y = 0
    · subst hz
      go_wp2
      go_ret
      refine ⟨ret_int ?_, hbe⟩
      rw [← HG.out, Nat.gcd_zero_right]
    · have hz' : ((y : Int) == 0) = false := by simpa using hz
      have hz1 : (1 : Int) ≤ y := by omega
      have E1 := Lib.hid (show (x : Int) % (y : Int) = ((x % y : Nat) : Int) by omega)
      have E2 := Lib.hid (Nat.mod_lt x (show 0 < y by omega))
      have HN := Lib.hid (gcd_step x y)
      clear hz
      go_wp2
      go_quiet (fail)
      go_wp2
      go_roundw
      case rel => exact ⟨y, x % y, rfl, by rw [E1.out], hy, by have := E2.out; omega, Lib.hid (HN.out.trans HG.out), bl_drewN hbe _⟩
      case measure => simp [intOf]; have := E1.out; have := E2.out; omega

set_option maxHeartbeats 1000000 in
theorem R01_Gcd (a b : Int) (w : World) (a0 : -1000000000000 ≤ a) (a1 : a ≤ 1000000000000) (b0 : -1000000000000 ≤ b) (b1 : b ≤ 1000000000000) :
    Calls Try.prog 32 #[.int .i64 a, .int .i64 b] w fun e w' => e = .returned (.int .i64 (Int.gcd a b)) ∧ w = w' := by
  go_enter Try.func32, Try.ntmps32
  go_wp2_with (go_at_call 61; refine (R01_size _ _ (by assumption) (by assumption)).mono ?_; rintro e w' ⟨rfl, rfl⟩)
  go_loop [0, 1] (fun s t => ∃ x y : Nat, s = .int .i64 x ∧ t = .int .i64 y ∧ x ≤ 1000000000000 ∧ y ≤ 1000000000000 ∧ Hid (Nat.gcd x y = Int.gcd a b)) (fun _ t => (intOf t).toNat)
  case atStart => exact ⟨a.natAbs, b.natAbs, rfl, rfl, by omega, by omega, Lib.hid rfl⟩
  case round =>
    obtain ⟨x, y, rfl, rfl, hx, hy, HG⟩ := hrel
    by_cases hz : y = 0
    · subst hz
      go_wp2
      go_ret
      refine ⟨ret_int ?_, rfl⟩
      rw [← HG.out, Nat.gcd_zero_right]
    · have hz' : ((y : Int) == 0) = false := by simpa using hz
      have hz1 : (1 : Int) ≤ y := by omega
      have E1 := Lib.hid (show (x : Int) % (y : Int) = ((x % y : Nat) : Int) by omega)
      have E2 := Lib.hid (Nat.mod_lt x (show 0 < y by omega))
      have HN := Lib.hid (gcd_step x y)
      clear hz
      go_wp2
      go_round
      case rel => exact ⟨y, x % y, rfl, by rw [E1.out], hy, by have := E2.out; omega, Lib.hid (HN.out.trans HG.out)⟩
      case measure => simp [intOf]; have := E1.out; have := E2.out; omega

theorem ret_iib {k : IntKind} {a b c d : Int} {p q : Bool} (h : a = b) (h1 : c = d) (h' : p = q) : Ending.returned (.tuple #[.int k a, .int k c, .bool p]) = .returned (.tuple #[.int k b, .int k d, .bool q]) := by rw [h, h1, h']
/-- the quotient of numbers in bounds by a positive one -/
theorem num_divide (a b : Int) (w : World) (a0 : -1000000000000 ≤ a) (a1 : a ≤ 1000000000000) (b0 : 1 ≤ b) (b1 : b ≤ 1000000000000) :
    Calls Try.prog 62 #[.int .i64 a, .int .i64 b] w fun e w' => (∃ r, e = .returned (.tuple #[.int .i64 (a / b), .int .i64 r, .bool true])) ∧ Below w.heap.size w w' := by
  have ha : inB a = true := inB_true.2 ⟨a0, a1⟩
  have hb : inB b = true := inB_true.2 ⟨by omega, b1⟩
  have hz : (b == 0) = false := by simp; omega
  obtain ⟨t0, t1⟩ := tdiv_bound a0 a1 (b := b)
  obtain ⟨m0, m1⟩ := tmod_bound a0 a1 (b := b)
  have hb' : decide (b < 0) = false := by simp; omega
  rcases tmod_case (a := a) (b := b) (by omega) with ⟨h1, h2⟩ | ⟨h1, h2⟩ | ⟨h1, h2⟩
  · have H2 := Lib.hid h2
    clear h2
    have h1' : (a.tmod b != 0) = false := by simpa using h1
    clear h1
    go_enter Try.func62, Try.ntmps62
    go_wp2_with (go_at_call 48; refine (num_In _ _).mono ?_; rintro e w' ⟨rfl, rfl⟩)
    go_quiet (fail)
    go_wp2
    all_goals (go_ret3; exact ⟨⟨_, ret_iib H2.out rfl rfl⟩, bl_drewN (Below.refl _ _) _⟩)
  · have H2 := Lib.hid h2
    clear h2
    have h1' : (a.tmod b != 0) = true := by simp; omega
    have h1'' : decide (a.tmod b < 0) = false := by simp; omega
    clear h1
    go_enter Try.func62, Try.ntmps62
    go_wp2_with (go_at_call 48; refine (num_In _ _).mono ?_; rintro e w' ⟨rfl, rfl⟩)
    go_quiet (fail)
    go_wp2
    all_goals (go_ret3; exact ⟨⟨_, ret_iib H2.out rfl rfl⟩, bl_drewN (Below.refl _ _) _⟩)
  · have H2 := Lib.hid h2
    clear h2
    have h1' : (a.tmod b != 0) = true := by simp; omega
    have h1'' : decide (a.tmod b < 0) = true := by simp; omega
    go_enter Try.func62, Try.ntmps62
    go_wp2_with (go_at_call 48; refine (num_In _ _).mono ?_; rintro e w' ⟨rfl, rfl⟩)
    go_quiet (fail)
    go_wp2
    all_goals (go_ret3; exact ⟨⟨_, ret_iib H2.out rfl rfl⟩, bl_drewN (Below.refl _ _) _⟩)

theorem num_Div (a b : Int) (w : World) (a0 : -1000000000000 ≤ a) (a1 : a ≤ 1000000000000) (b0 : 1 ≤ b) (b1 : b ≤ 1000000000000) :
    Calls Try.prog 37 #[.int .i64 a, .int .i64 b] w fun e w' => e = .returned (.tuple #[.int .i64 (a / b), .bool true]) ∧ Below w.heap.size w w' := by
  go_enter Try.func37, Try.ntmps37
  go_wp2_with (go_at_call 62; refine (num_divide _ _ _ a0 a1 b0 b1).mono ?_; rintro e w' ⟨⟨r, rfl⟩, hbe⟩)
  go_ret2
  exact ⟨rfl, hbe⟩

theorem tmod_mul (a b : Int) : (a.tdiv b * b != a) = (a.tmod b != 0) := by
  have := Int.tmod_def a b
  have e : b * a.tdiv b = a.tdiv b * b := Int.mul_comm _ _
  rw [Bool.eq_iff_iff]; simp; omega
theorem R01_Div (a b : Int) (w : World) (a0 : -1000000000000 ≤ a) (a1 : a ≤ 1000000000000) (b0 : 1 ≤ b) (b1 : b ≤ 1000000000000) :
    Calls Try.prog 38 #[.int .i64 a, .int .i64 b] w fun e w' => e = .returned (.tuple #[.int .i64 (a / b), .bool true]) ∧ Below w.heap.size w w' := by
  have ha : inB a = true := inB_true.2 ⟨a0, a1⟩
  have hb : inB b = true := inB_true.2 ⟨by omega, b1⟩
  have hz : (b == 0) = false := by simp; omega
  obtain ⟨t0, t1⟩ := tdiv_bound a0 a1 (b := b)
  have hb' : decide (b < 0) = false := by simp; omega
  have hmul := tmod_mul a b
  have hm : a.tdiv b * b = a - a.tmod b := by have := Int.tmod_def a b; have e : b * a.tdiv b = a.tdiv b * b := Int.mul_comm _ _; omega
  obtain ⟨m0, m1⟩ := tmod_bound a0 a1 (b := b)
  have hw0 : -2000000000000 ≤ a.tdiv b * b := by omega
  have hw1 : a.tdiv b * b ≤ 2000000000000 := by omega
  clear hm
  rcases tmod_case (a := a) (b := b) (by omega) with ⟨h1, h2⟩ | ⟨h1, h2⟩ | ⟨h1, h2⟩
  · have H2 := Lib.hid h2
    clear h2
    have h1' : (a.tdiv b * b != a) = false := by rw [hmul]; simpa using h1
    clear h1 hmul
    go_enter Try.func38, Try.ntmps38
    go_wp2_with (go_at_call 51; refine (R01_In _ _).mono ?_; rintro e w' ⟨rfl, rfl⟩)
    all_goals (go_ret2; exact ⟨ret_ib H2.out rfl, Below.refl _ _⟩)
  · have H2 := Lib.hid h2
    clear h2
    have h1' : (a.tdiv b * b != a) = true := by rw [hmul]; simp; omega
    have h1'' : decide (a < 0) = false := by
      simp only [decide_eq_false_iff_not]
      intro h
      have := @Int.tmod_eq_emod a b
      have := Int.emod_lt_of_pos a (show 0 < b by omega)
      have := Int.emod_nonneg a (show b ≠ 0 by omega)
      split at * <;> omega
    clear h1 hmul
    go_enter Try.func38, Try.ntmps38
    go_wp2_with (go_at_call 51; refine (R01_In _ _).mono ?_; rintro e w' ⟨rfl, rfl⟩)
    all_goals (go_ret2; exact ⟨ret_ib H2.out rfl, Below.refl _ _⟩)
  · have H2 := Lib.hid h2
    clear h2
    have h1' : (a.tdiv b * b != a) = true := by rw [hmul]; simp; omega
    have h1'' : decide (a < 0) = true := by
      rcases Int.lt_or_le a 0 with h | h
      · simpa using h
      · have := Int.tmod_nonneg b h; omega
    clear h1 hmul
    go_enter Try.func38, Try.ntmps38
    go_wp2_with (go_at_call 51; refine (R01_In _ _).mono ?_; rintro e w' ⟨rfl, rfl⟩)
    all_goals (go_ret2; exact ⟨ret_ib H2.out rfl, Below.refl _ _⟩)
end Go.Proofs.Ytkghgdkkholieaa
