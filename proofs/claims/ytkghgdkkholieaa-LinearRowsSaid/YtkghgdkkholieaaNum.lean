/-
  The walks of package num and of its reference: what each function returns.
-/
import Derived.Test.YtkghgdkkholieaaRows
import Derived.Test.YtkghgdkkholieaaPlain
import Derived.WalkKit
import Derived.WalkSpells
import Derived.WalkLawsBesides
import Derived.Lib.Hide
import Derived.OwnWalk
import Derived.Laws.AppendOwnNone
import Derived.ArgAppend
namespace Go.Proofs.Ytkghgdkkholieaa
open Go.RowKit

theorem ret_bool {a b : Bool} (h : a = b) : Ending.returned (.bool a) = .returned (.bool b) := by rw [h]
theorem ret_int {k : IntKind} {a b : Int} (h : a = b) : Ending.returned (.int k a) = .returned (.int k b) := by rw [h]
theorem ret_ib {k : IntKind} {a b : Int} {p q : Bool} (h : a = b) (h' : p = q) : Ending.returned (.tuple #[.int k a, .bool p]) = .returned (.tuple #[.int k b, .bool q]) := by rw [h, h']

set_option maxHeartbeats 400000 in
theorem num_In (n : Int) (w : World) : Calls Try.prog 48 #[.int .i64 n] w fun e w' => e = .returned (.bool (inB n)) ∧ w = w' := by
  go_enter Try.func48, Try.ntmps48
  go_wp2
  all_goals (go_ret; refine ⟨ret_bool ?_, rfl⟩; simp [inB]; try omega)

set_option maxHeartbeats 400000 in
theorem R01_In (n : Int) (w : World) : Calls Try.prog 51 #[.int .i64 n] w fun e w' => e = .returned (.bool (inB n)) ∧ w = w' := by
  go_enter Try.func51, Try.ntmps51
  go_wp2
  all_goals (go_ret; refine ⟨ret_bool ?_, rfl⟩; simp [inB]; try omega)

set_option maxHeartbeats 400000 in
theorem num_checked (n : Int) (ok : Bool) (w : World) :
    Calls Try.prog 63 #[.int .i64 n, .bool ok] w fun e w' => e = .returned (.tuple #[.int .i64 (chk ok n).1, .bool (chk ok n).2]) ∧ w = w' := by
  cases ok <;> cases h : inB n <;> go_enter Try.func63, Try.ntmps63 <;> go_wp2_with (go_at_call 48; refine (num_In _ _).mono ?_; rintro e w' ⟨rfl, rfl⟩)
  all_goals (go_ret2; refine ⟨ret_ib ?_ ?_, rfl⟩ <;> simp [chk, h])

set_option maxHeartbeats 400000 in
theorem R01_result (n : Int) (ok : Bool) (w : World) :
    Calls Try.prog 64 #[.int .i64 n, .bool ok] w fun e w' => e = .returned (.tuple #[.int .i64 (chk ok n).1, .bool (chk ok n).2]) ∧ w = w' := by
  cases ok <;> cases h : inB n <;> go_enter Try.func64, Try.ntmps64 <;> go_wp2_with (go_at_call 51; refine (R01_In _ _).mono ?_; rintro e w' ⟨rfl, rfl⟩)
  all_goals (go_ret2; refine ⟨ret_ib ?_ ?_, rfl⟩ <;> simp [chk, h])

set_option maxHeartbeats 400000 in
theorem num_Add (a b : Int) (w : World) :
    Calls Try.prog 42 #[.int .i64 a, .int .i64 b] w fun e w' => e = .returned (.tuple #[.int .i64 (addS a b).1, .bool (addS a b).2]) ∧ w = w' := by
  cases ha : inB a <;> cases hb : inB b
  case true.true =>
    have := inB_true.1 ha
    have := inB_true.1 hb
    go_enter Try.func42, Try.ntmps42
    go_wp2_with (first | (go_at_call 48; refine (num_In _ _).mono ?_; rintro e w' ⟨rfl, rfl⟩) | (go_at_call 63; refine (num_checked _ _ _).mono ?_; rintro e w' ⟨rfl, rfl⟩))
    go_ret2
    refine ⟨ret_ib ?_ ?_, rfl⟩ <;> simp [addS, ha, hb]
  all_goals
    go_enter Try.func42, Try.ntmps42
    go_wp2_with (first | (go_at_call 48; refine (num_In _ _).mono ?_; rintro e w' ⟨rfl, rfl⟩) | (go_at_call 63; refine (num_checked _ _ _).mono ?_; rintro e w' ⟨rfl, rfl⟩))
    go_ret2
    refine ⟨ret_ib ?_ ?_, rfl⟩ <;> simp [addS, chk, ha, hb]

set_option maxHeartbeats 400000 in
theorem R01_Add (a b : Int) (w : World) :
    Calls Try.prog 45 #[.int .i64 a, .int .i64 b] w fun e w' => e = .returned (.tuple #[.int .i64 (addS a b).1, .bool (addS a b).2]) ∧ w = w' := by
  cases ha : inB a <;> cases hb : inB b
  case true.true =>
    have := inB_true.1 ha
    have := inB_true.1 hb
    go_enter Try.func45, Try.ntmps45
    go_wp2_with (first | (go_at_call 51; refine (R01_In _ _).mono ?_; rintro e w' ⟨rfl, rfl⟩) | (go_at_call 64; refine (R01_result _ _ _).mono ?_; rintro e w' ⟨rfl, rfl⟩))
    go_ret2
    refine ⟨ret_ib ?_ ?_, rfl⟩ <;> simp [addS, ha, hb]
  all_goals
    go_enter Try.func45, Try.ntmps45
    go_wp2_with (first | (go_at_call 51; refine (R01_In _ _).mono ?_; rintro e w' ⟨rfl, rfl⟩) | (go_at_call 64; refine (R01_result _ _ _).mono ?_; rintro e w' ⟨rfl, rfl⟩))
    go_ret2
    refine ⟨ret_ib ?_ ?_, rfl⟩ <;> simp [addS, chk, ha, hb]

set_option maxHeartbeats 400000 in
theorem num_abs (n : Int) (w : World) (h0 : -1000000000000 ≤ n) (h1 : n ≤ 1000000000000) :
    Calls Try.prog 59 #[.int .i64 n] w fun e w' => e = .returned (.int .i64 n.natAbs) ∧ w = w' := by
  by_cases h : 0 ≤ n
  · go_enter Try.func59, Try.ntmps59
    go_wp2
    go_ret
    exact ⟨ret_int (by omega), rfl⟩
  · go_enter Try.func59, Try.ntmps59
    go_wp2
    all_goals (go_ret; exact ⟨ret_int (by omega), rfl⟩)

set_option maxHeartbeats 400000 in
theorem R01_size (n : Int) (w : World) (h0 : -1000000000000 ≤ n) (h1 : n ≤ 1000000000000) :
    Calls Try.prog 61 #[.int .i64 n] w fun e w' => e = .returned (.int .i64 n.natAbs) ∧ w = w' := by
  by_cases h : 0 ≤ n
  · go_enter Try.func61, Try.ntmps61
    go_wp2
    go_ret
    exact ⟨ret_int (by omega), rfl⟩
  · go_enter Try.func61, Try.ntmps61
    go_wp2
    all_goals (go_ret; exact ⟨ret_int (by omega), rfl⟩)

set_option maxHeartbeats 400000 in
theorem num_Mul (a b : Int) (w : World) :
    Calls Try.prog 41 #[.int .i64 a, .int .i64 b] w fun e w' => e = .returned (.tuple #[.int .i64 (mulS a b).1, .bool (mulS a b).2]) ∧ w = w' := by
  cases ha : inB a
  case' true => cases hb : inB b
  case false =>
    go_enter Try.func41, Try.ntmps41
    go_wp2_with (go_at_call 48; refine (num_In _ _).mono ?_; rintro e w' ⟨rfl, rfl⟩)
    go_ret2
    refine ⟨ret_ib ?_ ?_, rfl⟩ <;> simp [mulS, chk, ha]
  case true.false =>
    go_enter Try.func41, Try.ntmps41
    go_wp2_with (go_at_call 48; refine (num_In _ _).mono ?_; rintro e w' ⟨rfl, rfl⟩)
    go_ret2
    refine ⟨ret_ib ?_ ?_, rfl⟩ <;> simp [mulS, chk, ha, hb]
  case true.true =>
    have h1 := inB_true.1 ha
    have h2 := inB_true.1 hb
    obtain ⟨h1, h1'⟩ := h1
    obtain ⟨h2, h2'⟩ := h2
    by_cases a0 : a = 0
    · subst a0
      go_enter Try.func41, Try.ntmps41
      go_wp2_with (go_at_call 48; refine (num_In _ _).mono ?_; rintro e w' ⟨rfl, rfl⟩)
      go_ret2
      refine ⟨ret_ib ?_ ?_, rfl⟩ <;> simp [mulS, chk, ha, hb]
    by_cases b0 : b = 0
    · subst b0
      go_enter Try.func41, Try.ntmps41
      go_wp2_with (go_at_call 48; refine (num_In _ _).mono ?_; rintro e w' ⟨rfl, rfl⟩)
      go_ret2
      refine ⟨ret_ib ?_ ?_, rfl⟩ <;> simp [mulS, chk, ha, hb]
    have e1 : (a == 0) = false := by simpa using a0
    have e2 : (b == 0) = false := by simpa using b0
    have HM : mulS a b = chk true (a * b) := by simp [mulS, ha, hb]
    have key := mul_test a b a0
    have p1 : 1 ≤ (a.natAbs : Int) := by omega
    clear a0 b0
    rcases key with ⟨k1, k2, k3, k4⟩ | ⟨k1, k2⟩
    · have HM := Lib.hid HM
      have K4 := Lib.hid k4
      clear k4
      go_enter Try.func41, Try.ntmps41
      go_wp2_with (first | (go_at_call 48; refine (num_In _ _).mono ?_; rintro e w' ⟨rfl, rfl⟩) | (go_at_call 59; refine (num_abs _ _ (by assumption) (by assumption)).mono ?_; rintro e w' ⟨rfl, rfl⟩) | (go_at_call 63; refine (num_checked _ _ _).mono ?_; rintro e w' ⟨rfl, rfl⟩))
      go_ret2
      exact ⟨ret_ib (by rw [HM.out]) (by rw [HM.out]), rfl⟩
    · have HM := Lib.hid HM
      have K2 := Lib.hid k2
      clear k2
      go_enter Try.func41, Try.ntmps41
      go_wp2_with (first | (go_at_call 48; refine (num_In _ _).mono ?_; rintro e w' ⟨rfl, rfl⟩) | (go_at_call 59; refine (num_abs _ _ (by assumption) (by assumption)).mono ?_; rintro e w' ⟨rfl, rfl⟩) | (go_at_call 63; refine (num_checked _ _ _).mono ?_; rintro e w' ⟨rfl, rfl⟩))
      go_ret2
      exact ⟨ret_ib (by rw [HM.out]; simp [chk, K2.out]) (by rw [HM.out]; simp [chk, K2.out]), rfl⟩

end Go.Proofs.Ytkghgdkkholieaa
