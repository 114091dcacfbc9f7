/-
  Walks: comparing forms, the sizes of forms, divisors and quotients.
-/
import Derived.Test.YtkghgdkkholieaaCheck
namespace Go.Proofs.Ytkghgdkkholieaa
open Go.RowKit

set_option maxHeartbeats 1000000 in
theorem L11_small {L : List Nat} (w : World) (a : Option Addr) (len cap : Nat) (k : Int) (cs : List (ByteArray × Int)) (hc : IsCoefs L w a len cap cs) (hm : len ≤ 9223372036854775807) :
    Calls Try.prog 8 #[.agg #[.slice a len cap, .int .i64 k]] w fun e w' => e = .returned (.bool (smallS cs)) ∧ Below w.heap.size w w' := by
  have HC := Lib.hid hc
  have HL := Lib.hid hc.size
  clear hc
  go_enter Try.func8, Try.ntmps8
  go_wp2
  go_loop [3] (fun i => ∃ n : Nat, i = .int .i64 n ∧ n ≤ len ∧ n ≤ 40 ∧ Hid (∀ j, j < n → ∀ c, cs[j]? = some c → ¬ 500 < c.1.size)) (fun i => len - (intOf i).toNat)
  case atStart => exact ⟨0, rfl, by omega, by omega, Lib.hid (fun j hj => by omega)⟩
  case round =>
    obtain ⟨n, rfl, hn, hn4, HJ⟩ := hrel
    by_cases hlt : n < len
    · have hcl : n < cs.length := by rw [HC.out.size]; exact hlt
      obtain ⟨b, off, ha, ⟨hb, -⟩, hs, -⟩ := HC.out.cells n hcl
      subst ha
      generalize hcn : cs[n]'hcl = c at hs
      obtain ⟨s, m⟩ := c
      have HN : Hid (cs[n]? = some (s, m)) := Lib.hid (by rw [List.getElem?_eq_getElem hcl, hcn])
      clear hcn
      by_cases h4 : n = 40
      · have h4' : (40 : Int) ≤ n := by omega
        go_wp2
        all_goals
          go_ret
          exact ⟨ret_bool (smallS_long HL.out (by omega)), (Below.refl _ _).alloc (Nat.le_refl _) _⟩
      have h4' : ¬ (40 : Int) ≤ n := by omega
      by_cases h5 : 500 < s.size
      · have h5' : decide (500 < (s.size : Int)) = true := by simpa using by omega
        go_wp2
        all_goals
          go_ret
          exact ⟨ret_bool (smallS_name HN.out h5), (Below.refl _ _).alloc (Nat.le_refl _) _⟩
      · have h5' : decide (500 < (s.size : Int)) = false := by simpa using by omega
        go_wp2
        go_round
        case rel => exact ⟨n + 1, by go_num, by omega, by omega, Lib.hid (upto_succ HJ.out (fun c hc => by rw [HN.out] at hc; cases hc; exact h5))⟩
        case measure => simp [intOf]; omega
    · go_wp2
      go_ret
      exact ⟨ret_bool (smallS_true HL.out (by omega) (by omega) HJ.out), (Below.refl _ _).alloc (Nat.le_refl _) _⟩

theorem below_two (w : World) (o o' : Obj) (q : Nat) : Below w.heap.size w (((w.alloc o).alloc o').drewN q) := bl_drewN (((Below.refl _ _).alloc (Nat.le_refl _) _).alloc (by simp) _) q
theorem str_inj {a b : ByteArray} (h : a.toList = b.toList) : a = b := by
  rw [ByteArray.toList_eq, ByteArray.toList_eq] at h
  have : a.data = b.data := Array.toList_inj.1 h
  cases a; cases b; simp_all
theorem run_neq_coef (s s' : ByteArray) (m m' : Int) (w : World) : (binOp .neq 37 (.agg #[.string s, .int .i64 m]) (.agg #[.string s', .int .i64 m'])).run Try.prog w = .ok (.bool (!decide ((s, m) = (s', m')))) w := by
  by_cases h : s.toList = s'.toList
  · obtain rfl := str_inj h
    cases h2 : m == m'
    · have h3 : ¬ m = m' := by simpa using h2
      go_simp
    · obtain rfl := eq_of_beq h2
      go_simp
  · have h3 : ¬ s = s' := fun e => h (by rw [e])
    go_simp
theorem run_eql_coef (s s' : ByteArray) (m m' : Int) (w : World) : (binOp .eql 37 (.agg #[.string s, .int .i64 m]) (.agg #[.string s', .int .i64 m'])).run Try.prog w = .ok (.bool (decide ((s, m) = (s', m')))) w := by
  by_cases h : s.toList = s'.toList
  · obtain rfl := str_inj h
    cases h2 : m == m'
    · have h3 : ¬ m = m' := by simpa using h2
      go_simp
    · obtain rfl := eq_of_beq h2
      go_simp
  · have h3 : ¬ s = s' := fun e => h (by rw [e])
    go_simp

set_option maxHeartbeats 1000000 in
theorem R11_Same {L L' : List Nat} (w : World) (a1 a2 : Option Addr) (l1 l2 c1 c2 : Nat) (k1 k2 : Int) (x y : List (ByteArray × Int)) (h1 : IsCoefs L w a1 l1 c1 x) (h2 : IsCoefs L' w a2 l2 c2 y) (hm1 : l1 ≤ 9223372036854775807) (hm2 : l2 ≤ 9223372036854775807) :
    Calls Try.prog 15 #[.agg #[.slice a1 l1 c1, .int .i64 k1], .agg #[.slice a2 l2 c2, .int .i64 k2]] w fun e w' => e = .returned (.bool (sameS x k1 y k2)) ∧ Below w.heap.size w w' := by
  have HX := Lib.hid h1
  have HY := Lib.hid h2
  have HL := Lib.hid h1.size
  have HM := Lib.hid h2.size
  clear h1 h2
  by_cases e1 : l1 = l2
  case neg =>
    have e1' : (!((l1 : Int) == (l2 : Int))) = true := by simpa using by omega
    go_enter Try.func15, Try.ntmps15
    go_wp2
    all_goals
      go_ret
      exact ⟨ret_bool (sameS_len (by rw [HL.out, HM.out]; exact e1)), ((Below.refl _ _).alloc (Nat.le_refl _) _).alloc (by simp) _⟩
  by_cases e2 : k1 = k2
  case neg =>
    subst e1
    have e2' : (k1 == k2) = false := by simpa using e2
    clear e2
    go_enter Try.func15, Try.ntmps15
    go_wp2
    all_goals
      go_ret
      exact ⟨ret_bool (sameS_const (by simpa using e2')), ((Below.refl _ _).alloc (Nat.le_refl _) _).alloc (by simp) _⟩
  subst e1 e2
  go_enter Try.func15, Try.ntmps15
  go_wp2
  go_loopw [5] (fun i wr => ∃ n q : Nat, i = .int .i64 n ∧ n ≤ l1 ∧ Hid (∀ j, j < n → x[j]? = y[j]?) ∧ wr = ((w.alloc (Obj.cells #[Value.slice a1 l1 c1, Value.int IntKind.i64 k1] 24)).alloc (Obj.cells #[Value.slice a2 l1 c2, Value.int IntKind.i64 k1] 24)).drewN q) (fun i _ => l1 - (intOf i).toNat)
  case atStart => exact ⟨0, 0, rfl, by omega, Lib.hid (fun j hj => by omega), rfl⟩
  case round =>
    obtain ⟨n, q, rfl, hn, HJ, rfl⟩ := hrel
    by_cases hlt : n < l1
    · have hcx : n < x.length := by rw [HL.out]; exact hlt
      have hcy : n < y.length := by rw [HM.out]; exact hlt
      obtain ⟨b, off, ha, ⟨hb, -⟩, hs, hi⟩ := HX.out.cells n hcx
      obtain ⟨b', off', ha', ⟨hb', -⟩, hs', hi'⟩ := HY.out.cells n hcy
      subst ha ha'
      generalize hcn : x[n]'hcx = c at hs hi
      obtain ⟨s, m⟩ := c
      generalize hcn' : y[n]'hcy = c' at hs' hi'
      obtain ⟨s', m'⟩ := c'
      have HN : Hid (x[n]? = some (s, m)) := Lib.hid (by rw [List.getElem?_eq_getElem hcx, hcn])
      have HN' : Hid (y[n]? = some (s', m')) := Lib.hid (by rw [List.getElem?_eq_getElem hcy, hcn'])
      clear hcn hcn'
      have i2 : (n : Int) < l1 := by omega
      have hne := run_neq_coef s s' m m'
      cases e3 : decide ((s, m) = (s', m'))
      all_goals
        rw [e3] at hne
        go_wp2
        go_quiet (fail)
        go_wp2
      · go_ret
        exact ⟨ret_bool (sameS_at HN.out HN'.out (of_decide_eq_false e3)), bl_drewN (below_two _ _ _ _) _⟩
      · go_roundw
        case rel => exact ⟨n + 1, _, by go_num, by omega, Lib.hid (upto_succ HJ.out (by rw [HN.out, HN'.out, of_decide_eq_true e3])), rfl⟩
        case measure => simp [intOf]; omega
    · go_wp2
      go_ret
      exact ⟨ret_bool (sameS_true HL.out HM.out (by omega) HJ.out), below_two _ _ _ _⟩
end Go.Proofs.Ytkghgdkkholieaa
