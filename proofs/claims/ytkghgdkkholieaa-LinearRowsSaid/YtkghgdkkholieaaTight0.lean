/-
  Walks: divisors, verdicts; what a right form is.
-/
import Derived.Test.YtkghgdkkholieaaDiv
namespace Go.Proofs.Ytkghgdkkholieaa
open Go.RowKit

/-- the greatest common divisor of a number and the coefficients -/
def gcdC (g : Nat) (cs : List (ByteArray × Int)) : Nat := cs.foldl (fun g c => Int.gcd g c.2) g
theorem gcdC_take (g : Nat) (cs : List (ByteArray × Int)) (n : Nat) (h : n < cs.length) : gcdC g (cs.take (n + 1)) = Int.gcd (gcdC g (cs.take n)) cs[n].2 := by
  rw [List.take_succ_eq_append_getElem h]; unfold gcdC; rw [List.foldl_append]; rfl
theorem gcd_bd {g : Nat} {m : Int} (hg : g ≤ 1000000000000) (h0 : -1000000000000 ≤ m) (h1 : m ≤ 1000000000000) : Int.gcd g m ≤ 1000000000000 := by
  by_cases hm : m = 0
  · subst hm; simp; exact hg
  · have : Int.gcd g m ≤ m.natAbs := Nat.le_of_dvd (by omega) (Int.gcd_dvd_natAbs_right g m)
    omega
theorem gcdC_bd {g : Nat} {cs : List (ByteArray × Int)} (hg : g ≤ 1000000000000) (hb : ∀ c ∈ cs, -1000000000000 ≤ c.2 ∧ c.2 ≤ 1000000000000) : gcdC g cs ≤ 1000000000000 := by
  induction cs generalizing g with
  | nil => exact hg
  | cons c cs ih =>
    have := hb c (by simp)
    exact ih (gcd_bd hg this.1 this.2) fun c hc => hb c (by simp [hc])
theorem gcdC_pos {g : Nat} {cs : List (ByteArray × Int)} (h : g ≠ 0 ∨ cs ≠ []) (hz : ∀ c ∈ cs, c.2 ≠ 0) : gcdC g cs ≠ 0 := by
  induction cs generalizing g with
  | nil => simp at h; exact h
  | cons c cs ih =>
    refine ih (.inl ?_) fun c hc => hz c (by simp [hc])
    have := hz c (by simp)
    intro hh
    have := Int.gcd_eq_zero_iff.1 hh
    omega

theorem div_bound {a b : Int} (h0 : -1000000000000 ≤ a) (h1 : a ≤ 1000000000000) (hb : 1 ≤ b) : -1000000000000 ≤ a / b ∧ a / b ≤ 1000000000000 := by
  constructor
  · rw [Int.le_ediv_iff_mul_le (by omega)]
    omega
  · have : a / b < 1000000000001 := by
      rw [Int.ediv_lt_iff_lt_mul (by omega)]
      omega
    omega

/-- what a form that is right satisfies -/
structure Right (cs : List (ByteArray × Int)) (k : Int) : Prop where
  len : cs.length ≤ 24
  const : -1000000000000 ≤ k ∧ k ≤ 1000000000000
  nums : ∀ c ∈ cs, -1000000000000 ≤ c.2 ∧ c.2 ≤ 1000000000000
  nz : ∀ c ∈ cs, c.2 ≠ 0
  names : ∀ c ∈ cs, badName c.1 = false
  sorted : ∀ i p c, cs[i]? = some p → cs[i + 1]? = some c → notGt c.1 p.1 = false
theorem firstErr_zero {cs : List (ByteArray × Int)} (h : firstErr cs = 0) : ∀ i, i < cs.length → errAt cs i = 0 := by
  intro i hi
  unfold firstErr at h
  cases hf : (List.range cs.length).findSome? fun i => if errAt cs i = 0 then none else some (errAt cs i) with
  | none =>
    have := List.findSome?_eq_none_iff.1 hf i (by simpa using hi)
    by_cases e : errAt cs i = 0
    · exact e
    · rw [if_neg e] at this; simp at this
  | some e =>
    rw [hf] at h
    obtain ⟨j, _, hj⟩ := List.exists_of_findSome?_eq_some hf
    split at hj
    · simp at hj
    · rename_i hne; simp at hj h; omega
theorem checkS_zero {cs : List (ByteArray × Int)} {k : Int} (h : checkS cs k = 0) : Right cs k := by
  unfold checkS at h
  split at h
  · simp at h
  · rename_i hl
    split at h
    · rename_i hf
      split at h
      · rename_i hk
        have hz := firstErr_zero hf
        have key : ∀ c ∈ cs, badName c.1 = false ∧ badNum c.2 = false := by
          intro c hc
          obtain ⟨i, hi⟩ := List.getElem?_of_mem hc
          have hlt := (List.getElem?_eq_some_iff.1 hi).1
          have he := hz i hlt
          cases h1 : badName c.1 with
          | true => rw [errAt_bad1 (s := c.1) (m := c.2) (by rw [hi]) h1] at he; simp at he
          | false =>
            cases h2 : badNum c.2 with
            | true => rw [errAt_bad2 (s := c.1) (m := c.2) (by rw [hi]) h1 h2] at he; simp at he
            | false => exact ⟨rfl, rfl⟩
        refine ⟨by omega, inB_true.1 hk, fun c hc => inB_true.1 (badNum_false (key c hc).2).2, fun c hc => by simpa using (badNum_false (key c hc).2).1, fun c hc => (key c hc).1, ?_⟩
        intro i p c hp hc
        have hlt := (List.getElem?_eq_some_iff.1 hc).1
        have he := hz (i + 1) hlt
        have hk2 := key c (List.mem_of_getElem? hc)
        rw [errAt_prev (s := c.1) (m := c.2) (s' := p.1) (m' := p.2) (by rw [hc]) hk2.1 hk2.2 (by omega) (by rw [Nat.add_sub_cancel, hp])] at he
        cases hn : notGt c.1 p.1 with
        | false => rfl
        | true => rw [hn] at he; simp at he
      · simp at h
    · rename_i hf; exact absurd h hf

set_option maxHeartbeats 1000000 in
theorem linear_divisor {L : List Nat} (w : World) (a : Option Addr) (len cap : Nat) (k : Int) (g : Nat) (cs : List (ByteArray × Int)) (hc : IsCoefs L w a len cap cs) (hm : len ≤ 1000000)
    (hg : g ≤ 1000000000000) (hb : ∀ c ∈ cs, -1000000000000 ≤ c.2 ∧ c.2 ≤ 1000000000000) :
    Calls Try.prog 29 #[.agg #[.slice a len cap, .int .i64 k], .int .i64 (g : Int)] w fun e w' => e = .returned (.int .i64 (gcdC g cs)) ∧ Ext w w' := by
  have HC := Lib.hid hc
  have HB := Lib.hid hb
  clear hc hb
  go_enter Try.func29, Try.ntmps29
  go_wp2
  go_loopw [1, 10] (fun t i wr => ∃ n x : Nat, i = .int .i64 n ∧ n ≤ len ∧ t = .int .i64 (x : Int) ∧ x ≤ 1000000000000 ∧ Hid (x = gcdC g (cs.take n)) ∧ Ext w wr) (fun _ i _ => len - (intOf i).toNat)
  case atStart => exact ⟨0, g, rfl, by omega, rfl, hg, Lib.hid rfl, Ext.alloc _ _⟩
  case round =>
    obtain ⟨n, x, rfl, hn, rfl, hx, HX, hbe⟩ := hrel
    have HE := Lib.hid hbe
    clear hbe
    by_cases hlt : n < len
    · have hcl : n < cs.length := by rw [HC.out.size]; exact hlt
      obtain ⟨b, off, ha, ⟨hb, -⟩, hs, hi⟩ := HC.out.cells n hcl
      subst ha
      rw [← HE.out.cell' (by simpa using hb)] at hs hi
      have hq := HB.out cs[n] (List.getElem_mem hcl)
      have HT := Lib.hid (gcdC_take g cs n hcl)
      generalize hcn : cs[n]'hcl = y at hs hi hq HT
      obtain ⟨s, m⟩ := y
      clear hcn
      obtain ⟨hq1, hq2⟩ := hq
      have hg1 := gcd_bd (m := m) hx hq1 hq2
      go_wp2_with (go_at_call 30; refine (num_Gcd _ _ _ (by omega) (by omega) (by omega) (by omega)).mono ?_; rintro e w1 ⟨rfl, he⟩)
      have HE1 := Lib.hid (Ext.trans (Ext.trans HE.out (Ext.alloc _ _)) he)
      clear he
      go_wp2
      go_roundw
      case rel => exact ⟨n + 1, Int.gcd x m, by go_num, by omega, rfl, hg1, Lib.hid (by rw [HT.out, HX.out]), HE1.out⟩
      case measure => simp [intOf]; omega
    · go_wp2
      go_ret
      exact ⟨ret_int (by rw [HX.out, List.take_of_length_le (by rw [HC.out.size]; omega)]), HE.out⟩

theorem linear_divisor0 {L : List Nat} (w : World) (a : Option Addr) (len cap : Nat) (k : Int) (cs : List (ByteArray × Int)) (hc : IsCoefs L w a len cap cs) (hm : len ≤ 1000000)
    (hb : ∀ c ∈ cs, -1000000000000 ≤ c.2 ∧ c.2 ≤ 1000000000000) :
    Calls Try.prog 29 #[.agg #[.slice a len cap, .int .i64 k], .int .i64 0] w fun e w' => e = .returned (.int .i64 (gcdC 0 cs)) ∧ Ext w w' := linear_divisor w a len cap k 0 cs hc hm (by omega) hb

set_option maxHeartbeats 1000000 in
theorem R11_common {L : List Nat} (w : World) (a : Option Addr) (len cap : Nat) (k : Int) (cs : List (ByteArray × Int)) (hc : IsCoefs L w a len cap cs) (hm : len ≤ 1000000)
    (hb : ∀ c ∈ cs, -1000000000000 ≤ c.2 ∧ c.2 ≤ 1000000000000) :
    Calls Try.prog 33 #[.agg #[.slice a len cap, .int .i64 k]] w fun e w' => e = .returned (.int .i64 (gcdC 0 cs)) ∧ Ext w w' := by
  have HC := Lib.hid hc
  have HB := Lib.hid hb
  clear hc hb
  go_enter Try.func33, Try.ntmps33
  go_wp2
  go_loop [3, 4] (fun t i => ∃ n x : Nat, i = .int .i64 n ∧ n ≤ len ∧ t = .int .i64 (x : Int) ∧ x ≤ 1000000000000 ∧ Hid (x = gcdC 0 (cs.take n))) (fun _ i => len - (intOf i).toNat)
  case atStart => exact ⟨0, 0, rfl, by omega, rfl, by omega, Lib.hid rfl⟩
  case round =>
    obtain ⟨n, x, rfl, hn, rfl, hx, HX⟩ := hrel
    by_cases hlt : n < len
    · have hcl : n < cs.length := by rw [HC.out.size]; exact hlt
      obtain ⟨b, off, ha, ⟨hb, -⟩, hs, hi⟩ := HC.out.cells n hcl
      subst ha
      have hq := HB.out cs[n] (List.getElem_mem hcl)
      have HT := Lib.hid (gcdC_take 0 cs n hcl)
      generalize hcn : cs[n]'hcl = y at hs hi hq HT
      obtain ⟨s, m⟩ := y
      clear hcn
      obtain ⟨hq1, hq2⟩ := hq
      have hg1 := gcd_bd (m := m) hx hq1 hq2
      go_wp2_with (go_at_call 32; refine (R01_Gcd _ _ _ (by omega) (by omega) (by omega) (by omega)).mono ?_; rintro e w' ⟨rfl, rfl⟩)
      go_round
      case rel => exact ⟨n + 1, Int.gcd x m, by go_num, by omega, rfl, hg1, Lib.hid (by rw [HT.out, HX.out])⟩
      case measure => simp [intOf]; omega
    · go_wp2
      go_ret
      exact ⟨ret_int (by rw [HX.out, List.take_of_length_le (by rw [HC.out.size]; omega)]), Ext.alloc _ _⟩

def verdictS (h : Bool) : Int := if h then 0 else 1
set_option maxHeartbeats 1000000 in
theorem linear_verdict (w : World) (h : Bool) :
    Calls Try.prog 36 #[.bool h] w fun e w' => e = .returned (.agg #[.slice none 0 0, .int .i64 (verdictS h), .bool false]) ∧ Ext w w' := by
  cases h
  all_goals
    go_enter Try.func36, Try.ntmps36
    go_wp2
    refine bodyPost_ret (v := _) (by simp [results, Try.results36, go_sem]; rfl) rfl ?_
    exact ⟨rfl, Ext.alloc _ _⟩
end Go.Proofs.Ytkghgdkkholieaa
