/-
  Quotients of digits: one digit of a quotient, by a guess from the top digits that is put right.
-/
import Derived.Test.YtokncdoejnchfaaDoorB12
namespace Go.Proofs.YtokncdoejnchfaaDoor
open Go

/-- the digits of a number, and zeros behind them -/
def padD (v m : Nat) : List Int := padL (dig v) m
theorem padD_len {v m : Nat} (h : (dig v).length ≤ m) : (padD v m).length = m := padL_len h
theorem padD_val (v m : Nat) : val (padD v m) = v := by rw [padD, padL_val, val_dig]
theorem okD_padD (v m : Nat) : okD (padD v m) := fun d hd => by
  rcases List.mem_append.1 hd with hd | hd
  · exact okD_dig v d hd
  · have := (List.mem_replicate.1 hd).2; omega
theorem eq_of_val : ∀ {l r : List Int}, okD l → okD r → l.length = r.length → val l = val r → l = r
  | [], [], _, _, _, _ => rfl
  | d :: l, e :: r, h1, h2, hl, hv => by
    have g1 := h1 d (by simp)
    have g2 := h2 e (by simp)
    simp only [val] at hv
    have hde : d = e := by omega
    have ih := eq_of_val (l := l) (r := r) (fun x hx => h1 x (by simp [hx])) (fun x hx => h2 x (by simp [hx])) (by simpa using hl) (by omega)
    rw [hde, ih]
  | [], _ :: _, _, _, hl, _ => by simp at hl
  | _ :: _, [], _, _, hl, _ => by simp at hl
theorem pow_cast (n : Nat) : ((10000 ^ n : Nat) : Int) = (10000 : Int) ^ n := Int.natCast_pow ..
theorem lt_pow {a n : Nat} (h : (a : Int) < 10000 ^ n) : a < 10000 ^ n := by rw [← pow_cast] at h; omega
theorem pow_lt {a n : Nat} (h : a < 10000 ^ n) : (a : Int) < 10000 ^ n := by rw [← pow_cast]; omega
theorem eq_padD {l : List Int} {v : Nat} (h : okD l) (hv : val l = v) : l = padD v l.length := by
  have hl : (dig v).length ≤ l.length := by
    refine dig_len.2 ?_
    have := val_lt h
    rw [hv] at this
    exact lt_pow this
  exact eq_of_val h (okD_padD _ _) (padD_len hl).symm (by rw [hv, padD_val])
theorem okD_take {l : List Int} (h : okD l) (i : Nat) : okD (l.take i) := fun d hd => h d (List.mem_of_mem_take hd)
theorem okD_drop {l : List Int} (h : okD l) (i : Nat) : okD (l.drop i) := fun d hd => h d (List.mem_of_mem_drop hd)
theorem val_split {l : List Int} {i : Nat} (h : i ≤ l.length) : val l = val (l.take i) + 10000 ^ i * val (l.drop i) := by
  have e := val_append (l.take i) (l.drop i)
  rw [List.take_append_drop] at e
  rw [e]
  have : (l.take i).length = i := by simp; omega
  rw [this]
theorem val_take_lt {l : List Int} {i : Nat} (h : okD (l.take i)) (hi : i ≤ l.length) : 0 ≤ val (l.take i) ∧ val (l.take i) < 10000 ^ i := by
  have h1 := val_lt h
  have : (l.take i).length = i := by simp; omega
  rw [this] at h1
  exact ⟨val_nonneg h, h1⟩
/-- what stands behind the first digits -/
theorem val_drop_div {l : List Int} (h : okD l) {i : Nat} (hi : i ≤ l.length) : val (l.drop i) = val l / 10000 ^ i := by
  obtain ⟨h1, h2⟩ := val_take_lt (okD_take h i) hi
  have h3 := val_split hi
  have hp := pow_pos4 i
  generalize (10000 : Int) ^ i = P at *
  have := (div_of (A := val l) (B := P) (Q := val (l.drop i)) (R := val (l.take i)) (by rw [h3, Int.mul_comm P]; omega) h1 h2).1
  exact this.symm
theorem padD_at {v m j : Nat} (h : (dig v).length ≤ m) (hj : j < m) : nth (padD v m) j = some ((v / 10000 ^ j % 10000 : Nat) : Int) := by
  obtain ⟨x, hx⟩ := nth_some (show j < (padD v m).length by rw [padD_len h]; exact hj)
  have hk := okD_padD v m
  have h1 := val_drop_div hk (i := j) (by rw [padD_len h]; omega)
  rw [nth_drop hx, val, padD_val] at h1
  have hxk := of_okD hk hx
  rw [hx]; congr 1
  have e : ((v / 10000 ^ j : Nat) : Int) = (v : Int) / 10000 ^ j := by simp
  omega
theorem dig_at {v j : Nat} (hj : j < (dig v).length) : nth (dig v) j = some ((v / 10000 ^ j % 10000 : Nat) : Int) := by
  have := padD_at (v := v) (m := (dig v).length) (Nat.le_refl _) hj
  have e : padD v (dig v).length = dig v := by simp [padD, padL]
  rwa [e] at this
theorem div_pow (v i j : Nat) : v / 10000 ^ (i + j) = v / 10000 ^ i / 10000 ^ j := by rw [Nat.pow_add, Nat.div_div_eq_div_mul]
/-- the guess is not too small -/
theorem guess_le {R B W : Nat} (hw : 0 < W) (hb : 0 < B / W) : R / B ≤ (R / W) / (B / W) := by
  rw [Nat.le_div_iff_mul_le hb, Nat.le_div_iff_mul_le hw, Nat.mul_assoc]
  exact Nat.le_trans (Nat.mul_le_mul_left _ (Nat.div_mul_le_self B W)) (Nat.div_mul_le_self R B)
theorem three_digits {T : Nat} (h : T < 1000000000000) : ((T / 100000000 % 10000 * 10000 + T / 10000 % 10000) * 10000 + T % 10000) = T := by omega
theorem two_digits {T : Nat} (h : T < 100000000) : (T / 10000 % 10000 * 10000 + T % 10000) = T := by omega

/-- while q times the divisor is taken off: c is still to be taken off the next digit; E is what it will be -/
structure Off (B m i k : Nat) (q c E : Int) (o : List Int) : Prop where
  len : o.length = m
  ok : okD o
  c0 : 0 ≤ c ∧ c ≤ 9999
  high : ∀ j x, i + (dig B).length < j → nth o j = some x → x = 0
  eqv : val o - 10000 ^ (i + k) * (c + q * val ((dig B).drop k)) = E
theorem Off.step {B m i k : Nat} {q c E x d y : Int} {o : List Int} (h : Off B m i k q c E o) (hq : 0 ≤ q ∧ q ≤ 9999) (hx : nth o (i + k) = some x) (hd : nth (dig B) k = some d) (hy : y = x - q * d - c) :
    -99990000 ≤ y ∧ y ≤ 9999 ∧ (y < 0 → (0 - y + 10000 - 1).tdiv 10000 ≤ 9999 ∧ 0 ≤ (0 - y + 10000 - 1).tdiv 10000 ∧ 0 ≤ y + (0 - y + 10000 - 1).tdiv 10000 * 10000 ∧ y + (0 - y + 10000 - 1).tdiv 10000 * 10000 ≤ 9999 ∧ Off B m i (k + 1) q ((0 - y + 10000 - 1).tdiv 10000) E (o.set (i + k) (y + (0 - y + 10000 - 1).tdiv 10000 * 10000)))
      ∧ (¬ y < 0 → Off B m i (k + 1) q 0 E (o.set (i + k) y)) := by
  have hdk := of_okD (okD_dig B) hd
  have hxk := of_okD h.ok hx
  have hk := nth_lt hd
  have hc := h.c0
  have p0 : 0 ≤ q * d := Int.mul_nonneg hq.1 hdk.1
  have p1 : q * d ≤ 9999 * 9999 := Int.mul_le_mul hq.2 (by omega) hdk.1 (by omega)
  have hv := h.eqv
  rw [nth_drop hd, val, Int.mul_add q, Int.mul_left_comm] at hv
  have main : ∀ c' z : Int, 0 ≤ c' → c' ≤ 9999 → 0 ≤ z → z < 10000 → z = y + c' * 10000 → Off B m i (k + 1) q c' E (o.set (i + k) z) := fun c' z a1 a2 a3 a4 a5 => by
    refine ⟨by rw [List.length_set]; exact h.len, okD_set h.ok a3 a4, ⟨a1, a2⟩, fun j u hj hu => ?_, ?_⟩
    · rcases set_same hu with ⟨e, -⟩ | ⟨-, hu⟩
      · omega
      · exact h.high j u hj hu
    · rw [val_set hx, ← hv, ← Nat.add_assoc, Int.pow_succ, Int.mul_comm (z - x)]
      generalize (10000 : Int) ^ (i + k) = P at *
      generalize val ((dig B).drop (k + 1)) = D at *
      have e1 : P * 10000 * (c' + q * D) = P * (10000 * (c' + q * D)) := Int.mul_assoc ..
      have e2 : P * (z - x) = P * (10000 * (c' + q * D)) - P * (c + (q * d + 10000 * (q * D))) := by
        rw [← Int.mul_sub]; congr 1
        generalize q * D = u at *
        generalize q * d = t at *
        omega
      omega
  refine ⟨by omega, by omega, fun hn => ?_, fun hn => main 0 y (by omega) (by omega) (by omega) (by omega) (by omega)⟩
  have e : (0 - y + 10000 - 1).tdiv 10000 = (0 - y + 10000 - 1) / 10000 := Int.tdiv_eq_ediv_of_nonneg (by omega)
  rw [e]
  exact ⟨by omega, by omega, by omega, by omega, main _ _ (by omega) (by omega) (by omega) (by omega) rfl⟩
/-- between the rounds: all digits are in order but the top one, which may be negative -/
structure Mid (v B m i : Nat) (q : Int) (o : List Int) : Prop where
  len : o.length = m
  ok : ∀ j x, j ≠ i + (dig B).length → nth o j = some x → 0 ≤ x ∧ x < 10000
  top : ∀ x, nth o (i + (dig B).length) = some x → -10000 ≤ x ∧ x ≤ 9999
  high : ∀ j x, i + (dig B).length < j → nth o j = some x → x = 0
  q0 : ((v / 10000 ^ i / B : Nat) : Int) ≤ q ∧ q ≤ 9999
  eqv : val o = v - 10000 ^ i * (q * B)
theorem Off.start {v B m i : Nat} {q : Int} (hv : (dig v).length ≤ m) (hR : v / 10000 ^ i < 10000 * B) : Off B m i 0 q 0 (v - 10000 ^ i * (q * B)) (padD v m) := by
  refine ⟨padD_len hv, okD_padD v m, by omega, fun j x hj hx => ?_, ?_⟩
  · have hjm := nth_lt hx
    rw [padD_len hv] at hjm
    rw [padD_at hv hjm] at hx
    simp only [Option.some.injEq] at hx
    subst hx
    have hB := (dig_len (n := B) (k := (dig B).length)).1 (Nat.le_refl _)
    have e : v / 10000 ^ j = 0 := by
      have e1 : j = i + ((dig B).length + 1) + (j - (i + (dig B).length + 1)) := by omega
      rw [e1, div_pow, div_pow]
      have : v / 10000 ^ i / 10000 ^ ((dig B).length + 1) = 0 := Nat.div_eq_of_lt (by rw [Nat.pow_succ]; omega)
      rw [this, Nat.zero_div]
    rw [e]; rfl
  · rw [padD_val, List.drop_zero, val_dig, Nat.add_zero]; simp
theorem Off.done {v B m i : Nat} {q c x : Int} {o : List Int} (h : Off B m i (dig B).length q c (v - 10000 ^ i * (q * B)) o) (hx : nth o (i + (dig B).length) = some x) (hq : ((v / 10000 ^ i / B : Nat) : Int) ≤ q ∧ q ≤ 9999) : Mid v B m i q (o.set (i + (dig B).length) (x - c)) := by
  have hxk := of_okD h.ok hx
  have hc := h.c0
  refine ⟨by rw [List.length_set]; exact h.len, fun j u hj hu => ?_, fun u hu => ?_, fun j u hj hu => ?_, hq, ?_⟩
  · rcases set_same hu with ⟨e, -⟩ | ⟨-, hu⟩
    · omega
    · exact of_okD h.ok hu
  · rcases set_same hu with ⟨-, e⟩ | ⟨e, -⟩
    · omega
    · exact absurd rfl e
  · rcases set_same hu with ⟨e, -⟩ | ⟨-, hu⟩
    · omega
    · exact h.high j u hj hu
  · have hv := h.eqv
    rw [List.drop_length] at hv
    rw [val_set hx, ← hv]
    simp only [val, Int.mul_zero, Int.add_zero]
    have e : x - c - x = -c := by omega
    rw [e, Int.neg_mul, Int.mul_comm c]; omega
theorem Mid.val_eq {v B m i : Nat} {q x : Int} {o : List Int} (h : Mid v B m i q o) (hx : nth o (i + (dig B).length) = some x) : ∃ P, val o = P + 10000 ^ (i + (dig B).length) * x ∧ 0 ≤ P ∧ P < 10000 ^ (i + (dig B).length) := by
  have hl := nth_lt hx
  have hk : okD (o.take (i + (dig B).length)) := okD_of fun j y hy => by
    have hj := nth_lt hy
    have hj' : j < i + (dig B).length := by simp at hj; omega
    rw [nth_get, List.getElem?_take_of_lt hj', ← nth_get] at hy
    exact h.ok j y (by omega) hy
  obtain ⟨h1, h2⟩ := val_take_lt hk (by omega)
  refine ⟨_, ?_, h1, h2⟩
  rw [val_split (l := o) (i := i + (dig B).length) (by omega), nth_drop hx, val]
  have hz : ∀ l : List Int, (∀ d ∈ l, d = 0) → val l = 0 := fun l hl => by
    induction l with
    | nil => rfl
    | cons d l ih => rw [val, ih fun d hd => hl d (by simp [hd]), hl d (by simp)]; rfl
  rw [hz (o.drop (i + (dig B).length + 1)) fun d hd => by
    obtain ⟨j, hj⟩ := List.mem_iff_getElem?.1 hd
    rw [List.getElem?_drop] at hj
    exact h.high (i + (dig B).length + 1 + j) d (by omega) (by rw [nth_get]; exact hj)]
  simp
theorem v_split (v i : Nat) : ∃ L : Nat, (v : Int) = 10000 ^ i * ((v / 10000 ^ i : Nat) : Int) + L ∧ L < 10000 ^ i := by
  refine ⟨v % 10000 ^ i, ?_, Nat.mod_lt _ (Nat.pow_pos (by decide))⟩
  have h := Nat.div_add_mod v (10000 ^ i)
  have : ((10000 ^ i * (v / 10000 ^ i) + v % 10000 ^ i : Nat) : Int) = v := by rw [h]
  rw [← this]; simp
theorem Mid.neg {v B m i : Nat} {q x : Int} {o : List Int} (h : Mid v B m i q o) (hB : 0 < B) (hx : nth o (i + (dig B).length) = some x) (hn : x < 0) : ((v / 10000 ^ i / B : Nat) : Int) ≤ q - 1 := by
  obtain ⟨P, hP, h0, h1⟩ := h.val_eq hx
  obtain ⟨L, hL, hL1⟩ := v_split v i
  have hv := h.eqv
  have hp := pow_pos4 i
  have hpp := pow_pos4 (i + (dig B).length)
  have hneg : val o < 0 := by
    have : (10000 : Int) ^ (i + (dig B).length) * x ≤ 10000 ^ (i + (dig B).length) * (-1) := Int.mul_le_mul_of_nonneg_left (by omega) (by omega)
    omega
  have hlt : 10000 ^ i * (((v / 10000 ^ i : Nat) : Int) - q * B) < 0 := by rw [Int.mul_sub]; omega
  have hlt2 : ((v / 10000 ^ i : Nat) : Int) - q * B < 0 := by
    rcases Int.lt_or_le (((v / 10000 ^ i : Nat) : Int) - q * B) 0 with h | h
    · exact h
    · have := Int.mul_nonneg (Int.le_of_lt hp) h; omega
  have : ((v / 10000 ^ i / B : Nat) : Int) < q := by
    have e : ((v / 10000 ^ i / B : Nat) : Int) = ((v / 10000 ^ i : Nat) : Int) / (B : Int) := by simp
    rw [e]; exact Int.ediv_lt_of_lt_mul (by omega) (by omega)
  omega
theorem Mid.done {v B m i : Nat} {q x : Int} {o : List Int} (h : Mid v B m i q o) (hB : 0 < B) (hx : nth o (i + (dig B).length) = some x) (hn : ¬ x < 0) : q = ((v / 10000 ^ i / B : Nat) : Int) ∧ o = padD (v - 10000 ^ i * (v / 10000 ^ i / B * B)) m := by
  obtain ⟨P, hP, h0, h1⟩ := h.val_eq hx
  obtain ⟨L, hL, hL1⟩ := v_split v i
  have hv := h.eqv
  have hp := pow_pos4 i
  have hpp := pow_pos4 (i + (dig B).length)
  have hpos : 0 ≤ val o := by
    have : 0 ≤ (10000 : Int) ^ (i + (dig B).length) * x := Int.mul_nonneg (by omega) (by omega)
    omega
  have hL1' : (L : Int) < 10000 ^ i := pow_lt hL1
  have hgt : -(10000 ^ i) < 10000 ^ i * (((v / 10000 ^ i : Nat) : Int) - q * B) := by rw [Int.mul_sub]; omega
  have hge : 0 ≤ ((v / 10000 ^ i : Nat) : Int) - q * B := by
    rcases Int.lt_or_le (((v / 10000 ^ i : Nat) : Int) - q * B) 0 with h | h
    · have : (10000 : Int) ^ i * (((v / 10000 ^ i : Nat) : Int) - q * B) ≤ 10000 ^ i * (-1) := Int.mul_le_mul_of_nonneg_left (by omega) (by omega)
      omega
    · exact h
  have hqe : q = ((v / 10000 ^ i / B : Nat) : Int) := by
    have e : ((v / 10000 ^ i / B : Nat) : Int) = ((v / 10000 ^ i : Nat) : Int) / (B : Int) := by simp
    have h1 := h.q0.1
    have h2 : q ≤ ((v / 10000 ^ i : Nat) : Int) / (B : Int) := by rw [Int.le_ediv_iff_mul_le (by omega)]; omega
    omega
  refine ⟨hqe, ?_⟩
  have hk : okD o := okD_of fun j y hy => by
    by_cases e : j = i + (dig B).length
    · subst e; rw [hx] at hy; simp only [Option.some.injEq] at hy; have := h.top x hx; omega
    · exact h.ok j y e hy
  have hle : 10000 ^ i * (v / 10000 ^ i / B * B) ≤ v := by
    refine Nat.le_trans (Nat.mul_le_mul_left _ (Nat.div_mul_le_self _ _)) (Nat.mul_div_le _ _)
  have hval : val o = ((v - 10000 ^ i * (v / 10000 ^ i / B * B) : Nat) : Int) := by
    rw [hv, hqe, Int.ofNat_sub hle]; simp
  have := eq_padD hk hval
  rw [h.len] at this
  exact this
/-- while the divisor is put back once: c is still to be added to the next digit -/
structure Back (v B m i k : Nat) (q c : Int) (o : List Int) : Prop where
  len : o.length = m
  ok : ∀ j x, j ≠ i + (dig B).length → nth o j = some x → 0 ≤ x ∧ x < 10000
  top : ∀ x, nth o (i + (dig B).length) = some x → -10000 ≤ x ∧ x < 0
  high : ∀ j x, i + (dig B).length < j → nth o j = some x → x = 0
  c0 : 0 ≤ c ∧ c ≤ 1
  q0 : ((v / 10000 ^ i / B : Nat) : Int) ≤ q ∧ q ≤ 9999
  eqv : val o + 10000 ^ (i + k) * (c + val ((dig B).drop k)) = v - 10000 ^ i * (q * B)
theorem Mid.back {v B m i : Nat} {q x : Int} {o : List Int} (h : Mid v B m i q o) (hB : 0 < B) (hx : nth o (i + (dig B).length) = some x) (hn : x < 0) : Back v B m i 0 (q - 1) 0 o := by
  have h1 := h.neg hB hx hn
  refine ⟨h.len, h.ok, fun y hy => ?_, h.high, by omega, ⟨h1, by have := h.q0; omega⟩, ?_⟩
  · have := h.top y hy; rw [hx] at hy; simp only [Option.some.injEq] at hy; omega
  · rw [h.eqv, List.drop_zero, val_dig, Nat.add_zero, Int.sub_mul, Int.one_mul, Int.mul_sub, Int.zero_add]; omega
theorem Back.step {v B m i k : Nat} {q c x d y : Int} {o : List Int} (h : Back v B m i k q c o) (hx : nth o (i + k) = some x) (hd : nth (dig B) k = some d) (hy : y = x + d + c) :
    Back v B m i (k + 1) q (y.tdiv 10000) (o.set (i + k) (y.tmod 10000)) ∧ 0 ≤ y ∧ y ≤ 19999 ∧ 0 ≤ x ∧ x < 10000 := by
  have hdk := of_okD (okD_dig B) hd
  have hk := nth_lt hd
  have hxk := h.ok _ x (by omega) hx
  have hc := h.c0
  have e1 : y.tdiv 10000 = y / 10000 := Int.tdiv_eq_ediv_of_nonneg (by omega)
  have e2 : y.tmod 10000 = y % 10000 := Int.tmod_eq_emod_of_nonneg (by omega)
  refine ⟨⟨by rw [List.length_set]; exact h.len, fun j u hj hu => ?_, fun u hu => ?_, fun j u hj hu => ?_, by omega, h.q0, ?_⟩, by omega, by omega, hxk.1, hxk.2⟩
  · rcases set_same hu with ⟨-, e⟩ | ⟨-, hu⟩
    · omega
    · exact h.ok j u hj hu
  · rcases set_same hu with ⟨e, -⟩ | ⟨-, hu⟩
    · omega
    · exact h.top u hu
  · rcases set_same hu with ⟨e, -⟩ | ⟨-, hu⟩
    · omega
    · exact h.high j u hj hu
  · have hv := h.eqv
    rw [nth_drop hd, val] at hv
    rw [val_set hx, ← hv, ← Nat.add_assoc, Int.pow_succ, Int.mul_comm (y.tmod 10000 - x)]
    generalize (10000 : Int) ^ (i + k) = P at *
    generalize val ((dig B).drop (k + 1)) = D at *
    rw [Int.mul_assoc, Int.add_assoc, ← Int.mul_add]
    congr 2
    omega
theorem Back.done {v B m i : Nat} {q c x : Int} {o : List Int} (h : Back v B m i (dig B).length q c o) (hx : nth o (i + (dig B).length) = some x) : Mid v B m i q (o.set (i + (dig B).length) (x + c)) := by
  have hxk := h.top x hx
  have hc := h.c0
  refine ⟨by rw [List.length_set]; exact h.len, fun j u hj hu => ?_, fun u hu => ?_, fun j u hj hu => ?_, h.q0, ?_⟩
  · rcases set_same hu with ⟨e, -⟩ | ⟨-, hu⟩
    · omega
    · exact h.ok j u hj hu
  · rcases set_same hu with ⟨-, e⟩ | ⟨e, -⟩
    · omega
    · exact absurd rfl e
  · rcases set_same hu with ⟨e, -⟩ | ⟨-, hu⟩
    · omega
    · exact h.high j u hj hu
  · have hv := h.eqv
    rw [List.drop_length] at hv
    rw [val_set hx, ← hv]
    simp only [val, Int.add_zero]
    have e : x + c - x = c := by omega
    rw [e, Int.mul_comm c]
end Go.Proofs.YtokncdoejnchfaaDoor
