/-
  Numbers as lists of digits to the base 10000: plain arithmetic.
-/
import Derived.Test.YtokncdoejnchfaaDoorEvMore
namespace Go.Proofs.YtokncdoejnchfaaDoor

def val : List Int → Int
  | [] => 0
  | d :: r => d + 10000 * val r
def digN : Nat → Nat → List Int
  | 0, _ => []
  | f + 1, n => if n = 0 then [] else ((n % 10000 : Nat) : Int) :: digN f (n / 10000)
/-- the digits of a number, the least one first -/
def dig (n : Nat) : List Int := digN n n
def okD (l : List Int) : Prop := ∀ d ∈ l, 0 ≤ d ∧ d < 10000
theorem digN_fuel : ∀ {f g n : Nat}, n ≤ f → n ≤ g → digN f n = digN g n
  | 0, 0, _, _, _ => rfl
  | 0, g + 1, n, h, _ => by have : n = 0 := by omega
                            subst this; simp [digN]
  | f + 1, 0, n, _, h => by have : n = 0 := by omega
                            subst this; simp [digN]
  | f + 1, g + 1, n, h1, h2 => by
    simp only [digN]
    by_cases h : n = 0
    · simp [h]
    · rw [if_neg h, if_neg h, digN_fuel (f := f) (g := g) (n := n / 10000) (by omega) (by omega)]
theorem dig_zero : dig 0 = [] := rfl
theorem dig_step {n : Nat} (h : n ≠ 0) : dig n = ((n % 10000 : Nat) : Int) :: dig (n / 10000) := by
  unfold dig
  cases n with
  | zero => exact absurd rfl h
  | succ n =>
    rw [digN, if_neg h]
    congr 1
    exact digN_fuel (by omega) (Nat.le_refl _)
theorem val_dig (n : Nat) : val (dig n) = n := by
  induction n using Nat.strongRecOn with
  | _ n ih =>
    by_cases h : n = 0
    · subst h; rfl
    · rw [dig_step h, val, ih (n / 10000) (by omega)]; omega
theorem okD_dig (n : Nat) : okD (dig n) := by
  induction n using Nat.strongRecOn with
  | _ n ih =>
    by_cases h : n = 0
    · subst h; intro d hd; simp [dig_zero] at hd
    · rw [dig_step h]
      intro d hd
      rcases List.mem_cons.1 hd with rfl | hd
      · omega
      · exact ih (n / 10000) (by omega) d hd
theorem dig_one {d : Int} (h0 : 0 < d) (h1 : d < 10000) : dig d.toNat = [d] := by
  rw [dig_step (by omega)]
  have e1 : d.toNat % 10000 = d.toNat := Nat.mod_eq_of_lt (by omega)
  have e2 : d.toNat / 10000 = 0 := by omega
  rw [e1, e2, dig_zero]
  congr 1; omega
theorem val_nonneg : ∀ {l : List Int}, okD l → 0 ≤ val l
  | [], _ => by simp [val]
  | d :: r, h => by
    have h1 := h d (by simp)
    have h2 := val_nonneg (l := r) fun x hx => h x (by simp [hx])
    simp only [val]; omega
/-- without zeros at the end -/
def trimL : List Int → List Int
  | [] => []
  | d :: r => if trimL r = [] ∧ d = 0 then [] else d :: trimL r
theorem dig_nil {n : Nat} : dig n = [] ↔ n = 0 := by
  constructor
  · intro h
    by_cases h0 : n = 0
    · exact h0
    · rw [dig_step h0] at h; simp at h
  · rintro rfl; rfl
theorem trim_dig : ∀ {l : List Int}, okD l → trimL l = dig (val l).toNat
  | [], _ => rfl
  | d :: r, h => by
    have h1 := h d (by simp)
    have hr : okD r := fun x hx => h x (by simp [hx])
    have h2 := val_nonneg hr
    rw [trimL, trim_dig hr]
    simp only [val]
    by_cases hv : val r = 0
    · by_cases hd : d = 0
      · rw [if_pos ⟨by rw [hv]; rfl, hd⟩, hv, hd]; rfl
      · rw [if_neg (fun h => hd h.2), hv]
        have e : (d + 10000 * 0).toNat = d.toNat := by omega
        rw [e, dig_one (by omega) h1.2]; rfl
    · have hn : ¬ (val r).toNat = 0 := by omega
      rw [if_neg (fun h => hn (dig_nil.1 h.1)), dig_step (n := (d + 10000 * val r).toNat) (by omega)]
      have e1 : (d + 10000 * val r).toNat / 10000 = (val r).toNat := by omega
      have e2 : (((d + 10000 * val r).toNat % 10000 : Nat) : Int) = d := by omega
      rw [e1, e2]
theorem dig_len {n k : Nat} : (dig n).length ≤ k ↔ n < 10000 ^ k := by
  induction k generalizing n with
  | zero =>
    rw [Nat.pow_zero]
    constructor
    · intro h
      have : dig n = [] := List.eq_nil_of_length_eq_zero (by omega)
      have := dig_nil.1 this; omega
    · intro h
      have : n = 0 := by omega
      subst this; simp [dig_zero]
  | succ k ih =>
    by_cases h : n = 0
    · subst h; simp [dig_zero, Nat.pow_pos]
    · rw [dig_step h, List.length_cons, Nat.add_le_add_iff_right, ih, Nat.pow_succ, Nat.div_lt_iff_lt_mul (by omega)]
theorem dig_inj {a b : Nat} (h : dig a = dig b) : a = b := by
  have h1 := val_dig a
  have h2 := val_dig b
  rw [h] at h1; omega
theorem val_append (l r : List Int) : val (l ++ r) = val l + 10000 ^ l.length * val r := by
  induction l with
  | nil => simp [val]
  | cons d l ih => simp only [List.cons_append, val, ih, List.length_cons, Int.pow_succ]; rw [Int.mul_add, Int.mul_comm (10000 ^ l.length) 10000, Int.mul_assoc]; omega
theorem val_replicate (n : Nat) : val (List.replicate n 0) = 0 := by
  induction n with
  | zero => rfl
  | succ n ih => rw [List.replicate_succ, val, ih]; rfl
theorem val_set {l : List Int} {i : Nat} {x v : Int} (h : nth l i = some x) : val (l.set i v) = val l + (v - x) * 10000 ^ i := by
  induction l generalizing i with
  | nil => simp [nth] at h
  | cons d l ih =>
    cases i with
    | zero => simp only [nth, Option.some.injEq] at h; subst h; simp only [List.set_cons_zero, val, Int.pow_zero]; omega
    | succ i =>
      simp only [nth] at h
      simp only [List.set_cons_succ, val, ih h, Int.pow_succ]
      rw [Int.mul_add, Int.mul_comm (10000 ^ i) 10000, ← Int.mul_assoc, ← Int.mul_assoc, Int.mul_comm 10000 (v - x)]; omega
theorem okD_trim {l : List Int} (h : okD l) : okD (trimL l) := by rw [trim_dig h]; exact okD_dig _
theorem trim_len (l : List Int) : (trimL l).length ≤ l.length := by
  induction l with
  | nil => simp [trimL]
  | cons d l ih => rw [trimL]; split <;> simp; exact ih
/-- the loop that cuts zeros off -/
theorem trim_take : ∀ (n : Nat) (l : List Int), n ≤ l.length → (∀ j, n ≤ j → ∀ x, nth l j = some x → x = 0) → trimL l = trimL (l.take n)
  | 0, [], _, _ => rfl
  | 0, d :: l, _, h => by
    have hd := h 0 (Nat.le_refl _) d rfl
    have := trim_take 0 l (Nat.zero_le _) fun j _ x hx => h (j + 1) (Nat.zero_le _) x hx
    rw [trimL, this, hd]; simp [trimL]
  | n + 1, [], h, _ => by simp at h
  | n + 1, d :: l, hn, h => by
    have := trim_take n l (by simpa using hn) fun j hj x hx => h (j + 1) (by omega) x hx
    rw [List.take_succ_cons, trimL, trimL, this]
theorem trim_end : ∀ (l : List Int) (n : Nat) (x : Int), nth l n = some x → l.length = n + 1 → x ≠ 0 → trimL l = l
  | [], _, _, h, _, _ => by simp [nth] at h
  | d :: l, 0, x, h, hl, hx => by
    have : l = [] := List.eq_nil_of_length_eq_zero (by simpa using hl)
    subst this
    simp only [nth, Option.some.injEq] at h; subst h
    simp [trimL, hx]
  | d :: l, n + 1, x, h, hl, hx => by
    have ih := trim_end l n x h (by simpa using hl) hx
    have hne : l ≠ [] := by rintro rfl; simp [nth] at h
    rw [trimL, ih, if_neg (fun h => hne h.1)]

/- which numbers are valid, and what they stand for -/
def lastZ (l : List Int) : Bool := match nth l (l.length - 1) with | some x => x == 0 | none => false
def allD : List Int → Bool
  | [] => true
  | d :: r => if (decide (d < 0) || decide (d ≥ 10000)) = true then false else allD r
theorem allD_ok {l : List Int} : allD l = true ↔ okD l := by
  induction l with
  | nil => simp [allD, okD]
  | cons d l ih =>
    rw [allD]
    by_cases h : d < 0 ∨ d ≥ 10000
    · have : (decide (d < 0) || decide (d ≥ 10000)) = true := by simpa using h
      simp only [this, if_true, Bool.false_eq_true, false_iff]
      intro hk
      have := hk d (by simp); omega
    · have : (decide (d < 0) || decide (d ≥ 10000)) = false := by simp; omega
      simp only [this, Bool.false_eq_true, if_false, ih]
      constructor
      · intro hk x hx
        rcases List.mem_cons.1 hx with rfl | hx
        · omega
        · exact hk x hx
      · exact fun hk x hx => hk x (by simp [hx])
def validF (neg : Bool) (l : List Int) : Bool := if (decide (200 < l.length) || (decide (l = []) && neg) || lastZ l) = true then false else allD l
def V (neg : Bool) (l : List Int) : Int := if validF neg l = true then (if neg = true then -(val l) else val l) else 0
theorem valid_dig {neg : Bool} {l : List Int} (h : validF neg l = true) : l = dig (val l).toNat ∧ okD l ∧ l.length ≤ 200 := by
  unfold validF at h
  split at h
  · simp at h
  · rename_i hh
    have hk := allD_ok.1 h
    simp only [Bool.or_eq_true, decide_eq_true_eq, not_or] at hh
    refine ⟨?_, hk, by omega⟩
    rw [← trim_dig hk]
    by_cases hl : l = []
    · subst hl; rfl
    · have hpos : 0 < l.length := List.length_pos_iff.2 hl
      obtain ⟨x, hx⟩ := nth_some (l := l) (i := l.length - 1) (by omega)
      have hz := hh.2
      unfold lastZ at hz
      rw [hx] at hz
      exact (trim_end l (l.length - 1) x hx (by omega) (by simpa using hz)).symm
theorem V_abs (neg : Bool) (l : List Int) : dig (V neg l).natAbs = if validF neg l = true then l else [] := by
  unfold V
  by_cases h : validF neg l = true
  · obtain ⟨h1, h2, -⟩ := valid_dig h
    have h3 := val_nonneg h2
    rw [if_pos h, if_pos h]
    conv => rhs; rw [h1]
    congr 1
    split <;> omega
  · rw [if_neg h, if_neg h]; rfl
theorem V_len (neg : Bool) (l : List Int) : (dig (V neg l).natAbs).length ≤ 200 := by
  rw [V_abs]
  split
  · rename_i h; exact (valid_dig h).2.2
  · simp
/-- a number as its sign and digits -/
theorem valid_of (z : Int) (h : (dig z.natAbs).length ≤ 200) : validF (decide (z < 0)) (dig z.natAbs) = true := by
  unfold validF
  have hk := okD_dig z.natAbs
  rw [if_neg]
  · exact allD_ok.2 hk
  · simp only [Bool.or_eq_true, decide_eq_true_eq, Bool.and_eq_true, not_or]
    refine ⟨⟨by omega, fun h => ?_⟩, fun hz => ?_⟩
    · have := dig_nil.1 h.1; omega
    · unfold lastZ at hz
      split at hz
      · rename_i x hx
        have hx0 : x = 0 := by simpa using hz
        subst hx0
        -- a last digit 0 would be trimmed
        have ht := trim_dig hk
        rw [val_dig] at ht
        have e : ((z.natAbs : Int)).toNat = z.natAbs := by omega
        rw [e] at ht
        have hl := nth_lt hx
        have h1 := trim_take ((dig z.natAbs).length - 1) (dig z.natAbs) (by omega) (fun j hj y hy => by
          have : j = (dig z.natAbs).length - 1 := by have := nth_lt hy; omega
          subst this
          rw [hx] at hy; simpa using hy.symm)
        have h2 := trim_len ((dig z.natAbs).take ((dig z.natAbs).length - 1))
        rw [← h1, ht] at h2
        simp at h2; omega
      · simp at hz
theorem V_of (z : Int) (h : (dig z.natAbs).length ≤ 200) : V (decide (z < 0)) (dig z.natAbs) = z := by
  unfold V
  rw [if_pos (valid_of z h), val_dig]
  by_cases hz : z < 0 <;> simp [hz] <;> omega
end Go.Proofs.YtokncdoejnchfaaDoor
