/-
  Texts laid together: T4.
-/
import Derived.Test.YtgadegdhfjnoaaaDoorZR19
/-
  The laws RatField, RatOrders and RatWhole, walked.
-/

namespace Go.Proofs.YtgadegdhfjnoaaaDoor
open Go
theorem cross_left {x y m : Int} (hm : m ≠ 0) (h : x * m = y * m) : x = y := Int.eq_of_mul_eq_mul_right hm h
theorem sub_back {a1 a2 b1 b2 s1 s2 : Int} (hb : b2 ≠ 0) (h : s1 * (a2 * b2) = (a1 * b2 + b1 * a2) * s2) : (s1 * b2 + -b1 * s2) * a2 = a1 * (s2 * b2) := by grind
theorem div_back {a1 a2 b1 b2 p1 p2 : Int} (hb : b2 ≠ 0) (h : p1 * (a2 * b2) = a1 * b1 * p2) : p1 * b2 * a2 = a1 * (p2 * b1) := by grind
theorem distr {a1 a2 b1 b2 c1 c2 s1 s2 y1 y2 z1 z2 : Int} (ha : a2 ≠ 0) (hb : b2 ≠ 0) (hc : c2 ≠ 0) (hs : s1 * (a2 * b2) = (a1 * b2 + b1 * a2) * s2) (hy : y1 * (a2 * c2) = a1 * c1 * y2) (hz : z1 * (b2 * c2) = b1 * c1 * z2) :
    (y1 * z2 + z1 * y2) * (s2 * c2) = s1 * c1 * (y2 * z2) := by
  refine cross_left (m := a2 * b2) (Int.mul_ne_zero ha hb) ?_
  have e1 : (y1 * z2 + z1 * y2) * (s2 * c2) * (a2 * b2) = (y1 * (a2 * c2)) * (z2 * s2 * b2) + (z1 * (b2 * c2)) * (y2 * s2 * a2) := by grind
  have e2 : s1 * c1 * (y2 * z2) * (a2 * b2) = (s1 * (a2 * b2)) * (c1 * y2 * z2) := by grind
  rw [e1, e2, hy, hz, hs]
  grind
theorem cmp_scale {u v u' v' P Q : Int} (hP : 0 < P) (hQ : 0 < Q) (h : P * (u - v) = Q * (u' - v')) : cmpZ u v = cmpZ u' v' := by
  have k : ∀ {P Q a b : Int}, 0 < P → 0 < Q → P * a = Q * b → a < 0 → b < 0 := fun {P Q a b} hP hQ h ha => by
    rcases Int.lt_or_le b 0 with hb | hb
    · exact hb
    · have h1 := Int.mul_neg_of_pos_of_neg hP ha
      have h2 := Int.mul_nonneg (Int.le_of_lt hQ) hb
      omega
  have k' : ∀ {P Q a b : Int}, 0 < P → 0 < Q → P * a = Q * b → 0 < a → 0 < b := fun {P Q a b} hP hQ h ha => by
    have := k (a := -a) (b := -b) hP hQ (by rw [Int.mul_neg, Int.mul_neg, h]) (by omega)
    omega
  rcases Int.lt_trichotomy u v with g | g | g
  · have := k hP hQ h (by omega)
    rw [cmpZ_lt g, cmpZ_lt (by omega)]
  · rw [g, Int.sub_self, Int.mul_zero] at h
    have h0 : u' - v' = 0 := by
      rcases Int.mul_eq_zero.1 h.symm with h | h
      · omega
      · exact h
    rw [cmpZ_eq g, cmpZ_eq (by omega)]
  · have := k' hP hQ h (by omega)
    rw [cmpZ_gt g, cmpZ_gt (by omega)]
theorem cmp_swap (u v : Int) : cmpZ v u = -cmpZ u v := by
  rcases Int.lt_trichotomy u v with g | g | g
  · rw [cmpZ_lt g, cmpZ_gt g]; rfl
  · rw [cmpZ_eq g, cmpZ_eq g.symm]; rfl
  · rw [cmpZ_gt g, cmpZ_lt g]
theorem cmp_range (u v : Int) : -1 ≤ cmpZ u v ∧ cmpZ u v ≤ 1 := by
  unfold cmpZ; split
  · omega
  · split <;> omega
theorem cmpZ_le0 {u v : Int} : cmpZ u v ≤ 0 ↔ u ≤ v := by
  unfold cmpZ; split
  · omega
  · split <;> omega
theorem le_trans3 {a1 a2 b1 b2 c1 c2 : Int} (ha : 0 < a2) (hb : 0 < b2) (hc : 0 < c2) (h1 : a1 * b2 ≤ b1 * a2) (h2 : b1 * c2 ≤ c1 * b2) : a1 * c2 ≤ c1 * a2 := by
  have h3 := Int.mul_le_mul_of_nonneg_right h1 (Int.le_of_lt hc)
  have h4 := Int.mul_le_mul_of_nonneg_right h2 (Int.le_of_lt ha)
  have : b2 * (a1 * c2) ≤ b2 * (c1 * a2) := by grind
  exact Int.le_of_mul_le_mul_left this hb
theorem add_mono {a1 a2 b1 b2 c1 c2 s1 s2 t1 t2 : Int} (hs : s1 * (a2 * c2) = (a1 * c2 + c1 * a2) * s2) (ht : t1 * (b2 * c2) = (b1 * c2 + c1 * b2) * t2) :
    (a2 * c2) * (b2 * c2) * (s1 * t2 - t1 * s2) = (s2 * t2 * (c2 * c2)) * (a1 * b2 - b1 * a2) := by
  have e : (a2 * c2) * (b2 * c2) * (s1 * t2 - t1 * s2) = (s1 * (a2 * c2)) * (t2 * (b2 * c2)) - (t1 * (b2 * c2)) * (s2 * (a2 * c2)) := by grind
  rw [e, hs, ht]
  grind
theorem GoodQ.len {n d : Int} (g : GoodQ n d) : (dig n.natAbs).length ≤ 1000 ∧ (dig d.natAbs).length ≤ 1000 := by
  have h1 := g.ln
  have h2 := g.ld
  omega
def rqOf (n d : Int) : RQ := ⟨decide (n < 0), dig n.natAbs, decide (d < 0), dig d.natAbs⟩
theorem GoodQ.light {n d : Int} (g : GoodQ n d) : lightR (rqOf n d) = true := by
  unfold lightR fewF rqOf
  have h1 := g.ln
  have h2 := g.ld
  simp only [List.all_cons, List.all_nil, Bool.and_true, Bool.and_eq_true, decide_eq_true_eq]
  omega
theorem nlen_pos (z : Int) : decide (((dig z.natAbs).length : Int) > 0) = !decide (z = 0) := by
  rw [dlen_pos]
  congr 1
  rw [decide_eq_decide, dig_nil]
  omega
section
variable (S : List Ent) (tk : List Nat) (k : Nat)
theorem Add_g {a b c d : Int} (g : GoodQ a b) (h : GoodQ c d) : cL Tryd.prog 29 [qA a b, qA c d] S tk k = some (resQ (a * d + c * b) (b * d), S, tk, k) := by
  have := Add_q S tk k a b c d g.len.1 g.len.2 h.len.1 h.len.2
  rwa [g.gN, g.gD, h.gN, h.gD] at this
theorem Sub_g {a b c d : Int} (g : GoodQ a b) (h : GoodQ c d) : cL Tryd.prog 31 [qA a b, qA c d] S tk k = some (resQ (a * d + -c * b) (b * d), S, tk, k) := by
  have := Sub_q S tk k a b c d g.len.1 g.len.2 h.len.1 h.len.2
  rwa [g.gN, g.gD, h.gN, h.gD] at this
theorem Mul_g {a b c d : Int} (g : GoodQ a b) (h : GoodQ c d) : cL Tryd.prog 33 [qA a b, qA c d] S tk k = some (resQ (a * c) (b * d), S, tk, k) := by
  have := Mul_q S tk k a b c d g.len.1 g.len.2 h.len.1 h.len.2
  rwa [g.gN, g.gD, h.gN, h.gD] at this
theorem Div_g {a b c d : Int} (g : GoodQ a b) (h : GoodQ c d) : cL Tryd.prog 35 [qA a b, qA c d] S tk k = some (resQ (a * d) (b * c), S, tk, k) := by
  have := Div_q S tk k a b c d g.len.1 g.len.2 h.len.1 h.len.2
  rwa [g.gN, g.gD, h.gN, h.gD] at this
theorem Cmp_g {a b c d : Int} (g : GoodQ a b) (h : GoodQ c d) : cL Tryd.prog 20 [qA a b, qA c d] S tk k = some (.int (cmpZ (a * d) (c * b)), S, tk, k) := by
  have := Cmp_q S tk k a b c d g.len.1 g.len.2 h.len.1 h.len.2
  rwa [g.gN, g.gD, h.gN, h.gD] at this
end
end Go.Proofs.YtgadegdhfjnoaaaDoor
