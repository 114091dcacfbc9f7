/-
  The plain law of LinearSolutions: rows and their tight rows, forms and their canonical forms.
-/
import Derived.Test.YtkghgdkkholieaaE6
namespace Go.Proofs.Ytkghgdkkholieaa
open Go

/-- the value of the coefficients at a point -/
def lv (pt : List (ByteArray × Int)) : List (ByteArray × Int) → Int
  | [] => 0
  | c :: r => c.2 * findS c.1 pt + lv pt r
theorem mul_bound {a b : Int} (ha : -1000 ≤ a ∧ a ≤ 1000) (hb : -128 ≤ b ∧ b ≤ 128) : -128000 ≤ a * b ∧ a * b ≤ 128000 := by
  have h1 : (a * b).natAbs ≤ 1000 * 128 := by
    rw [Int.natAbs_mul]
    exact Nat.mul_le_mul (by omega) (by omega)
  omega
theorem lv_bound {pt : List (ByteArray × Int)} (hpt : ∀ s, -128 ≤ findS s pt ∧ findS s pt ≤ 128) : ∀ (cs : List (ByteArray × Int)), (∀ c ∈ cs, -1000 ≤ c.2 ∧ c.2 ≤ 1000) → -(128000 * (cs.length : Int)) ≤ lv pt cs ∧ lv pt cs ≤ 128000 * (cs.length : Int)
  | [], _ => by simp [lv]
  | c :: r, h => by
    have h1 := mul_bound (h c (by simp)) (hpt c.1)
    have h2 := lv_bound hpt r fun d hd => h d (by simp [hd])
    simp only [lv, List.length_cons]
    omega
theorem valFrom_eq {pt : List (ByteArray × Int)} (hpt : ∀ s, -128 ≤ findS s pt ∧ findS s pt ≤ 128) (cs : List (ByteArray × Int)) : ∀ (s : Int), (∀ c ∈ cs, -1000 ≤ c.2 ∧ c.2 ≤ 1000) → -1000000000000 + 128000 * (cs.length : Int) ≤ s ∧ s ≤ 1000000000000 - 128000 * (cs.length : Int) → valFrom pt s cs = (s + lv pt cs, true) := by
  induction cs with
  | nil => intro s _ _; simp [valFrom, lv]
  | cons c r ih =>
    intro s h hs
    have hc := h c (by simp)
    have h1 := mul_bound hc (hpt c.1)
    simp only [List.length_cons] at hs
    have hm : mulS c.2 (findS c.1 pt) = (c.2 * findS c.1 pt, true) := by
      have h2 := hpt c.1
      have i1 : inB c.2 = true := inB_true.2 (by omega)
      have i2 : inB (findS c.1 pt) = true := inB_true.2 (by omega)
      have i3 : inB (c.2 * findS c.1 pt) = true := inB_true.2 (by omega)
      simp only [mulS, chk, i1, i2, i3]; rfl
    have ha : addS s (c.2 * findS c.1 pt) = (s + c.2 * findS c.1 pt, true) := by
      have i1 : inB s = true := inB_true.2 (by omega)
      have i2 : inB (c.2 * findS c.1 pt) = true := inB_true.2 (by omega)
      have i3 : inB (s + c.2 * findS c.1 pt) = true := inB_true.2 (by omega)
      simp only [addS, chk, i1, i2, i3]; rfl
    simp only [valFrom, hm, ha, if_true, lv]
    rw [ih _ (fun d hd => h d (by simp [hd])) (by omega)]
    simp only [Prod.mk.injEq, and_true]; omega
theorem lv_div {pt : List (ByteArray × Int)} {g : Int} : ∀ (cs : List (ByteArray × Int)), (∀ c ∈ cs, g ∣ c.2) → g * lv pt (cs.map (divC g)) = lv pt cs
  | [], _ => by simp [lv]
  | c :: r, h => by
    simp only [List.map_cons, lv, divC]
    rw [Int.mul_add, lv_div r fun d hd => h d (by simp [hd]), ← Int.mul_assoc, Int.mul_tdiv_cancel' (h c (by simp))]
theorem gcdS_dvd {a b : Int} (ha : inB a = true) (hb : inB b = true) : gcdS a b ∣ a ∧ gcdS a b ∣ b := by
  unfold gcdS
  rw [absS_in ha, absS_in hb]
  have h1 := Int.gcd_dvd_left (a := (a.natAbs : Int)) (b := (b.natAbs : Int))
  have h2 := Int.gcd_dvd_right (a := (a.natAbs : Int)) (b := (b.natAbs : Int))
  exact ⟨Int.dvd_natAbs.1 h1, Int.dvd_natAbs.1 h2⟩
theorem gcdL_dvd : ∀ {cs : List (ByteArray × Int)} {g : Int}, (∀ c ∈ cs, inB c.2 = true ∧ c.2 ≠ 0) → inB g = true → gcdL g cs ∣ g ∧ ∀ c ∈ cs, gcdL g cs ∣ c.2
  | [], g, _, _ => ⟨Int.dvd_refl _, by simp⟩
  | c :: r, g, h, hg => by
    have hc := h c (by simp)
    obtain ⟨h1, h2⟩ := gcdL_dvd (cs := r) (g := gcdS g c.2) (fun d hd => h d (by simp [hd])) (gcdS_in hg hc.1 hc.2)
    obtain ⟨h3, h4⟩ := gcdS_dvd hg hc.1
    refine ⟨Int.dvd_trans h1 h3, fun d hd => ?_⟩
    rcases List.mem_cons.1 hd with rfl | hd
    · exact Int.dvd_trans h1 h4
    · exact h2 d hd
/-- exact quotients are no greater -/
theorem tdiv_le {a g : Int} : (a.tdiv g).natAbs ≤ a.natAbs := by rw [Int.natAbs_tdiv]; exact Nat.div_le_self _ _
theorem chk_div {g m n' : Int} (hn' : inB n' = true) : ∀ {p : Option ByteArray} {cs : List (ByteArray × Int)}, chkFrom m p cs = 0 → (∀ c ∈ cs, g ∣ c.2) → chkFrom n' p (cs.map (divC g)) = 0
  | p, [], _, _ => by simp [chkFrom, hn']
  | p, c :: r, h, hd => by
    simp only [chkFrom] at h
    simp only [List.map_cons, chkFrom, divC]
    split at h
    · simp at h
    · rename_i h1
      rw [if_neg h1]
      split at h
      · simp at h
      · rename_i h2
        simp only [Bool.or_eq_true, beq_iff_eq, Bool.not_eq_true', not_or, Bool.not_eq_false] at h2
        have h3 : ¬ ((c.2.tdiv g == 0 || !inB (c.2.tdiv g)) = true) := by
          simp only [Bool.or_eq_true, beq_iff_eq, Bool.not_eq_true', not_or, Bool.not_eq_false]
          have e := Int.mul_tdiv_cancel' (hd c (by simp))
          refine ⟨fun h0 => h2.1 ?_, ?_⟩
          · rw [h0] at e; omega
          · have := tdiv_le (a := c.2) (g := g)
            have h4 := h2.2
            rw [inB_true] at h4 ⊢; omega
        rw [if_neg h3]
        split at h
        · simp at h
        · rename_i h5
          rw [if_neg h5]
          exact chk_div hn' h fun d hd' => hd d (by simp [hd'])
theorem checkF_div {g m n' : Int} {cs : List (ByteArray × Int)} (h : checkF cs m = 0) (hn' : inB n' = true) (hd : ∀ c ∈ cs, g ∣ c.2) : checkF (cs.map (divC g)) n' = 0 := by
  unfold checkF at h ⊢
  split at h
  · simp at h
  · rw [List.length_map, if_neg (by assumption)]; exact chk_div hn' h hd

/-- right, and all numbers near -/
structure Near (cs : List (ByteArray × Int)) (n : Int) : Prop where
  ok : checkF cs n = 0
  cf : ∀ c ∈ cs, -1000 ≤ c.2 ∧ c.2 ≤ 1000
  kn : -1000 ≤ n ∧ n ≤ 1000
variable {pt : List (ByteArray × Int)} {cs : List (ByteArray × Int)} {n : Int}
theorem Near.value (h : Near cs n) (hpt : ∀ s, -128 ≤ findS s pt ∧ findS s pt ≤ 128) : valueF cs n pt = (n + lv pt cs, true) := by
  unfold valueF
  rw [if_pos h.ok]
  have := (check_ok h.ok).2.2
  exact valFrom_eq hpt cs n h.cf (by have := h.kn; omega)
theorem Near.div (h : Near cs n) {g n' : Int} (hd : ∀ c ∈ cs, g ∣ c.2) (hn : -1000 ≤ n' ∧ n' ≤ 1000) : Near (cs.map (divC g)) n' := by
  refine ⟨checkF_div h.ok (inB_true.2 (by omega)) hd, fun c hc => ?_, hn⟩
  obtain ⟨d, hd', rfl⟩ := List.mem_map.1 hc
  have := h.cf d hd'
  have := tdiv_le (a := d.2) (g := g)
  simp only [divC]; omega
theorem near_nil {n : Int} (h : -1000 ≤ n ∧ n ≤ 1000) : Near [] n := ⟨by unfold checkF chkFrom; rw [if_neg (by simp), inB_true.2 (by omega)]; rfl, by simp, h⟩
theorem tight_near (h : Near cs n) (eq : Bool) : Near (tightF cs n eq).1 (tightF cs n eq).2.1 ∧
    (((tightF cs n eq).2.1 + lv pt (tightF cs n eq).1 ≤ 0 ∧ ((tightF cs n eq).2.2 = false ∨ (tightF cs n eq).2.1 + lv pt (tightF cs n eq).1 = 0)) ↔ (n + lv pt cs ≤ 0 ∧ (eq = false ∨ n + lv pt cs = 0))) := by
  obtain ⟨hb, hn, hlen⟩ := check_ok h.ok
  unfold tightF
  rw [if_pos h.ok]
  by_cases hc : cs = []
  · rw [if_pos hc]
    subst hc
    split
    · rename_i h1
      simp only [Bool.or_eq_true, beq_iff_eq, Bool.and_eq_true, Bool.not_eq_true', decide_eq_true_eq] at h1
      refine ⟨near_nil (by simp), ?_⟩
      simp only [lv]
      cases eq <;> simp at h1 ⊢ <;> omega
    · rename_i h1
      simp only [Bool.or_eq_true, beq_iff_eq, Bool.and_eq_true, Bool.not_eq_true', decide_eq_true_eq, not_or, not_and] at h1
      refine ⟨near_nil (by simp), ?_⟩
      simp only [lv]
      cases eq <;> simp at h1 ⊢ <;> omega
  · rw [if_neg hc]
    have hp := gcdL_pos hb (g := 0) rfl (by omega) (.inr hc)
    obtain ⟨-, hd⟩ := gcdL_dvd hb (g := 0) rfl
    have hlv := lv_div (pt := pt) cs hd
    generalize gcdL 0 cs = g at *
    generalize hL : lv pt (cs.map (divC g)) = L at *
    split
    · rename_i h1
      simp only [Bool.and_eq_true, Bool.not_eq_true', beq_eq_false_iff_ne, ne_eq] at h1
      refine ⟨near_nil (by simp), ?_⟩
      simp only [lv, h1.1]
      have : ¬ n + lv pt cs = 0 := by
        intro e
        apply h1.2
        have : g ∣ n := ⟨-L, by rw [Int.mul_neg]; omega⟩
        exact Int.tmod_eq_zero_of_dvd this
      simp; omega
    · rename_i h1
      have hdiv := Int.natAbs_ediv_le_natAbs (-n) g
      have hk := h.kn
      have e1 := Int.mul_ediv_add_emod (-n) g
      have e2 := Int.emod_nonneg (-n) (show g ≠ 0 by omega)
      have e3 := Int.emod_lt_of_pos (-n) hp
      refine ⟨h.div hd (show -1000 ≤ -(-n / g) ∧ -(-n / g) ≤ 1000 by omega), ?_⟩
      simp only [hL, ← hlv]
      generalize -n / g = q at *
      generalize -n % g = r at *
      -- n = -(g q + r), 0 <= r < g
      have key : (-q + L ≤ 0) ↔ (n + g * L ≤ 0) := by
        constructor
        · intro hh
          have : g * (L - q) ≤ 0 := Int.mul_nonpos_of_nonneg_of_nonpos (by omega) (by omega)
          rw [Int.mul_sub] at this; omega
        · intro hh
          rcases Int.lt_or_le 0 (L - q) with h5 | h5
          · have : g * 1 ≤ g * (L - q) := Int.mul_le_mul_of_nonneg_left (by omega) (by omega)
            rw [Int.mul_sub] at this; omega
          · omega
      cases eq with
      | false => simp only [true_or, and_true]; exact key
      | true =>
        simp only [Bool.true_and, Bool.not_eq_true', beq_eq_false_iff_ne, ne_eq, Decidable.not_not] at h1
        have hr : r = 0 := by
          have hdv : g ∣ -n := Int.dvd_neg.2 (Int.dvd_of_tmod_eq_zero h1)
          have e4 : g ∣ r := by
            have : r = -n - g * q := by omega
            rw [this]; exact Int.dvd_sub hdv ⟨q, rfl⟩
          obtain ⟨u, hu⟩ := e4
          rcases Int.lt_or_le 0 u with h5 | h5
          · have : g * 1 ≤ g * u := Int.mul_le_mul_of_nonneg_left (by omega) (by omega)
            omega
          · have : g * u ≤ 0 := Int.mul_nonpos_of_nonneg_of_nonpos (by omega) (by omega)
            omega
        subst hr
        have e5 : n + g * L = g * (-q + L) := by rw [Int.mul_add, Int.mul_neg]; omega
        have e6 : (n + g * L = 0) ↔ (-q + L = 0) := by
          rw [e5]
          constructor
          · intro h5; rcases Int.mul_eq_zero.1 h5 with h5 | h5
            · omega
            · exact h5
          · intro h5; rw [h5]; simp
        simp only [Bool.true_eq_false, false_or]
        rw [key, e6]
theorem dvd_gcdS {d a b : Int} (ia : inB a = true) (ib : inB b = true) (ha : d ∣ a) (hb : d ∣ b) : d ∣ gcdS a b := by
  unfold gcdS
  rw [absS_in ia, absS_in ib]
  exact Int.dvd_coe_gcd (Int.dvd_natAbs.2 ha) (Int.dvd_natAbs.2 hb)
theorem dvd_gcdL {d : Int} : ∀ {cs : List (ByteArray × Int)} {g : Int}, (∀ c ∈ cs, inB c.2 = true ∧ c.2 ≠ 0) → inB g = true → d ∣ g → (∀ c ∈ cs, d ∣ c.2) → d ∣ gcdL g cs
  | [], g, _, _, h, _ => h
  | c :: r, g, hb, hg, h, hd => by
    have hc := hb c (by simp)
    exact dvd_gcdL (cs := r) (g := gcdS g c.2) (fun d hd => hb d (by simp [hd])) (gcdS_in hg hc.1 hc.2) (dvd_gcdS hg hc.1 h (hd c (by simp))) fun c' hc' => hd c' (by simp [hc'])
theorem gcdS_zero {n : Int} (hn : inB n = true) : inB (gcdS n 0) = true ∧ 0 ≤ gcdS n 0 ∧ (∀ d, d ∣ gcdS n 0 ↔ d ∣ n) := by
  unfold gcdS
  rw [absS_in hn, inB_true]
  rw [inB_true] at hn
  refine ⟨by simp [absS]; omega, by omega, fun d => ?_⟩
  simp [absS, Int.dvd_natAbs]
/-- the canonical form of a form with coefficients, by a divisor of either sign -/
theorem form_div {c : ByteArray × Int} {r : List (ByteArray × Int)} (h : Near (c :: r) n) (k : Int) (hk : k = gcdL (gcdS n 0) (c :: r) ∨ k = -gcdL (gcdS n 0) (c :: r)) (hs : 0 < k * c.2) :
    Near ((c :: r).map (divC k)) (n.tdiv k) ∧ n + lv pt (c :: r) = k * (n.tdiv k + lv pt ((c :: r).map (divC k))) ∧ formF ((c :: r).map (divC k)) (n.tdiv k) = (((c :: r).map (divC k), n.tdiv k), 1) := by
  obtain ⟨hb, hn, hlen⟩ := check_ok h.ok
  obtain ⟨z1, z2, z3⟩ := gcdS_zero hn
  have hp := gcdL_pos hb z1 z2 (.inr (by simp))
  obtain ⟨d1, d2⟩ := gcdL_dvd hb z1
  have hgr := fun d => dvd_gcdL (d := d) hb z1
  generalize gcdL (gcdS n 0) (c :: r) = g at *
  have dk : ∀ x, g ∣ x → k ∣ x := fun x hx => by rcases hk with rfl | rfl; exact hx; exact Int.neg_dvd.2 hx
  have k1 : k ∣ n := dk _ ((z3 g).1 d1)
  have k2 : ∀ d ∈ c :: r, k ∣ d.2 := fun d hd => dk _ (d2 d hd)
  have k0 : k ≠ 0 := by rcases hk with rfl | rfl <;> omega
  have e1 := Int.mul_tdiv_cancel' k1
  have b1 := tdiv_le (a := n) (g := k)
  have hN : Near ((c :: r).map (divC k)) (n.tdiv k) := h.div k2 (by have := h.kn; omega)
  refine ⟨hN, ?_, ?_⟩
  · rw [Int.mul_add, e1, lv_div _ k2]
  · obtain ⟨hb', hn', -⟩ := check_ok hN.ok
    obtain ⟨y1, y2, y3⟩ := gcdS_zero hn'
    have hp' := gcdL_pos hb' y1 y2 (.inr (by simp))
    obtain ⟨f1, f2⟩ := gcdL_dvd hb' y1
    have hone : gcdL (gcdS (n.tdiv k) 0) ((c :: r).map (divC k)) = 1 := by
      generalize gcdL (gcdS (n.tdiv k) 0) ((c :: r).map (divC k)) = g' at *
      have g1 : k * g' ∣ n := by rw [← e1]; exact Int.mul_dvd_mul_left k ((y3 g').1 f1)
      have g2 : ∀ d ∈ c :: r, k * g' ∣ d.2 := fun d hd => by
        have := f2 (divC k d) (List.mem_map.2 ⟨d, hd, rfl⟩)
        rw [← Int.mul_tdiv_cancel' (k2 d hd)]
        exact Int.mul_dvd_mul_left k this
      have g3 := hgr (k * g') ((z3 _).2 g1) g2
      have g4 : k * g' ∣ k * 1 := by rw [Int.mul_one]; exact Int.dvd_trans g3 (by rcases hk with rfl | rfl; exact Int.dvd_refl _; exact Int.dvd_neg.2 (Int.dvd_refl _))
      have g5 : g' ∣ 1 := Int.dvd_of_mul_dvd_mul_left k0 g4
      have := Int.le_of_dvd (by omega) g5
      omega
    have hc : ¬ c.2.tdiv k < 0 := by
      intro hlt
      have e2 := Int.mul_tdiv_cancel' (k2 c (by simp))
      have h5 : 0 < k * (k * c.2.tdiv k) := by rw [e2]; exact hs
      rw [← Int.mul_assoc] at h5
      have h6 : 0 ≤ k * k := by rcases Int.le_total 0 k with h | h; exact Int.mul_nonneg h h; exact Int.mul_nonneg_of_nonpos_of_nonpos h h
      have := Int.mul_nonpos_of_nonneg_of_nonpos h6 (show c.2.tdiv k ≤ 0 by omega)
      omega
    unfold formF
    rw [if_pos hN.ok]
    simp only [List.map_cons] at hone ⊢
    rw [hone]
    have hc' : decide ((divC k c).2 < 0) = false := decide_eq_false hc
    simp only [hc', Bool.false_eq_true, if_false]
    simp [divC, Function.comp_def, Int.tdiv_one]
theorem form_near (h : Near cs n) : Near (formF cs n).1.1 (formF cs n).1.2 ∧ ((formF cs n).2 = 1 ∨ (formF cs n).2 = -1) ∧
    (n + lv pt cs > 0 ↔ ((formF cs n).1.2 + lv pt (formF cs n).1.1) * (formF cs n).2 > 0) ∧ (n + lv pt cs < 0 ↔ ((formF cs n).1.2 + lv pt (formF cs n).1.1) * (formF cs n).2 < 0) ∧ formF (formF cs n).1.1 (formF cs n).1.2 = ((formF cs n).1, 1) := by
  have hsm : ∀ k m : Int, 0 < k → ((k * m > 0 ↔ m * 1 > 0) ∧ (k * m < 0 ↔ m * 1 < 0)) := fun k m hk => by
    rw [Int.mul_one]
    refine ⟨⟨fun h => Int.pos_of_mul_pos_right h hk |> fun x => x, fun h => Int.mul_pos hk h⟩, ⟨fun h => ?_, fun h => Int.mul_neg_of_pos_of_neg hk h⟩⟩
    rcases Int.lt_or_le m 0 with h1 | h1
    · exact h1
    · have := Int.mul_nonneg (show 0 ≤ k by omega) h1; omega
  have hsn : ∀ k m : Int, k < 0 → ((k * m > 0 ↔ m * -1 > 0) ∧ (k * m < 0 ↔ m * -1 < 0)) := fun k m hk => by
    have := hsm (-k) (-m) (by omega)
    rw [Int.neg_mul_neg, Int.mul_one] at this
    rw [show m * -1 = -m by omega]; exact this
  cases cs with
  | nil =>
    have h1 : ∀ m : Int, -1000 ≤ m ∧ m ≤ 1000 → formF [] m = if decide (m > 0) = true then (([], 1), 1) else if decide (m < 0) = true then (([], 1), -1) else (([], 0), 1) := fun m hm => by
      unfold formF; rw [if_pos (near_nil hm).ok]
    rw [h1 n h.kn]
    rcases Int.lt_trichotomy n 0 with hn | hn | hn
    · rw [if_neg (by simp; omega), if_pos (by simpa using hn)]
      refine ⟨near_nil (by simp), .inr rfl, by simp [lv]; omega, by simp [lv]; omega, ?_⟩
      rw [h1 1 (by omega)]; rfl
    · subst hn
      rw [if_neg (by simp), if_neg (by simp)]
      refine ⟨near_nil (by simp), .inl rfl, by simp [lv], by simp [lv], ?_⟩
      rw [h1 0 (by omega)]; rfl
    · rw [if_pos (by simpa using hn)]
      refine ⟨near_nil (by simp), .inl rfl, by simp [lv]; omega, by simp [lv]; omega, ?_⟩
      rw [h1 1 (by omega)]; rfl
  | cons c r =>
    obtain ⟨hb, hn, -⟩ := check_ok h.ok
    obtain ⟨z1, z2, -⟩ := gcdS_zero hn
    have hp := gcdL_pos hb z1 z2 (.inr (by simp))
    have hc0 := (hb c (by simp)).2
    have hf : formF (c :: r) n = if decide (c.2 < 0) = true then (((c :: r).map (divC (-gcdL (gcdS n 0) (c :: r))), n.tdiv (-gcdL (gcdS n 0) (c :: r))), -1)
        else (((c :: r).map (divC (gcdL (gcdS n 0) (c :: r))), n.tdiv (gcdL (gcdS n 0) (c :: r))), 1) := by
      unfold formF; rw [if_pos h.ok]
    rw [hf]
    split
    · rename_i hs
      have hs' : c.2 < 0 := by simpa using hs
      obtain ⟨q1, q2, q3⟩ := form_div (pt := pt) h (-gcdL (gcdS n 0) (c :: r)) (.inr rfl) (by rw [Int.neg_mul]; have := Int.mul_neg_of_pos_of_neg hp hs'; omega)
      refine ⟨q1, .inr rfl, ?_, ?_, q3⟩
      · rw [q2]; exact (hsn _ _ (by omega)).1
      · rw [q2]; exact (hsn _ _ (by omega)).2
    · rename_i hs
      have hs' : ¬ c.2 < 0 := by simpa using hs
      obtain ⟨q1, q2, q3⟩ := form_div (pt := pt) h (gcdL (gcdS n 0) (c :: r)) (.inl rfl) (Int.mul_pos hp (by omega))
      refine ⟨q1, .inl rfl, ?_, ?_, q3⟩
      · rw [q2]; exact (hsm _ _ hp).1
      · rw [q2]; exact (hsm _ _ hp).2
end Go.Proofs.Ytkghgdkkholieaa
