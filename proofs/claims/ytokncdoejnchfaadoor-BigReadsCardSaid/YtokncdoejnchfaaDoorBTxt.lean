/-
  Texts of numbers: plain lists of bytes.
-/
import Derived.Test.YtokncdoejnchfaaDoorB8
namespace Go.Proofs.YtokncdoejnchfaaDoor
open Go

/-- a text, byte by byte -/
def B (l : List UInt8) : ByteArray := ⟨l.toArray⟩
theorem B_of (s : ByteArray) : B s.data.toList = s := by cases s; simp [B]
theorem B_ex (s : ByteArray) : ∃ l, s = B l := ⟨_, (B_of s).symm⟩
theorem B_size (l : List UInt8) : (B l).size = l.length := rfl
theorem B_data (l : List UInt8) : (B l).data.toList = l := rfl
theorem B_app (l r : List UInt8) : B l ++ B r = B (l ++ r) := by
  apply ByteArray.ext
  simp [B, ByteArray.data_append]
theorem B_extract (l : List UInt8) (a b : Nat) : (B l).extract a b = B ((l.take b).drop a) := by
  apply ByteArray.ext
  rw [ByteArray.data_extract]
  apply Array.ext'
  simp [B]
  rw [List.drop_take]
theorem B_get (l : List UInt8) (k : Nat) : (B l)[k]? = nth l k := by
  rw [nth_get]
  by_cases h : k < l.length
  · have h' : k < (B l).size := h
    rw [getElem?_pos (B l) k h', List.getElem?_eq_getElem h, ByteArray.getElem_eq_getElem_data]
    simp [B]
  · have h' : ¬ k < (B l).size := h
    rw [getElem?_neg (B l) k h', List.getElem?_eq_none (by omega)]
theorem B_inj {l r : List UInt8} (h : B l = B r) : l = r := by
  have : (B l).data.toList = (B r).data.toList := by rw [h]
  exact this
theorem bloop_eq (s : ByteArray) : ∀ (n i : Nat) (r : List UInt8), s.size - i = n → ByteArray.toList.loop s i r = r.reverse ++ s.data.toList.drop i := by
  intro n
  induction n with
  | zero =>
    intro i r h
    rw [ByteArray.toList.loop, if_neg (by omega), List.drop_eq_nil_of_le (by simp; omega), List.append_nil]
  | succ n ih =>
    intro i r h
    have hi : i < s.data.size := by simp; omega
    rw [ByteArray.toList.loop, if_pos (by omega), ih (i + 1) _ (by omega), List.reverse_cons, List.append_assoc]
    congr 1
    have e : s.data.toList.drop i = s.data[i] :: s.data.toList.drop (i + 1) := by
      rw [← Array.getElem_toList hi, List.getElem_cons_drop]
    rw [e, List.singleton_append]
    congr 1
    show s.data[i]! = _
    rw [getElem!_pos s.data i hi]
theorem B_list (l : List UInt8) : (B l).toList = l := by
  rw [ByteArray.toList, bloop_eq (B l) _ 0 [] rfl]; simp [B_data]
theorem B_eq (l r : List UInt8) : sEq (B l) (B r) = decide (l = r) := by
  unfold sEq
  rw [B_list, B_list]
  by_cases h : l = r
  · simp [h]
  · simp [h]

/- decimal digits, the greatest first -/
def isD (b : UInt8) : Prop := 48 ≤ b.toNat ∧ b.toNat ≤ 57
def allT (l : List UInt8) : Prop := ∀ b ∈ l, isD b
def dv (b : UInt8) : Nat := b.toNat - 48
def valT : List UInt8 → Nat
  | [] => 0
  | b :: l => dv b * 10 ^ l.length + valT l
theorem valT_app (l r : List UInt8) : valT (l ++ r) = valT l * 10 ^ r.length + valT r := by
  induction l with
  | nil => simp [valT]
  | cons b l ih =>
    simp only [List.cons_append, valT, ih, List.length_append, Nat.pow_add, Nat.add_mul, Nat.mul_assoc, Nat.add_assoc]
theorem valT_snoc (l : List UInt8) (b : UInt8) : valT (l ++ [b]) = 10 * valT l + dv b := by
  rw [valT_app]; simp [valT]; omega
theorem valT_lt {l : List UInt8} (h : allT l) : valT l < 10 ^ l.length := by
  induction l with
  | nil => simp [valT]
  | cons b l ih =>
    have h1 := h b (by simp)
    have h2 := ih fun x hx => h x (by simp [hx])
    have h3 : dv b ≤ 9 := by unfold dv; unfold isD at h1; omega
    simp only [valT, List.length_cons, Nat.pow_succ]
    have := Nat.mul_le_mul_right (10 ^ l.length) h3
    omega
theorem dv_inj {a b : UInt8} (ha : isD a) (hb : isD b) (h : dv a = dv b) : a = b := by
  unfold dv at h; unfold isD at ha hb
  exact UInt8.toNat_inj.1 (by omega)
theorem valT_eq : ∀ {l r : List UInt8}, allT l → allT r → l.length = r.length → valT l = valT r → l = r
  | [], [], _, _, _, _ => rfl
  | a :: l, b :: r, h1, h2, hl, hv => by
    have hl' : l.length = r.length := by simpa using hl
    have g1 := valT_lt (l := l) fun x hx => h1 x (by simp [hx])
    have g2 := valT_lt (l := r) fun x hx => h2 x (by simp [hx])
    simp only [valT] at hv
    rw [hl'] at hv g1
    have hp : 0 < 10 ^ r.length := Nat.pow_pos (by decide)
    have hd : dv a = dv b := by
      have e1 : (dv a * 10 ^ r.length + valT l) / 10 ^ r.length = dv a := by
        rw [Nat.mul_comm, Nat.mul_add_div hp, Nat.div_eq_of_lt g1]; rfl
      have e2 : (dv b * 10 ^ r.length + valT r) / 10 ^ r.length = dv b := by
        rw [Nat.mul_comm, Nat.mul_add_div hp, Nat.div_eq_of_lt g2]; rfl
      rw [← e1, ← e2, hv]
    have hab := dv_inj (h1 a (by simp)) (h2 b (by simp)) hd
    rw [hd] at hv
    have ih := valT_eq (l := l) (r := r) (fun x hx => h1 x (by simp [hx])) (fun x hx => h2 x (by simp [hx])) hl' (by omega)
    rw [hab, ih]
  | [], _ :: _, _, _, hl, _ => by simp at hl
  | _ :: _, [], _, _, hl, _ => by simp at hl
/-- no zeros in front -/
def can (l : List UInt8) : Prop := allT l ∧ l ≠ [] ∧ (nth l 0 = some 48 → l = [48])
theorem can_ge {l : List UInt8} (h : can l) (h0 : l ≠ [48]) : 10 ^ (l.length - 1) ≤ valT l := by
  obtain ⟨h1, h2, h3⟩ := h
  cases l with
  | nil => exact absurd rfl h2
  | cons b l =>
    have hb : b ≠ 48 := fun e => h0 (h3 (by rw [e]; rfl))
    have hd := h1 b (by simp)
    have : 1 ≤ dv b := by
      unfold dv; unfold isD at hd
      have : b.toNat ≠ 48 := fun e => hb (UInt8.toNat_inj.1 e)
      omega
    simp only [valT, List.length_cons, Nat.add_sub_cancel]
    have := Nat.mul_le_mul_right (10 ^ l.length) this
    omega
theorem pow10_lt {a b v : Nat} (h1 : 10 ^ (a - 1) ≤ v) (h2 : v < 10 ^ b) (h0 : 0 < a) : a ≤ b := by
  rcases Nat.lt_or_ge b a with h | h
  · have : 10 ^ b ≤ 10 ^ (a - 1) := Nat.pow_le_pow_right (by decide) (by omega)
    omega
  · exact h
theorem can_eq {l r : List UInt8} (hl : can l) (hr : can r) (h : valT l = valT r) : l = r := by
  have pl : 0 < l.length := List.length_pos_iff.2 hl.2.1
  have pr : 0 < r.length := List.length_pos_iff.2 hr.2.1
  by_cases h1 : l = [48]
  · by_cases h2 : r = [48]
    · rw [h1, h2]
    · have := can_ge hr h2
      have hp : 0 < 10 ^ (r.length - 1) := Nat.pow_pos (by decide)
      rw [← h, h1] at this
      have e : valT [48] = 0 := rfl
      omega
  · by_cases h2 : r = [48]
    · have := can_ge hl h1
      have hp : 0 < 10 ^ (l.length - 1) := Nat.pow_pos (by decide)
      rw [h, h2] at this
      have e : valT [48] = 0 := rfl
      omega
    · have g1 := can_ge hl h1
      have g2 := can_ge hr h2
      have k1 := valT_lt hl.1
      have k2 := valT_lt hr.1
      exact valT_eq hl.1 hr.1 (Nat.le_antisymm (pow10_lt g1 (by omega) pl) (pow10_lt g2 (by omega) pr)) h
theorem toNat_d {n : Nat} (h : n < 10) : (UInt8.ofNat (48 + n)).toNat = 48 + n := by
  rw [UInt8.toNat_ofNat']; omega
theorem isD_d {n : Nat} (h : n < 10) : isD (UInt8.ofNat (48 + n)) := by
  unfold isD; rw [toNat_d h]; omega
theorem dv_d {n : Nat} (h : n < 10) : dv (UInt8.ofNat (48 + n)) = n := by
  unfold dv; rw [toNat_d h]; omega
theorem d_zero {n : Nat} (h : n < 10) (e : UInt8.ofNat (48 + n) = 48) : n = 0 := by
  have := dv_d h
  rw [e] at this
  exact this.symm
theorem allT_app {l r : List UInt8} (h1 : allT l) (h2 : allT r) : allT (l ++ r) := fun b hb => by
  rcases List.mem_append.1 hb with h | h
  · exact h1 b h
  · exact h2 b h
theorem four_all {n : Nat} : allT (fourF n) := fun b hb => by
  simp only [fourF, List.mem_cons, List.not_mem_nil, or_false] at hb
  rcases hb with rfl | rfl | rfl | rfl <;> exact isD_d (Nat.mod_lt _ (by decide))
theorem four_val {n : Nat} (h : n < 10000) : valT (fourF n) = n := by
  simp only [fourF, valT, List.length_cons, List.length_nil]
  rw [dv_d (Nat.mod_lt _ (by decide)), dv_d (Nat.mod_lt _ (by decide)), dv_d (Nat.mod_lt _ (by decide)), dv_d (Nat.mod_lt _ (by decide))]
  omega
theorem four_len (n : Nat) : (fourF n).length = 4 := rfl
/-- the digits, the greatest first, four decimal ones each -/
def foursT (l : List Int) : List UInt8 := (l.reverse.map fun x => fourF x.toNat).flatten
theorem fours_cons (d : Int) (l : List Int) : foursT (d :: l) = foursT l ++ fourF d.toNat := by
  simp [foursT]
theorem fours_snoc (d : Int) (l : List Int) : foursT (l ++ [d]) = fourF d.toNat ++ foursT l := by
  simp [foursT]
theorem fours_len (l : List Int) : (foursT l).length = 4 * l.length := by
  induction l with
  | nil => rfl
  | cons d l ih => rw [fours_cons, List.length_append, ih, four_len, List.length_cons]; omega
theorem fours_all (l : List Int) : allT (foursT l) := by
  induction l with
  | nil => intro b hb; simp [foursT] at hb
  | cons d l ih => rw [fours_cons]; exact allT_app ih four_all
theorem fours_val {l : List Int} (h : okD l) : ((valT (foursT l) : Nat) : Int) = val l := by
  induction l with
  | nil => rfl
  | cons d l ih =>
    have h1 := h d (by simp)
    have h2 := ih fun x hx => h x (by simp [hx])
    rw [fours_cons, valT_app, four_len, four_val (by omega), val, ← h2]
    omega
theorem decF_facts : ∀ (f n : Nat), n < 10 ^ f → 0 < f → allT (decF f n) ∧ valT (decF f n) = n ∧ decF f n ≠ [] ∧ (nth (decF f n) 0 = some 48 → n = 0 ∧ decF f n = [48])
  | 0, _, _, h => absurd h (by decide)
  | f + 1, n, hn, _ => by
    rw [decF]
    by_cases h : n < 10
    · rw [if_pos h]
      refine ⟨fun b hb => by rw [List.mem_singleton] at hb; subst hb; exact isD_d h, by show dv _ * 10 ^ 0 + 0 = n; rw [dv_d h]; omega, by simp, fun e => ?_⟩
      simp only [nth, Option.some.injEq] at e
      have := d_zero h e
      subst this; exact ⟨rfl, rfl⟩
    · rw [if_neg h]
      have hf : 0 < f := by
        rcases Nat.eq_zero_or_pos f with h0 | h0
        · subst h0; simp at hn; omega
        · exact h0
      obtain ⟨h1, h2, h3, h4⟩ := decF_facts f (n / 10) (by rw [Nat.pow_succ] at hn; omega) hf
      have hm : n % 10 < 10 := Nat.mod_lt _ (by decide)
      refine ⟨allT_app h1 fun b hb => by rw [List.mem_singleton] at hb; subst hb; exact isD_d hm, ?_, by simp, fun e => ?_⟩
      · rw [valT_snoc, h2, dv_d hm]; omega
      · exfalso
        have : nth (decF f (n / 10)) 0 = some 48 := by
          cases hd : decF f (n / 10) with
          | nil => exact absurd hd h3
          | cons a l => rw [hd] at e; exact e
        have := (h4 this).1
        omega
theorem dig_last {N : Nat} {l : List Int} {d : Int} (h : dig N = l ++ [d]) : d ≠ 0 := fun h0 => by
  subst h0
  have hk := okD_dig N
  rw [h] at hk
  have hkl : okD l := fun x hx => hk x (by simp [hx])
  have hv := val_dig N
  rw [h, val_append] at hv
  simp only [val, Int.mul_zero, Int.add_zero] at hv
  have hlt := val_lt hkl
  rw [hv] at hlt
  have h1 : N < 10000 ^ l.length := by
    have e : ((10000 ^ l.length : Nat) : Int) = (10000 : Int) ^ l.length := Int.natCast_pow ..
    rw [← e] at hlt; omega
  have h2 := dig_len.2 h1
  rw [h] at h2
  have h3 : (l ++ [(0 : Int)]).length = l.length + 1 := by simp
  omega
/-- a number in decimal -/
def dec (N : Nat) : List UInt8 := topF (dig N).reverse
theorem dec_zero : dec 0 = [48] := rfl
theorem dec_facts (N : Nat) : can (dec N) ∧ valT (dec N) = N := by
  by_cases h0 : N = 0
  · subst h0
    exact ⟨⟨fun b hb => by simp [dec_zero] at hb; subst hb; exact ⟨by decide, by decide⟩, by simp [dec_zero], fun _ => rfl⟩, rfl⟩
  · have hne : dig N ≠ [] := fun h => h0 (dig_nil.1 h)
    obtain ⟨l, d, hl⟩ : ∃ l d, dig N = l ++ [d] := ⟨_, _, (List.dropLast_concat_getLast hne).symm⟩
    have hd := dig_last hl
    have hk := okD_dig N
    rw [hl] at hk
    have hdk := hk d (by simp)
    have hkl : okD l := fun x hx => hk x (by simp [hx])
    have e : dec N = decF 20 d.toNat ++ foursT l := by
      unfold dec; rw [hl, List.reverse_append]; simp [topF, foursT]
    obtain ⟨h1, h2, h3, h4⟩ := decF_facts 20 d.toNat (Nat.lt_of_lt_of_le (m := 10000) (by omega) (by decide)) (by decide)
    rw [e]
    refine ⟨⟨allT_app h1 (fours_all l), by simp [h3], fun e0 => ?_⟩, ?_⟩
    · exfalso
      have : nth (decF 20 d.toNat) 0 = some 48 := by
        cases hd : decF 20 d.toNat with
        | nil => exact absurd hd h3
        | cons a l => rw [hd] at e0; exact e0
      have := (h4 this).1
      omega
    · have hv := val_dig N
      rw [hl, val_snoc, ← fours_val hkl] at hv
      have e1 : (10 : Nat) ^ (foursT l).length = 10000 ^ l.length := by
        rw [fours_len, Nat.pow_mul]
      rw [valT_app, h2, e1]
      have e2 : ((10000 ^ l.length : Nat) : Int) = (10000 : Int) ^ l.length := Int.natCast_pow ..
      rw [← e2] at hv
      have e3 : d = ((d.toNat : Nat) : Int) := by omega
      rw [e3, ← Int.natCast_mul, ← Int.natCast_add] at hv
      have := Int.ofNat.inj hv
      rw [Nat.mul_comm]
      omega
/-- the text of a number -/
def txt (z : Int) : List UInt8 := if z < 0 then 45 :: dec z.natAbs else dec z.natAbs
theorem text_V (p : Bool) (l : List Int) : textF p l = B (txt (V p l)) := by
  unfold textF
  have ha := V_abs p l
  by_cases h : validF p l = true
  · rw [if_pos h] at ha ⊢
    have ht : topF l.reverse = dec (V p l).natAbs := by rw [dec, ha]
    have hng := V_neg p l
    rw [h] at hng
    cases p with
    | true =>
      simp only [Bool.and_true, if_true] at hng ⊢
      rw [ht, txt, if_pos (by omega)]; rfl
    | false =>
      simp only [Bool.and_false, Bool.false_eq_true, if_false] at hng ⊢
      rw [ht, txt, if_neg (by omega)]; rfl
  · rw [if_neg h] at ha ⊢
    have hz : V p l = 0 := V_bad (by simpa using h)
    rw [hz]; rfl
/-- a text without its sign -/
def spT (s : List UInt8) : Bool × List UInt8 := match s with | [] => (false, []) | b :: l => if b = 45 then (true, l) else (false, b :: l)
def goodT (s : List UInt8) : Prop := (spT s).2 ≠ [] ∧ (spT s).2.length ≤ 800 ∧ allT (spT s).2 ∧ (nth (spT s).2 0 = some 48 → s = [48])
def valS (s : List UInt8) : Int := sg (spT s).1 (valT (spT s).2)
theorem pow4 (n : Nat) : 10000 ^ n = 10 ^ (4 * n) := by rw [Nat.pow_mul]
theorem text_fits {t : List UInt8} {n : Nat} (h : allT t) (hl : t.length ≤ 4 * n) : valT t < 10000 ^ n := by
  rw [pow4]; exact Nat.lt_of_lt_of_le (valT_lt h) (Nat.pow_le_pow_right (by decide) hl)
theorem dec_short {N n : Nat} (h : N < 10000 ^ n) (hn : 0 < n) : (dec N).length ≤ 4 * n := by
  obtain ⟨hc, hv⟩ := dec_facts N
  by_cases h1 : dec N = [48]
  · rw [h1]; simp; omega
  · have h2 := can_ge hc h1
    rw [hv] at h2
    rw [pow4] at h
    exact pow10_lt h2 h (List.length_pos_iff.2 hc.2.1)
theorem okZ_text {n : Bool} {t : List UInt8} (h : allT t) (hl : t.length ≤ 800) : okZ (sg n (valT t)) = true := by
  have h3 := text_fits (n := 200) h (by omega)
  have := dig_len.2 h3
  unfold okZ; rw [sg_abs]; simp; omega
theorem good_txt {s : List UInt8} (h : goodT s) : txt (valS s) = s := by
  obtain ⟨h1, h2, h3, h4⟩ := h
  cases s with
  | nil => simp [spT] at h1
  | cons b l =>
    by_cases hb : b = 45
    · subst hb
      simp only [spT, if_true] at h1 h2 h3 h4
      have hne : l ≠ [48] := fun e => by subst e; have := h4 rfl; simp at this
      have hc : can l := ⟨h3, h1, fun e => by have := h4 e; simp at this⟩
      have hge := can_ge hc hne
      have hp : 0 < 10 ^ (l.length - 1) := Nat.pow_pos (by decide)
      have hv : valS (45 :: l) = -((valT l : Nat) : Int) := by simp [valS, spT, sg]
      rw [hv, txt, if_pos (by omega)]
      congr 1
      have e : (-((valT l : Nat) : Int)).natAbs = valT l := by omega
      rw [e]
      exact can_eq (dec_facts _).1 hc (dec_facts _).2
    · simp only [spT, hb, if_false] at h1 h2 h3 h4
      have hc : can (b :: l) := ⟨h3, h1, h4⟩
      have hv : valS (b :: l) = ((valT (b :: l) : Nat) : Int) := by simp [valS, spT, sg, hb]
      rw [hv, txt, if_neg (by omega)]
      have e : (((valT (b :: l) : Nat) : Int)).natAbs = valT (b :: l) := by omega
      rw [e]
      exact can_eq (dec_facts _).1 hc (dec_facts _).2
theorem txt_good {z : Int} (h : okZ z = true) : goodT (txt z) ∧ valS (txt z) = z := by
  obtain ⟨hc, hv⟩ := dec_facts z.natAbs
  have hlen : (dec z.natAbs).length ≤ 800 := dec_short (n := 200) (dig_len.1 (zA_len h)) (by decide)
  have hz0 : dec z.natAbs = [48] → z = 0 := fun e => by
    rw [e] at hv
    have : valT [48] = 0 := rfl
    omega
  unfold txt
  by_cases hz : z < 0
  · rw [if_pos hz]
    have hs : spT (45 :: dec z.natAbs) = (true, dec z.natAbs) := rfl
    refine ⟨⟨?_, ?_, ?_, ?_⟩, ?_⟩
    · rw [hs]; exact hc.2.1
    · rw [hs]; exact hlen
    · rw [hs]; exact hc.1
    · rw [hs]; intro e
      have := hz0 (hc.2.2 e); omega
    · rw [valS, hs, hv, sg, if_pos rfl]; omega
  · rw [if_neg hz]
    have hs : spT (dec z.natAbs) = (false, dec z.natAbs) := by
      cases hd : dec z.natAbs with
      | nil => rfl
      | cons b l =>
        have hb := hc.1 b (by rw [hd]; simp)
        have : b ≠ 45 := fun e => by subst e; unfold isD at hb; simp at hb
        simp [spT, this]
    refine ⟨⟨?_, ?_, ?_, ?_⟩, ?_⟩
    · rw [hs]; exact hc.2.1
    · rw [hs]; exact hlen
    · rw [hs]; exact hc.1
    · rw [hs]; exact hc.2.2
    · rw [valS, hs, hv, sg]; simp; omega
end Go.Proofs.YtokncdoejnchfaaDoor
