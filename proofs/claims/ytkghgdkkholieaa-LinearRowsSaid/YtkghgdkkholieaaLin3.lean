/-
  Walks: copies of lists of coefficients.
-/
import Derived.Test.YtkghgdkkholieaaLin2
import Derived.Test.YtkghgdkkholieaaInv2
namespace Go.Proofs.Ytkghgdkkholieaa
open Go.RowKit

/-- the cells of a list of coefficients -/
def flatC (cs : List (ByteArray × Int)) : List Value := cs.flatMap fun c => [.string c.1, .int .i64 c.2]
theorem flatC_len (cs : List (ByteArray × Int)) : (flatC cs).length = cs.length * 2 := by
  induction cs with
  | nil => rfl
  | cons c cs ih => unfold flatC at *; simp [ih]; omega
theorem flatC_app (x y : List (ByteArray × Int)) : flatC (x ++ y) = flatC x ++ flatC y := by simp [flatC]
theorem flatC_at (cs : List (ByteArray × Int)) (i : Nat) (h : i < cs.length) : (flatC cs)[i * 2]? = some (.string cs[i].1) ∧ (flatC cs)[i * 2 + 1]? = some (.int .i64 cs[i].2) := by
  induction cs generalizing i with
  | nil => simp at h
  | cons c cs ih =>
    cases i with
    | zero => unfold flatC; simp
    | succ i =>
      have := ih i (by simpa using h)
      unfold flatC at *
      have e1 : (i + 1) * 2 = i * 2 + 1 + 1 := by omega
      simp only [List.flatMap_cons, List.cons_append, List.nil_append, e1, List.getElem?_cons_succ, List.getElem_cons_succ]
      exact this
theorem flatC_one (cs : List (ByteArray × Int)) : ∀ u ∈ flatC cs, u.oneCell' = true := by
  intro u hu
  unfold flatC at hu
  simp only [List.mem_flatMap] at hu
  obtain ⟨c, _, hc⟩ := hu
  simp at hc
  rcases hc with rfl | rfl <;> rfl

/-- a value is a slice that reads as a list of coefficients -/
def IsL (L : List Nat) (w : World) (v : Value) (cs : List (ByteArray × Int)) : Prop := ∃ a len cap, v = .slice a len cap ∧ IsCoefs L w a len cap cs
theorem IsL.below {L : List Nat} {w w' : World} {v : Value} {cs : List (ByteArray × Int)} (h : IsL L w v cs) (hb : Ext w w') : IsL L w' v cs := by
  obtain ⟨a, len, cap, e, h⟩ := h
  exact ⟨a, len, cap, e, h.below hb⟩

theorem isL_of_row {L : List Nat} {w : World} {base : Nat} {e : TypeId} {v : Value} {n : Nat} {cs : List (ByteArray × Int)} (h : w.ownsRow base e 2 v n (flatC cs)) (hL : Under L base) : IsL L w v cs := by
  obtain ⟨hl, h⟩ := h
  rw [flatC_len] at hl
  rcases h with ⟨hv, hn⟩ | ⟨g, cap, cur, hv, hb, hh, hn, hc, hs, ht⟩
  · subst hn
    have : cs = [] := List.eq_nil_of_length_eq_zero (by omega)
    subst this
    exact ⟨none, 0, 0, hv, coefs_nil _ _⟩
  · refine ⟨some ⟨g, 0, none⟩, n, cap, hv, by omega, hn, by simp, fun i hi => ⟨g, 0, rfl, ⟨?_, hL.not hb⟩, ?_, ?_⟩⟩
    · exact (Array.getElem?_eq_some_iff.1 hh).1
    all_goals
      have h2 := flatC_at cs i hi
      rw [← ht, List.getElem?_take, List.getElem?_take, if_pos (by omega), if_pos (by omega)] at h2
      simp only [Array.getElem?_toList] at h2
      simp only [World.cell?, hh, Nat.zero_add]
    · exact h2.1
    · exact h2.2
/-- the cells that are read, as the law of append asks for them -/
theorem cells_of_coefs {L : List Nat} {w : World} {ad : Addr} {len cap : Nat} {cs : List (ByteArray × Int)} (h : IsCoefs L w (some ad) len cap cs) : ∀ j u, (flatC cs)[j]? = some u → w.cell? (ad.add j) = some u ∧ (ad.add j).block < w.heap.size := by
  intro j u hj
  have hlt : j < cs.length * 2 := by
    have := (List.getElem?_eq_some_iff.1 hj).1
    rwa [flatC_len] at this
  obtain ⟨b, off, e, ⟨hb, -⟩, h1, h2⟩ := h.cells (j / 2) (by have := h.size; omega)
  obtain rfl : ad = ⟨b, off, none⟩ := by simpa using e
  have ha : Addr.add ⟨b, off, none⟩ j = ⟨b, off + j, none⟩ := by
    unfold Addr.add; split
    · rename_i h0; rw [h0]; rfl
    · rfl
  rw [ha]
  refine ⟨?_, hb⟩
  have h3 := flatC_at cs (j / 2) (by omega)
  rcases Nat.mod_two_eq_zero_or_one j with hm | hm
  · have e : j / 2 * 2 = j := by omega
    rw [e] at h1 h3
    rw [h1, ← hj, h3.1]
  · have e : j / 2 * 2 + 1 = j := by omega
    rw [Nat.add_assoc, e] at h2
    rw [e] at h3
    rw [h2, ← hj, h3.2]
theorem IsCoefs.nil {L : List Nat} {w : World} {len cap : Nat} {cs : List (ByteArray × Int)} (h : IsCoefs L w none len cap cs) : cs = [] ∧ len = 0 ∧ cap = 0 := by
  have hcs : cs = [] := by
    cases cs with
    | nil => rfl
    | cons c cs => obtain ⟨b, off, e, _⟩ := h.cells 0 (by simp); simp at e
  exact ⟨hcs, by rw [← h.size, hcs]; rfl, h.void rfl⟩

theorem owns_empty (w : World) (e : TypeId) (size : Nat) : (w.alloc (Obj.cells #[] e)).ownsRow w.heap.size e size (.slice (some ⟨w.heap.size, 0, none⟩) 0 0) 0 [] := by
  refine ⟨by simp, .inr ⟨w.heap.size, 0, #[], rfl, Nat.le_refl _, ?_, Nat.le_refl _, by unfold maxLen; omega, by simp, by simp⟩⟩
  show (w.heap.push _)[w.heap.size]? = _
  simp
theorem grown_ext {w w' : World} {v : Value} {n : Nat} {xs : List Value} {e : TypeId} {size base : Nat} (h : w.ownsRow base e size v n xs) (hg : w.grownBy w' v.ownBlock) {W : World} (hb : Below W.heap.size W w) (hB : W.heap.size ≤ base) : Below W.heap.size W w' := by
  refine hb.grown hg hb.size fun k hk => ?_
  obtain ⟨_, h⟩ := h
  rcases h with ⟨hv, _⟩ | ⟨g, cap, cur, hv, hgb, _⟩
  · rw [hv] at hk; simp [Value.ownBlock] at hk
  · rw [hv] at hk; simp [Value.ownBlock] at hk; omega

theorem Try.info37 : (Try.prog.info? 37).map (fun i => (i.zero, i.size, i.bytes)) = some (some (.agg #[.string ⟨#[]⟩, .int .i64 0]), 2, 24) := by kernel_rfl

set_option maxHeartbeats 1000000 in
theorem Clone_Coef {L : List Nat} (w : World) (a : Option Addr) (len cap : Nat) (cs : List (ByteArray × Int)) (hc : IsCoefs L w a len cap cs) (hL : Under L w.heap.size) (hm : len ≤ 1000000) :
    Calls Try.prog 58 #[.slice a len cap] w fun e w' => ∃ v, e = .returned v ∧ IsL L w' v cs ∧ Ext w w' := by
  obtain ⟨i0, hi, hz0, hz1, hz2⟩ := info_parts Try.info37
  cases a with
  | none =>
    obtain ⟨rfl, rfl, rfl⟩ := hc.nil
    have heq := fun (w : World) => Lib.run_eql_slice_nil (P := Try.prog) w 22 37 none 0 0 0 0 Try.underlying22
    go_enter Try.func58, Try.ntmps58
    go_wp2
    go_ret
    exact ⟨_, rfl, ⟨none, 0, 0, rfl, coefs_nil _ _⟩, Ext.refl _⟩
  | some ad =>
    have heq := fun (w : World) => Lib.run_eql_slice_nil (P := Try.prog) w 22 37 (some ad) len cap 0 0 Try.underlying22
    have C1 : Hid (∀ j u, (flatC cs)[j]? = some u → (w.alloc (Obj.cells #[] 37)).cell? (ad.add j) = some u) := Lib.hid fun j u hj => by
      obtain ⟨h1, h2⟩ := cells_of_coefs hc j u hj
      rw [← h1]; exact ((Below.refl w.heap.size w).alloc (Nat.le_refl _) _).cell h2
    have HL2 := Lib.hid (show (flatC cs).length = len * 2 by rw [flatC_len, hc.size])
    have HC := Lib.hid hc
    have HU := Lib.hid hL
    clear hc hL
    have C2 := Lib.hid (show 0 + len ≤ maxLen by unfold maxLen; omega)
    have C3 := Lib.hid (show (0 + len) * 24 ≤ 140737488355328 by omega)
    have C4 := Lib.hid (show w.heap.size ≤ (w.alloc (Obj.cells #[] 37)).heap.size by simp)
    go_enter Try.func58, Try.ntmps58
    go_wp2_with (at_builtin; refine wpList_append_own _ rfl _ _ 22 rfl w.heap.size 37 i0 _ 2 24 Try.underlying22 hi hz0 hz1 hz2 rfl (by decide) _ 0 [] rfl (owns_empty w _ 2) ad len cap (flatC cs) rfl HL2.out C1.out (flatC_one cs) C2.out C3.out C4.out ?_; intro v' w1 hown hgrow hnil)
    go_ret
    rw [Nat.zero_add, List.nil_append] at hown
    exact ⟨v', rfl, isL_of_row hown HU.out, grown_ext (owns_empty w _ 2) hgrow ((Below.refl w.heap.size w).alloc (Nat.le_refl _) _) (Nat.le_refl _)⟩
end Go.Proofs.Ytkghgdkkholieaa
