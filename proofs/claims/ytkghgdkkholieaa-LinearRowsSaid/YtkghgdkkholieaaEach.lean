/-
  Walks: a function of every element of a list of coefficients.
-/
import Derived.Test.YtkghgdkkholieaaLin4
namespace Go.Proofs.Ytkghgdkkholieaa
open Go.RowKit

theorem owns_ext {w w' : World} {base : Nat} {e : TypeId} {size : Nat} {v : Value} {n : Nat} {xs : List Value} (h : w.ownsRow base e size v n xs) (hx : Ext w w') : w'.ownsRow base e size v n xs := by
  refine ⟨h.1, ?_⟩
  rcases h.2 with h2 | ⟨g, cap, cur, hv, hb, hh, r⟩
  · exact .inl h2
  · exact .inr ⟨g, cap, cur, hv, hb, by rw [hx.block g (Array.getElem?_eq_some_iff.1 hh).1]; exact hh, r⟩
theorem owns_nil (w : World) (base : Nat) (e : TypeId) (size : Nat) : w.ownsRow base e size (.slice none 0 0) 0 [] := ⟨by simp, .inl ⟨rfl, rfl⟩⟩

/-- all that a function makes of a list; none if it fails at one -/
def eachS (G : ByteArray × Int → Int × Bool) (cs : List (ByteArray × Int)) : List (ByteArray × Int) × Bool :=
  if cs.all fun c => (G c).2 then (cs.map fun c => (c.1, (G c).1), true) else ([], false)
theorem eachS_fail {G : ByteArray × Int → Int × Bool} {cs : List (ByteArray × Int)} {n : Nat} {c : ByteArray × Int} (h : cs[n]? = some c) (hg : (G c).2 = false) : eachS G cs = ([], false) := by
  unfold eachS
  rw [if_neg]
  intro ha
  rw [List.all_eq_true] at ha
  rw [ha c (List.mem_of_getElem? h)] at hg
  simp at hg
theorem eachS_all {G : ByteArray × Int → Int × Bool} {cs : List (ByteArray × Int)} {n len : Nat} (hl : cs.length = len) (hn : len ≤ n) (h : ∀ j, j < n → ∀ c, cs[j]? = some c → (G c).2 = true) : eachS G cs = (cs.map fun c => (c.1, (G c).1), true) := by
  unfold eachS
  rw [if_pos]
  rw [List.all_eq_true]
  intro c hc
  obtain ⟨j, hj⟩ := List.getElem?_of_mem hc
  exact h j (by have := (List.getElem?_eq_some_iff.1 hj).1; omega) c hj
theorem flatC_take (cs : List (ByteArray × Int)) (n : Nat) (h : n < cs.length) (F : ByteArray × Int → ByteArray × Int) : flatC ((cs.take (n + 1)).map F) = flatC ((cs.take n).map F) ++ [.string (F cs[n]).1, .int .i64 (F cs[n]).2] := by
  rw [List.take_succ_eq_append_getElem h, List.map_append, flatC_app]; rfl

theorem news_at {w : World} {b : Nat} {vs : List Value} {t : TypeId} {fr : Nat × Nat} (h : w.heap[b]? = some (.cells vs.toArray t fr)) : ∀ j u, vs[j]? = some u → w.cell? (Addr.add ⟨b, 0, none⟩ j) = some u := by
  intro j u hj
  have ha : Addr.add ⟨b, 0, none⟩ j = ⟨b, j, none⟩ := by
    unfold Addr.add; split
    · rename_i h0; rw [h0]
    · simp
  rw [ha]
  simp [World.cell?, h, hj]
theorem heap_new (w : World) (o : Obj) : (w.alloc o).heap[w.heap.size]? = some o := by
  show (w.heap.push o)[w.heap.size]? = _
  simp

theorem heap_new' {w : World} {o : Obj} {k : Nat} (hk : k = w.heap.size) : (w.alloc o).heap[k]? = some o := by rw [hk]; exact heap_new w o

set_option maxHeartbeats 1000000 in
theorem each_Coef {L : List Nat} (w : World) (a : Option Addr) (len cap : Nat) (cs : List (ByteArray × Int)) (clo : FuncId) (capt : Array Value) (G : ByteArray × Int → Int × Bool) (hc : IsCoefs L w a len cap cs) (hL : Under L w.heap.size) (hm : len ≤ 1000000)
    (hcf : ∀ (args : Array Value) (w : World), (callFunc clo args).run Try.prog w = .ok (.enter clo args) w)
    (hf : ∀ (w' : World) (c : ByteArray × Int), c ∈ cs → Ext w w' → Calls Try.prog clo (#[.agg #[.string c.1, .int .i64 c.2]] ++ capt) w' fun e w'' => e = .returned (.tuple #[.agg #[.string c.1, .int .i64 (G c).1], .bool (G c).2]) ∧ Ext w' w'') :
    Calls Try.prog 49 #[.slice a len cap, .func (.func clo) #[] capt] w fun e w' => ∃ v, e = .returned (.tuple #[v, .bool (eachS G cs).2]) ∧ IsL L w' v (eachS G cs).1 ∧ Ext w w' := by
  obtain ⟨i0, hi, hz0, hz1, hz2⟩ := info_parts Try.info37
  have HC := Lib.hid hc
  have HU := Lib.hid hL
  have HF := Lib.hid hf
  clear hc hL hf
  go_enter Try.func49, Try.ntmps49
  go_wp2
  go_loopw [6, 13] (fun v i wr => ∃ n : Nat, i = .int .i64 n ∧ n ≤ len ∧ Hid (∀ j, j < n → ∀ c, cs[j]? = some c → (G c).2 = true) ∧ wr.ownsRow w.heap.size 37 2 v n (flatC ((cs.take n).map fun c => (c.1, (G c).1))) ∧ Ext w wr) (fun _ i _ => len - (intOf i).toNat)
  case atStart => exact ⟨0, rfl, by omega, Lib.hid (fun j hj => by omega), owns_nil _ _ _ _, Ext.refl _⟩
  case round =>
    obtain ⟨n, rfl, hn, HJ, hown, hbe⟩ := hrel
    have HE := Lib.hid hbe
    have HO := Lib.hid hown
    clear hbe hown
    by_cases hlt : n < len
    · have hcl : n < cs.length := by rw [HC.out.size]; exact hlt
      obtain ⟨b, off, ha, ⟨hb, -⟩, hs, hi'⟩ := HC.out.cells n hcl
      subst ha
      rw [← HE.out.cell' (by simpa using hb)] at hs hi'
      generalize hcn : cs[n]'hcl = c at hs hi'
      obtain ⟨s, m⟩ := c
      have HN : Hid (cs[n]? = some (s, m)) := Lib.hid (by rw [List.getElem?_eq_getElem hcl, hcn])
      have HT := Lib.hid (flatC_take cs n hcl fun c => (c.1, (G c).1))
      rw [hcn] at HT
      clear hcn
      go_wp2_with fail
      refine (HF.out _ (s, m) (List.mem_of_getElem? HN.out) (Ext.trans HE.out (Ext.alloc _ _))).mono ?_
      rintro e w1 ⟨rfl, he⟩
      have HE1 := Lib.hid (Ext.trans (Ext.trans HE.out (Ext.alloc _ _)) he)
      have HO1 := Lib.hid (owns_ext (HO.out.alloc (Obj.cells #[Value.string s, Value.int IntKind.i64 m] 37)) he)
      clear HE HO he
      generalize hg : G (s, m) = g
      rw [hg] at HT
      obtain ⟨g, ok⟩ := g
      have HG := Lib.hid hg
      clear hg
      cases ok
      · have HS := Lib.hid (eachS_fail (G := G) HN.out (by rw [HG.out]))
        go_wp2
        go_ret2
        exact ⟨_, by rw [HS.out]; rfl, by rw [HS.out]; exact ⟨none, 0, 0, rfl, coefs_nil _ _⟩, Ext.trans HE1.out (Ext.alloc _ _)⟩
      · have C3 := Lib.hid (show n + 1 ≤ maxLen by unfold maxLen; omega)
        have C4 := Lib.hid (show (n + 1) * 24 ≤ 140737488355328 by omega)
        have C5 := Lib.hid (Nat.le_trans HE1.out.size (show w1.heap.size ≤ ((w1.alloc (Obj.cells #[Value.string s, Value.int IntKind.i64 g] 37)).alloc (Obj.cells #[Value.string s, Value.int IntKind.i64 g] 37)).heap.size by simp; omega))
        go_wp2_with (at_builtin; go_loud (refine wpList_append_own _ rfl _ _ 22 rfl w.heap.size 37 i0 _ 2 24 Try.underlying22 hi hz0 hz1 hz2 rfl (by decide) _ n _ rfl ((HO1.out.alloc _).alloc _) ⟨w1.heap.size + 1, 0, none⟩ 1 1 [.string s, .int .i64 g] rfl rfl (news_at (heap_new' (by simp))) (by simp [Value.oneCell']) C3.out C4.out C5.out ?_); intro v' w2 hown hgrow hnil)
        have HO2 := Lib.hid hown
        have HE2 := Lib.hid (grown_ext ((HO1.out.alloc _).alloc _) hgrow (Ext.trans HE1.out ((Ext.alloc _ _).trans (Ext.alloc _ _))) (Nat.le_refl _))
        clear hown hgrow hnil
        go_roundw
        case rel => exact ⟨n + 1, by go_num, by omega, Lib.hid (upto_succ HJ.out (fun c hc => by rw [HN.out] at hc; cases hc; rw [HG.out])), by rw [HT.out]; exact HO2.out, HE2.out⟩
        case measure => simp [intOf]; omega
    · have HS := Lib.hid (eachS_all (G := G) HC.out.size (by omega) HJ.out)
      have HT : Hid ((cs.take n).map (fun c => (c.1, (G c).1)) = cs.map fun c => (c.1, (G c).1)) := Lib.hid (by rw [List.take_of_length_le (by rw [HC.out.size]; omega)])
      go_wp2
      go_ret2
      exact ⟨_, by rw [HS.out]; rfl, by rw [HS.out]; exact isL_of_row (HT.out ▸ HO.out) HU.out, HE.out⟩
end Go.Proofs.Ytkghgdkkholieaa
