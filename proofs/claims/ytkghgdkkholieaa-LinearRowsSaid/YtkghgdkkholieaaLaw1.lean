/-
  Walks: the small forms that the statements make; two rows equal.
-/
import Derived.Test.YtkghgdkkholieaaAdd
namespace Go.Proofs.Ytkghgdkkholieaa
open Go.RowKit

/-- the coefficients of x and y of a small form -/
def formC (x y : Int) : List (ByteArray × Int) := (if x ≠ 0 then [(⟨#[120]⟩, x)] else []) ++ (if y ≠ 0 then [(⟨#[121]⟩, y)] else [])

theorem lin_of_row {L : List Nat} {w : World} {base : Nat} {e : TypeId} {v : Value} {n : Nat} {cs : List (ByteArray × Int)} {k : Int} (h : w.ownsRow base e 2 v n (flatC cs)) (hL : Under L base) : IsLin L w (.agg #[v, .int .i64 k]) cs k := by
  obtain ⟨a, l, c, e, h⟩ := isL_of_row h hL
  exact ⟨a, l, c, by rw [e], h⟩
theorem res_Lin0 {fn : Func} {p : Tmp} {tmps : Array Value} {w : World} {V : Nat} {x y : Value} {t : TypeId} (hf : fn.results = #[.cell p 24]) (hp : tmps.getD p undef = .pointer (some ⟨V, 0, none⟩)) (h : w.heap[V]? = some (.cells #[x, y] t (0, 0))) :
    (results fn tmps).run Try.prog w = .ok (.agg #[x, y]) w := by
  rw [Array.getD_eq_getD_getElem?] at hp
  simp [results, hf, go_sem, hp, blk_cell h 0 _ rfl, blk_cell h 1 _ rfl]

set_option maxHeartbeats 1000000 in
theorem L11_form00 (w : World) (k : Int) :
    Calls Try.prog 28 #[.int .i64 0, .int .i64 0, .int .i64 k] w fun e w' => (∃ v, e = .returned v ∧ IsLin [] w' v [] k) ∧ Ext w w' := by
  go_enter Try.func28, Try.ntmps28
  go_wp2
  refine bodyPost_ret (res_Lin0 rfl rfl (blk_ext (heap_new _ _) (Ext.alloc _ _))) rfl ?_
  exact ⟨⟨_, rfl, _, _, _, rfl, coefs_nil _ _⟩, Ext.trans (Ext.alloc _ _) (Ext.alloc _ _)⟩

set_option maxHeartbeats 1000000 in
theorem L11_formX (w : World) (x k : Int) (h : x ≠ 0) :
    Calls Try.prog 28 #[.int .i64 x, .int .i64 0, .int .i64 k] w fun e w' => (∃ v, e = .returned v ∧ IsLin [] w' v [(⟨#[120]⟩, x)] k) ∧ Ext w w' := by
  have h1 : (x != 0) = true := by simpa using h
  obtain ⟨i0, hi, hz0, hz1, hz2⟩ := info_parts Try.info37
  have HB : Hid (∀ w' o o' o'', Ext (((w.alloc o).alloc o').alloc o'') w' → Ext w w' ∧ w'.heap[w.heap.size]? = some o ∧ w'.heap[w.heap.size + 1]? = some o') := Lib.hid fun w' o o' o'' h => ⟨Ext.trans (Ext.alloc _ _) (Ext.trans (Ext.alloc _ _) (Ext.trans (Ext.alloc _ _) h)), blk_ext (blk_ext (blk_ext (heap_new _ _) (Ext.alloc _ _)) (Ext.alloc _ _)) h, blk_ext (blk_ext (heap_new' (by simp)) (Ext.alloc _ _)) h⟩
  go_enter Try.func28, Try.ntmps28
  go_wp2_with (at_builtin; go_loud (refine wpList_append_own _ rfl _ _ 22 rfl (w.heap.size + 3) 37 i0 _ 2 24 Try.underlying22 hi hz0 hz1 hz2 rfl (by decide) _ 0 [] rfl (owns_nil _ _ _ _) ⟨w.heap.size + 1 + 1, 0, none⟩ 1 1 [.string ⟨#[120]⟩, .int .i64 x] rfl rfl (news_at (heap_new' (by simp))) (by simp [Value.oneCell']) (by decide) (by decide) (by simp) ?_; intro v' w3 hown hgrow _; obtain ⟨a', cap', hv'⟩ := owns_slice hown; subst hv'; have hg := grown_ext (owns_nil _ (w.heap.size + 3) 0 0) hgrow (Ext.refl _) (by simp); obtain ⟨he, b0, b1⟩ := HB.out _ _ _ _ hg; have HE := Lib.hid he; have hn := hg.size; simp at hn; have x0 := blk_cell b1 0 _ rfl; have x1 := blk_cell b1 1 _ rfl; have f0 := blk_free b1 0; have z0 := blk_cell b0 0 _ rfl; have z1 := blk_cell b0 1 _ rfl; have g0 := blk_free b0 0; have g1 := blk_free b0 1; have B0 := Lib.hid b0; have B1 := Lib.hid b1; have HO := Lib.hid (ownsRow_setCell_below hown (a := ⟨w.heap.size + 1, 0, none⟩) (by simp) (Value.slice a' 1 cap')); clear hg hgrow b0 b1 hown he))
  refine bodyPost_ret (res_Lin (V := w.heap.size) rfl rfl (blk_other B0.out (by simp) _)) rfl ?_
  exact ⟨⟨_, rfl, lin_of_row (cs := [(⟨#[120]⟩, x)]) (ownsRow_setCell_below (ownsRow_setCell_below HO.out (by simp) _) (by simp) _) (under_nil _)⟩, ((HE.out.set (by simp) _).set (by simp) _).set (by simp) _⟩

set_option maxHeartbeats 1000000 in
theorem L11_formY (w : World) (y k : Int) (h : y ≠ 0) :
    Calls Try.prog 28 #[.int .i64 0, .int .i64 y, .int .i64 k] w fun e w' => (∃ v, e = .returned v ∧ IsLin [] w' v [(⟨#[121]⟩, y)] k) ∧ Ext w w' := by
  have h1 : (y != 0) = true := by simpa using h
  obtain ⟨i0, hi, hz0, hz1, hz2⟩ := info_parts Try.info37
  have HB : Hid (∀ w' o o' o'', Ext (((w.alloc o).alloc o').alloc o'') w' → Ext w w' ∧ w'.heap[w.heap.size]? = some o ∧ w'.heap[w.heap.size + 1]? = some o') := Lib.hid fun w' o o' o'' h => ⟨Ext.trans (Ext.alloc _ _) (Ext.trans (Ext.alloc _ _) (Ext.trans (Ext.alloc _ _) h)), blk_ext (blk_ext (blk_ext (heap_new _ _) (Ext.alloc _ _)) (Ext.alloc _ _)) h, blk_ext (blk_ext (heap_new' (by simp)) (Ext.alloc _ _)) h⟩
  go_enter Try.func28, Try.ntmps28
  go_wp2_with (at_builtin; go_loud (refine wpList_append_own _ rfl _ _ 22 rfl (w.heap.size + 3) 37 i0 _ 2 24 Try.underlying22 hi hz0 hz1 hz2 rfl (by decide) _ 0 [] rfl (owns_nil _ _ _ _) ⟨w.heap.size + 1 + 1, 0, none⟩ 1 1 [.string ⟨#[121]⟩, .int .i64 y] rfl rfl (news_at (heap_new' (by simp))) (by simp [Value.oneCell']) (by decide) (by decide) (by simp) ?_; intro v' w3 hown hgrow _; obtain ⟨a', cap', hv'⟩ := owns_slice hown; subst hv'; have hg := grown_ext (owns_nil _ (w.heap.size + 3) 0 0) hgrow (Ext.refl _) (by simp); obtain ⟨he, b0, b1⟩ := HB.out _ _ _ _ hg; have HE := Lib.hid he; have hn := hg.size; simp at hn; have x0 := blk_cell b1 0 _ rfl; have x1 := blk_cell b1 1 _ rfl; have f0 := blk_free b1 0; have z0 := blk_cell b0 0 _ rfl; have z1 := blk_cell b0 1 _ rfl; have g0 := blk_free b0 0; have g1 := blk_free b0 1; have B0 := Lib.hid b0; have B1 := Lib.hid b1; have HO := Lib.hid (ownsRow_setCell_below hown (a := ⟨w.heap.size + 1, 0, none⟩) (by simp) (Value.slice a' 1 cap')); clear hg hgrow b0 b1 hown he))
  refine bodyPost_ret (res_Lin (V := w.heap.size) rfl rfl (blk_other B0.out (by simp) _)) rfl ?_
  exact ⟨⟨_, rfl, lin_of_row (cs := [(⟨#[121]⟩, y)]) (ownsRow_setCell_below (ownsRow_setCell_below HO.out (by simp) _) (by simp) _) (under_nil _)⟩, ((HE.out.set (by simp) _).set (by simp) _).set (by simp) _⟩


set_option maxHeartbeats 1000000 in
theorem L11_formXY (w : World) (x y k : Int) (h : x ≠ 0) (h' : y ≠ 0) :
    Calls Try.prog 28 #[.int .i64 x, .int .i64 y, .int .i64 k] w fun e w' => (∃ v, e = .returned v ∧ IsLin [] w' v [(⟨#[120]⟩, x), (⟨#[121]⟩, y)] k) ∧ Ext w w' := by
  have h1 : (x != 0) = true := by simpa using h
  have h2 : (y != 0) = true := by simpa using h'
  obtain ⟨i0, hi, hz0, hz1, hz2⟩ := info_parts Try.info37
  have HB : Hid (∀ w' o o' o'', Ext (((w.alloc o).alloc o').alloc o'') w' → Ext w w' ∧ w'.heap[w.heap.size]? = some o ∧ w'.heap[w.heap.size + 1]? = some o') := Lib.hid fun w' o o' o'' h => ⟨Ext.trans (Ext.alloc _ _) (Ext.trans (Ext.alloc _ _) (Ext.trans (Ext.alloc _ _) h)), blk_ext (blk_ext (blk_ext (heap_new _ _) (Ext.alloc _ _)) (Ext.alloc _ _)) h, blk_ext (blk_ext (heap_new' (by simp)) (Ext.alloc _ _)) h⟩
  go_enter Try.func28, Try.ntmps28
  go_wp2_with (at_builtin; first | (refine wpList_append_own _ rfl _ _ 22 rfl (w.heap.size + 3) 37 i0 _ 2 24 Try.underlying22 hi hz0 hz1 hz2 rfl (by decide) _ 0 [] rfl (owns_nil _ _ _ _) ⟨w.heap.size + 1 + 1, 0, none⟩ 1 1 [.string ⟨#[120]⟩, .int .i64 x] rfl rfl (news_at (heap_new' (by simp))) (by simp [Value.oneCell']) (by decide) (by decide) (by simp) ?_; intro v' w3 hown hgrow _; obtain ⟨a', cap', hv'⟩ := owns_slice hown; subst hv'; have hg := grown_ext (owns_nil _ (w.heap.size + 3) 0 0) hgrow (Ext.refl _) (by simp); obtain ⟨he, b0, b1⟩ := HB.out _ _ _ _ hg; have HE := Lib.hid he; have hn := hg.size; simp at hn; have x0 := blk_cell b1 0 _ rfl; have x1 := blk_cell b1 1 _ rfl; have f0 := blk_free b1 0; have z0 := blk_cell b0 0 _ rfl; have z1 := blk_cell b0 1 _ rfl; have g0 := blk_free b0 0; have g1 := blk_free b0 1; have B0 := Lib.hid b0; have B1 := Lib.hid b1; have HO := Lib.hid (ownsRow_setCell_below hown (a := ⟨w.heap.size + 1, 0, none⟩) (by simp) (Value.slice a' 1 cap')); clear hg hgrow b0 b1 hown he) | (go_loud (refine wpList_append_own _ rfl _ _ 22 rfl (w.heap.size + 3) 37 i0 _ 2 24 Try.underlying22 hi hz0 hz1 hz2 rfl (by decide) _ 1 _ rfl (HO.out.alloc _) ⟨w3.heap.size, 0, none⟩ 1 1 [.string ⟨#[121]⟩, .int .i64 y] rfl rfl (news_at (heap_new' (by simp))) (by simp [Value.oneCell']) (by decide) (by decide) (by simp; omega) ?_; intro v' w4 hown hgrow _; obtain ⟨a2, cap2, hv'⟩ := owns_slice hown; subst hv'; have HL := Lib.hid (ExtL.of_grown hgrow (row_list _)); have C1 := Lib.hid (blk_extL (blk_ext (blk_set B1.out 0 (Value.slice a' 1 cap')) (Ext.alloc _ _)) HL.out (not_row HO.out (by omega))); have C0 := Lib.hid (blk_extL (blk_ext (blk_other B0.out (by simp) (Value.slice a' 1 cap')) (Ext.alloc _ _)) HL.out (not_row HO.out (by omega))); have HE4 := Lib.hid (ext_extL (Ext.trans (HE.out.set (by simp) _) (Ext.alloc _ _)) HL.out (row_from HO.out (by omega))); have X0 := blk_cell C1.out 0 _ rfl; have X1 := blk_cell C1.out 1 _ rfl; have F0 := blk_free C1.out 0; have Z0 := blk_cell C0.out 0 _ rfl; have Z1 := blk_cell C0.out 1 _ rfl; have G0 := blk_free C0.out 0; have G1 := blk_free C0.out 1; have HO4 := Lib.hid (ownsRow_setCell_below hown (a := ⟨w.heap.size + 1, 0, none⟩) (by simp) (Value.slice a2 2 cap2)); clear hgrow hown)))
  refine bodyPost_ret (res_Lin (V := w.heap.size) rfl rfl (blk_other C0.out (by simp) _)) rfl ?_
  exact ⟨⟨_, rfl, lin_of_row (cs := [(⟨#[120]⟩, x), (⟨#[121]⟩, y)]) (ownsRow_setCell_below (ownsRow_setCell_below HO4.out (by simp) _) (by simp) _) (under_nil _)⟩, ((HE4.out.set (by simp) _).set (by simp) _).set (by simp) _⟩

theorem L11_form (w : World) (x y k : Int) :
    Calls Try.prog 28 #[.int .i64 x, .int .i64 y, .int .i64 k] w fun e w' => (∃ v, e = .returned v ∧ IsLin [] w' v (formC x y) k) ∧ Ext w w' := by
  by_cases hx : x = 0
  · by_cases hy : y = 0
    · subst hx; subst hy; exact L11_form00 w k
    · subst hx
      have : formC 0 y = [(⟨#[121]⟩, y)] := by unfold formC; simp [hy]
      rw [this]; exact L11_formY w y k hy
  · by_cases hy : y = 0
    · subst hy
      have : formC x 0 = [(⟨#[120]⟩, x)] := by unfold formC; simp [hx]
      rw [this]; exact L11_formX w x k hx
    · have : formC x y = [(⟨#[120]⟩, x), (⟨#[121]⟩, y)] := by unfold formC; simp [hx, hy]
      rw [this]; exact L11_formXY w x y k hx hy

set_option maxHeartbeats 1000000 in
theorem R11_SameRow {L L' : List Nat} (w : World) (a1 a2 : Option Addr) (l1 l2 c1 c2 : Nat) (k1 k2 : Int) (e1 e2 : Bool) (x y : List (ByteArray × Int)) (h1 : IsCoefs L w a1 l1 c1 x) (h2 : IsCoefs L' w a2 l2 c2 y) (hm1 : l1 ≤ 1000000) (hm2 : l2 ≤ 1000000) :
    Calls Try.prog 12 #[.agg #[.slice a1 l1 c1, .int .i64 k1, .bool e1], .agg #[.slice a2 l2 c2, .int .i64 k2, .bool e2]] w fun e w' => e = .returned (.bool ((e1 == e2) && sameS x k1 y k2)) ∧ Ext w w' := by
  have HX := Lib.hid (h1.below (Ext.trans (Ext.alloc w (Obj.cells #[.slice a1 l1 c1, .int .i64 k1, .bool e1] 26)) (Ext.alloc _ (Obj.cells #[.slice a2 l2 c2, .int .i64 k2, .bool e2] 26))))
  have HY := Lib.hid (h2.below (Ext.trans (Ext.alloc w (Obj.cells #[.slice a1 l1 c1, .int .i64 k1, .bool e1] 26)) (Ext.alloc _ (Obj.cells #[.slice a2 l2 c2, .int .i64 k2, .bool e2] 26))))
  clear h1 h2
  by_cases h : e1 = e2
  · subst h
    have h2 : (e1 == e1) = true := by simp
    rw [h2]
    simp only [Bool.true_and]
    go_enter Try.func12, Try.ntmps12
    go_wp2_with (go_at_call 15; refine (R11_Same _ _ _ _ _ _ _ _ _ x y HX.out HY.out (by omega) (by omega)).mono ?_; rintro e w1 ⟨rfl, he⟩; have HE := Lib.hid (Ext.trans (Ext.trans (Ext.alloc _ _) (Ext.alloc _ _)) he); clear he)
    go_ret
    exact ⟨rfl, HE.out⟩
  · have h2 : (e1 == e2) = false := by simpa using h
    rw [h2]
    go_enter Try.func12, Try.ntmps12
    go_wp2
    go_ret
    exact ⟨rfl, Ext.trans (Ext.alloc _ _) (Ext.alloc _ _)⟩

end Go.Proofs.Ytkghgdkkholieaa
