/-
  Walks: sums of forms.
-/
import Derived.Test.YtkghgdkkholieaaForm
namespace Go.Proofs.Ytkghgdkkholieaa
open Go.RowKit

/-- Go's order of names -/
def lessB (a b : ByteArray) : Bool := Op.bytesLess a.toList b.toList
def addL (xs ys : List (ByteArray × Int)) : List (ByteArray × Int) := addC lessB xs ys
/-- the sum of two forms -/
def sumS (xs : List (ByteArray × Int)) (k : Int) (ys : List (ByteArray × Int)) (l : Int) : (List (ByteArray × Int) × Int) × Bool :=
  if checkS xs k ≠ 0 then (([], 0), false) else if checkS ys l ≠ 0 then (([], 0), false)
  else if checkS (addL xs ys) (k + l) ≠ 0 then (([], 0), false) else ((addL xs ys, k + l), true)

theorem addL_end {xs ys acc : List (ByteArray × Int)} {i k : Nat} (h : acc ++ addL (xs.drop i) (ys.drop k) = addL xs ys) (hi : xs.length ≤ i) (hk : ys.length ≤ k) : acc = addL xs ys := by
  rw [drop_nil hi, drop_nil hk] at h
  simpa [addL, addC_nil] using h
theorem addL_left {xs ys acc : List (ByteArray × Int)} {i k : Nat} {x : ByteArray × Int} (h : acc ++ addL (xs.drop i) (ys.drop k) = addL xs ys) (hx : xs[i]? = some x) (hc : ys.length ≤ k ∨ ∃ y, ys[k]? = some y ∧ lessB x.1 y.1 = true) :
    (acc ++ [x]) ++ addL (xs.drop (i + 1)) (ys.drop k) = addL xs ys := by
  rw [← h, drop_cons hx, List.append_assoc]
  congr 1
  rcases hc with hc | ⟨y, hy, hl⟩
  · rw [drop_nil hc]; exact addC_left0.symm
  · rw [drop_cons hy]; exact (addC_left hl).symm
theorem addL_right {xs ys acc : List (ByteArray × Int)} {i k : Nat} {y : ByteArray × Int} (h : acc ++ addL (xs.drop i) (ys.drop k) = addL xs ys) (hy : ys[k]? = some y) (hc : xs.length ≤ i ∨ ∃ x, xs[i]? = some x ∧ lessB x.1 y.1 = false ∧ lessB y.1 x.1 = true) :
    (acc ++ [y]) ++ addL (xs.drop i) (ys.drop (k + 1)) = addL xs ys := by
  rw [← h, drop_cons hy, List.append_assoc]
  congr 1
  rcases hc with hc | ⟨x, hx, hl, hl'⟩
  · rw [drop_nil hc]; exact addC_right0.symm
  · rw [drop_cons hx]; exact (addC_right hl hl').symm
theorem addL_both {xs ys acc : List (ByteArray × Int)} {i k : Nat} {x y : ByteArray × Int} (h : acc ++ addL (xs.drop i) (ys.drop k) = addL xs ys) (hx : xs[i]? = some x) (hy : ys[k]? = some y) (hl : lessB x.1 y.1 = false) (hl' : lessB y.1 x.1 = false) (hn : x.2 + y.2 ≠ 0) :
    (acc ++ [(x.1, x.2 + y.2)]) ++ addL (xs.drop (i + 1)) (ys.drop (k + 1)) = addL xs ys := by
  rw [← h, drop_cons hx, drop_cons hy, List.append_assoc]
  congr 1
  have := addC_both (xs := xs.drop (i + 1)) (ys := ys.drop (k + 1)) hl hl'
  rw [if_neg hn] at this
  exact this.symm
theorem addL_skip {xs ys acc : List (ByteArray × Int)} {i k : Nat} {x y : ByteArray × Int} (h : acc ++ addL (xs.drop i) (ys.drop k) = addL xs ys) (hx : xs[i]? = some x) (hy : ys[k]? = some y) (hl : lessB x.1 y.1 = false) (hl' : lessB y.1 x.1 = false) (hn : x.2 + y.2 = 0) :
    acc ++ addL (xs.drop (i + 1)) (ys.drop (k + 1)) = addL xs ys := by
  rw [← h, drop_cons hx, drop_cons hy]
  congr 1
  have := addC_both (xs := xs.drop (i + 1)) (ys := ys.drop (k + 1)) hl hl'
  rw [if_pos hn] at this
  exact this.symm

theorem res_FormB2 {fn : Func} {p u : Tmp} {tmps : Array Value} {w : World} {V : Nat} {o0 o1 x y : Value} {t : TypeId} (hf : fn.results = #[.cell p 24, .tmp u]) (hp : tmps.getD p undef = .pointer (some ⟨V, 0, none⟩)) (h : w.heap[V]? = some (.cells #[o0, o1] t (0, 0))) :
    (results fn tmps).run Try.prog ((w.setCell ⟨V, 0, none⟩ x).setCell ⟨V, 1, none⟩ y) = .ok (.tuple #[.agg #[x, y], tmps.getD u undef]) ((w.setCell ⟨V, 0, none⟩ x).setCell ⟨V, 1, none⟩ y) := res_FormB hf hp (blk_set (blk_set h 0 x) 1 y)

set_option maxHeartbeats 1000000 in
theorem linear_right_bad {L : List Nat} (w : World) (a : Option Addr) (len cap : Nat) (k : Int) (cs : List (ByteArray × Int)) (hc : IsCoefs L w a len cap cs) (hL : Under L w.heap.size) (hm : len ≤ 1000000) (hz : checkS cs k ≠ 0) :
    Calls Try.prog 46 #[.agg #[.slice a len cap, .int .i64 k]] w fun e w' => (∃ v, e = .returned (.tuple #[v, .bool false]) ∧ IsLin L w' v [] 0) ∧ Ext w w' := by
  have HC := Lib.hid hc
  have HU := Lib.hid hL
  clear hc hL
  have HX : Hid (∀ w', Ext ((w.alloc (Obj.cells #[.slice a len cap, .int .i64 k] 24)).alloc (Obj.cells #[.slice none 0 0, .int .i64 0] 24)) w' → Ext w w') :=
    Lib.hid fun w' h => ((Ext.alloc _ _).trans (Ext.alloc _ _)).trans h
  have HK : Hid (∀ w', Ext ((w.alloc (Obj.cells #[.slice a len cap, .int .i64 k] 24)).alloc (Obj.cells #[.slice none 0 0, .int .i64 0] 24)) w' →
      w'.heap[w.heap.size]? = some (.cells #[.slice a len cap, .int .i64 k] 24 (0, 0)) ∧ w'.heap[w.heap.size + 1]? = some (.cells #[.slice none 0 0, .int .i64 0] 24 (0, 0))) :=
    Lib.hid fun w' h => ⟨blk_ext (blk_ext (heap_new _ _) (Ext.alloc _ _)) h, blk_ext (heap_new' (by simp)) h⟩
  generalize he0 : checkS cs k = e0 at hz
  have HE0 := Lib.hid he0
  clear he0
  have h1 : (e0 != 0) = true := by simpa using hz
  clear hz
  go_enter Try.func46, Try.ntmps46
  go_wp2_with (go_at_call 23; refine (linear_Check _ _ _ _ _ cs (HC.out.below (HX.out _ (Ext.refl _)))).mono ?_; rw [HE0.out]; rintro e w1 ⟨rfl, he⟩; have HA := Lib.hid he; obtain ⟨b0, b1⟩ := HK.out _ he; clear he; have x0 := blk_cell b0 0 _ rfl; have x1 := blk_cell b0 1 _ rfl; have z0 := blk_cell b1 0 _ rfl; have z1 := blk_cell b1 1 _ rfl; have f0 := blk_free b1 0; have f1 := blk_free b1 1; have B1 := Lib.hid b1; clear b0 b1)
  refine bodyPost_ret (res_FormB2 rfl rfl B1.out) rfl ?_
  exact ⟨⟨_, rfl, _, _, _, rfl, coefs_nil _ _⟩, ((HX.out _ HA.out).set (by simp) _).set (by simp) _⟩

set_option maxHeartbeats 1000000 in
theorem linear_right_ok {L : List Nat} (w : World) (a : Option Addr) (len cap : Nat) (k : Int) (cs : List (ByteArray × Int)) (hc : IsCoefs L w a len cap cs) (hL : Under L w.heap.size) (hm : len ≤ 1000000) (hz : checkS cs k = 0) :
    Calls Try.prog 46 #[.agg #[.slice a len cap, .int .i64 k]] w fun e w' => (∃ v, e = .returned (.tuple #[v, .bool true]) ∧ IsLin L w' v cs k) ∧ Ext w w' := by
  have HC := Lib.hid hc
  have HU := Lib.hid hL
  clear hc hL
  have HX : Hid (∀ w', Ext ((w.alloc (Obj.cells #[.slice a len cap, .int .i64 k] 24)).alloc (Obj.cells #[.slice none 0 0, .int .i64 0] 24)) w' → Ext w w') :=
    Lib.hid fun w' h => ((Ext.alloc _ _).trans (Ext.alloc _ _)).trans h
  have HK : Hid (∀ w', Ext ((w.alloc (Obj.cells #[.slice a len cap, .int .i64 k] 24)).alloc (Obj.cells #[.slice none 0 0, .int .i64 0] 24)) w' →
      w'.heap[w.heap.size]? = some (.cells #[.slice a len cap, .int .i64 k] 24 (0, 0)) ∧ w'.heap[w.heap.size + 1]? = some (.cells #[.slice none 0 0, .int .i64 0] 24 (0, 0))) :=
    Lib.hid fun w' h => ⟨blk_ext (blk_ext (heap_new _ _) (Ext.alloc _ _)) h, blk_ext (heap_new' (by simp)) h⟩
  have HE0 := Lib.hid hz
  clear hz
  go_enter Try.func46, Try.ntmps46
  go_wp2_with (go_at_call 23; refine (linear_Check _ _ _ _ _ cs (HC.out.below (HX.out _ (Ext.refl _)))).mono ?_; rw [HE0.out]; rintro e w1 ⟨rfl, he⟩; have HA := Lib.hid he; obtain ⟨b0, b1⟩ := HK.out _ he; clear he; have x0 := blk_cell b0 0 _ rfl; have x1 := blk_cell b0 1 _ rfl; have z0 := blk_cell b1 0 _ rfl; have z1 := blk_cell b1 1 _ rfl; have f0 := blk_free b1 0; have f1 := blk_free b1 1; have B1 := Lib.hid b1; clear b0 b1)
  refine bodyPost_ret (res_FormB2 rfl rfl B1.out) rfl ?_
  exact ⟨⟨_, rfl, _, _, _, rfl, ((((HC.out.cons (Nat.le_add_right _ 1)).below (HX.out _ HA.out)).set (by simp) _).set (by simp) _).tail⟩, ((HX.out _ HA.out).set (by simp) _).set (by simp) _⟩

set_option maxHeartbeats 1000000 in
theorem R11_right_bad {L : List Nat} (w : World) (a : Option Addr) (len cap : Nat) (k : Int) (cs : List (ByteArray × Int)) (hc : IsCoefs L w a len cap cs) (hL : Under L w.heap.size) (hm : len ≤ 1000000) (hz : checkS cs k ≠ 0) :
    Calls Try.prog 47 #[.agg #[.slice a len cap, .int .i64 k]] w fun e w' => (∃ v, e = .returned (.tuple #[v, .bool false]) ∧ IsLin L w' v [] 0) ∧ Ext w w' := by
  have HC := Lib.hid hc
  have HU := Lib.hid hL
  clear hc hL
  have HX : Hid (∀ w', Ext ((w.alloc (Obj.cells #[.slice a len cap, .int .i64 k] 24)).alloc (Obj.cells #[.slice none 0 0, .int .i64 0] 24)) w' → Ext w w') :=
    Lib.hid fun w' h => ((Ext.alloc _ _).trans (Ext.alloc _ _)).trans h
  have HK : Hid (∀ w', Ext ((w.alloc (Obj.cells #[.slice a len cap, .int .i64 k] 24)).alloc (Obj.cells #[.slice none 0 0, .int .i64 0] 24)) w' →
      w'.heap[w.heap.size]? = some (.cells #[.slice a len cap, .int .i64 k] 24 (0, 0)) ∧ w'.heap[w.heap.size + 1]? = some (.cells #[.slice none 0 0, .int .i64 0] 24 (0, 0))) :=
    Lib.hid fun w' h => ⟨blk_ext (blk_ext (heap_new _ _) (Ext.alloc _ _)) h, blk_ext (heap_new' (by simp)) h⟩
  generalize he0 : checkS cs k = e0 at hz
  have HE0 := Lib.hid he0
  clear he0
  have h1 : (e0 != 0) = true := by simpa using hz
  clear hz
  go_enter Try.func47, Try.ntmps47
  go_wp2_with (go_at_call 24; refine (R11_Check _ _ _ _ _ cs (HC.out.below (HX.out _ (Ext.refl _)))).mono ?_; rw [HE0.out]; rintro e w1 ⟨rfl, he⟩; have HA := Lib.hid he; obtain ⟨b0, b1⟩ := HK.out _ he; clear he; have x0 := blk_cell b0 0 _ rfl; have x1 := blk_cell b0 1 _ rfl; have z0 := blk_cell b1 0 _ rfl; have z1 := blk_cell b1 1 _ rfl; have f0 := blk_free b1 0; have f1 := blk_free b1 1; have B1 := Lib.hid b1; clear b0 b1)
  refine bodyPost_ret (res_FormB2 rfl rfl B1.out) rfl ?_
  exact ⟨⟨_, rfl, _, _, _, rfl, coefs_nil _ _⟩, ((HX.out _ HA.out).set (by simp) _).set (by simp) _⟩

set_option maxHeartbeats 1000000 in
theorem R11_right_ok {L : List Nat} (w : World) (a : Option Addr) (len cap : Nat) (k : Int) (cs : List (ByteArray × Int)) (hc : IsCoefs L w a len cap cs) (hL : Under L w.heap.size) (hm : len ≤ 1000000) (hz : checkS cs k = 0) :
    Calls Try.prog 47 #[.agg #[.slice a len cap, .int .i64 k]] w fun e w' => (∃ v, e = .returned (.tuple #[v, .bool true]) ∧ IsLin L w' v cs k) ∧ Ext w w' := by
  have HC := Lib.hid hc
  have HU := Lib.hid hL
  clear hc hL
  have HX : Hid (∀ w', Ext ((w.alloc (Obj.cells #[.slice a len cap, .int .i64 k] 24)).alloc (Obj.cells #[.slice none 0 0, .int .i64 0] 24)) w' → Ext w w') :=
    Lib.hid fun w' h => ((Ext.alloc _ _).trans (Ext.alloc _ _)).trans h
  have HK : Hid (∀ w', Ext ((w.alloc (Obj.cells #[.slice a len cap, .int .i64 k] 24)).alloc (Obj.cells #[.slice none 0 0, .int .i64 0] 24)) w' →
      w'.heap[w.heap.size]? = some (.cells #[.slice a len cap, .int .i64 k] 24 (0, 0)) ∧ w'.heap[w.heap.size + 1]? = some (.cells #[.slice none 0 0, .int .i64 0] 24 (0, 0))) :=
    Lib.hid fun w' h => ⟨blk_ext (blk_ext (heap_new _ _) (Ext.alloc _ _)) h, blk_ext (heap_new' (by simp)) h⟩
  have HE0 := Lib.hid hz
  clear hz
  go_enter Try.func47, Try.ntmps47
  go_wp2_with (go_at_call 24; refine (R11_Check _ _ _ _ _ cs (HC.out.below (HX.out _ (Ext.refl _)))).mono ?_; rw [HE0.out]; rintro e w1 ⟨rfl, he⟩; have HA := Lib.hid he; obtain ⟨b0, b1⟩ := HK.out _ he; clear he; have x0 := blk_cell b0 0 _ rfl; have x1 := blk_cell b0 1 _ rfl; have z0 := blk_cell b1 0 _ rfl; have z1 := blk_cell b1 1 _ rfl; have f0 := blk_free b1 0; have f1 := blk_free b1 1; have B1 := Lib.hid b1; clear b0 b1)
  apply wp_region_ext [some 8, some 9, some 10, some 11, some 12, some 13, some 14, none, some 3] 9 7 [KEmp, Is _, Is _, KL ((w.heap.size + 1) :: L) cs, Is _, Is _, KLin ((w.heap.size + 1) :: L) cs k] mixed rfl rfl (by decide) (by kernel_rfl)
  case hop =>
    refine allOps_cons ?o0 (allOps_cons ?o1 (allOps_cons ?o2 (allOps_cons ?o3 (allOps_cons ?o4 (allOps_cons ?o5 (allOps_cons ?o6 allOps_nil))))))
    case o0 =>
      refine opGoal_plain rfl rfl (by simp) fun f w' hr hk => ?_
      have y0 := hr.cell x0
      have y1 := hr.cell x1
      have HR := Lib.hid hr
      clear hr
      simp [putD, depsO, depsL, phi, Is, KnowAll, Region.binds, put_some, put_none, KEmp, KL, KLin] at hk ⊢
      go_wp2
      exact ⟨rfl, rfl, Ext.alloc _ _, _, rfl, heap_new _ _⟩
    case o1 =>
      refine opGoal_plain rfl rfl (by simp) fun f w' hr hk => ?_
      have y0 := hr.cell x0
      have y1 := hr.cell x1
      have HR := Lib.hid hr
      clear hr
      simp [putD, depsO, depsL, phi, Is, KnowAll, Region.binds, put_some, put_none, KEmp, KL, KLin] at hk ⊢
      try simp only [hk]
      go_wp2
      exact onePost_is _ rfl rfl ⟨Ext.refl _, rfl⟩
    case o2 =>
      refine opGoal_plain rfl rfl (by simp) fun f w' hr hk => ?_
      have y0 := hr.cell x0
      have y1 := hr.cell x1
      have HR := Lib.hid hr
      clear hr
      simp [putD, depsO, depsL, phi, Is, KnowAll, Region.binds, put_some, put_none, KEmp, KL, KLin] at hk ⊢
      try simp only [hk]
      go_wp2
      exact onePost_is _ rfl rfl ⟨Ext.refl _, rfl⟩
    case o3 =>
      refine opGoal_plain rfl rfl (by simp) fun f w' hr hk => ?_
      have y0 := hr.cell x0
      have y1 := hr.cell x1
      have HR := Lib.hid hr
      clear hr
      simp [putD, depsO, depsL, phi, Is, KnowAll, Region.binds, put_some, put_none, KEmp, KL, KLin] at hk ⊢
      obtain ⟨⟨b, e1, hb⟩, e2⟩ := hk
      rw [e1, e2]
      refine wpList_append_copy rfl _ _ rfl rfl hb rfl ((HC.out.cons (Nat.le_add_right _ 1)).below (HX.out _ (Ext.trans HA.out HR.out))) ((HU.out.below (HX.out _ (Ext.trans HA.out HR.out))).cons (blk_lt (blk_ext B1.out HR.out))) hm fun v' w1 hv he => ?_
      exact wpList_nil ⟨rfl, rfl, he, hv⟩
    case o4 =>
      refine opGoal_plain rfl rfl (by simp) fun f w' hr hk => ?_
      have y0 := hr.cell x0
      have y1 := hr.cell x1
      have HR := Lib.hid hr
      clear hr
      simp [putD, depsO, depsL, phi, Is, KnowAll, Region.binds, put_some, put_none, KEmp, KL, KLin] at hk ⊢
      try simp only [hk]
      go_wp2
      exact onePost_is _ rfl rfl ⟨Ext.refl _, rfl⟩
    case o5 =>
      refine opGoal_plain rfl rfl (by simp) fun f w' hr hk => ?_
      have y0 := hr.cell x0
      have y1 := hr.cell x1
      have HR := Lib.hid hr
      clear hr
      simp [putD, depsO, depsL, phi, Is, KnowAll, Region.binds, put_some, put_none, KEmp, KL, KLin] at hk ⊢
      try simp only [hk]
      go_wp2
      exact onePost_is _ rfl rfl ⟨Ext.refl _, rfl⟩
    case o6 =>
      refine opGoal_plain rfl rfl (by simp) fun f w' hr hk => ?_
      have y0 := hr.cell x0
      have y1 := hr.cell x1
      have HR := Lib.hid hr
      clear hr
      simp [putD, depsO, depsL, phi, Is, KnowAll, Region.binds, put_some, put_none, KEmp, KL, KLin] at hk ⊢
      obtain ⟨⟨b, l, c, e, h⟩, e2⟩ := hk
      rw [e, e2]
      go_wp2
      exact ⟨rfl, rfl, Ext.refl _, b, l, c, rfl, h⟩
  case hend =>
    intro f w' hr hk
    simp [putD, phi, Is, KEmp, KL, KLin, KnowAll, List.range, List.range.loop, put_some, put_none] at hk ⊢
    obtain ⟨-, e1, e2, -, e4, e5, b, l, c, e6, h⟩ := hk
    have b1 := blk_ext B1.out hr
    have HR := Lib.hid (HX.out _ (Ext.trans HA.out hr))
    clear hr
    have zz0 := blk_cell b1 0 _ rfl
    have zz1 := blk_cell b1 1 _ rfl
    have ff0 := blk_free b1 0
    have ff1 := blk_free b1 1
    have BB := Lib.hid b1
    clear b1
    rw [e6]
    go_wp2
    refine bodyPost_ret (res_FormB2 rfl rfl BB.out) rfl ?_
    exact ⟨⟨_, rfl, _, _, _, rfl, ((h.set (by simp) _).set (by simp) _).tail⟩, (HR.out.set (by simp) _).set (by simp) _⟩

end Go.Proofs.Ytkghgdkkholieaa
