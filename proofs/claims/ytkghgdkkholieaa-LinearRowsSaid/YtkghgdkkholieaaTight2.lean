/-
  Walks: tight rows of the reference.
-/
import Derived.Test.YtkghgdkkholieaaTight
namespace Go.Proofs.Ytkghgdkkholieaa
open Go.RowKit

/-- a new empty slice -/
def KEmp : Know := ⟨fun w v => ∃ b, v = .slice (some ⟨b, 0, none⟩) 0 0 ∧ w.heap[b]? = some (.cells #[] 37 (0, 0)), fun _ _ _ he ⟨b, h1, h2⟩ => ⟨b, h1, blk_ext h2 he⟩⟩

set_option maxHeartbeats 1000000 in
theorem R11_Tight_bad {L : List Nat} (w : World) (a : Option Addr) (len cap : Nat) (k : Int) (eq : Bool) (cs : List (ByteArray × Int)) (hc : IsCoefs L w a len cap cs) (hL : Under L w.heap.size) (hm : len ≤ 1000000) (hz : checkS cs k ≠ 0) :
    Calls Try.prog 14 #[.agg #[.slice a len cap, .int .i64 k, .bool eq]] w fun e w' => ∃ v, e = .returned v ∧ IsRow L w' v (tightS cs k eq) ∧ Ext w w' := by
  have HC := Lib.hid hc
  have HU := Lib.hid hL
  clear hc hL
  have HX : Hid (∀ w', Ext (((w.alloc (Obj.cells #[.slice a len cap, .int .i64 k, .bool eq] 26)).alloc (Obj.cells #[.slice none 0 0, .int .i64 0, .bool false] 26)).alloc (Obj.cells #[.slice a len cap, .int .i64 k] 24)) w' → Ext w w') :=
    Lib.hid fun w' h => (((Ext.alloc _ _).trans (Ext.alloc _ _)).trans (Ext.alloc _ _)).trans h
  have HK : Hid (∀ w', Ext (((w.alloc (Obj.cells #[.slice a len cap, .int .i64 k, .bool eq] 26)).alloc (Obj.cells #[.slice none 0 0, .int .i64 0, .bool false] 26)).alloc (Obj.cells #[.slice a len cap, .int .i64 k] 24)) w' →
      w'.heap[w.heap.size]? = some (.cells #[.slice a len cap, .int .i64 k, .bool eq] 26 (0, 0)) ∧ w'.heap[w.heap.size + 1]? = some (.cells #[.slice none 0 0, .int .i64 0, .bool false] 26 (0, 0)) ∧ w'.heap[w.heap.size + 2]? = some (.cells #[.slice a len cap, .int .i64 k] 24 (0, 0))) :=
    Lib.hid fun w' h => ⟨blk_ext (blk_ext (heap_new _ _) ((Ext.alloc _ _).trans (Ext.alloc _ _))) h, blk_ext (blk_ext (heap_new' (by simp)) (Ext.alloc _ _)) h, blk_ext (heap_new' (by simp)) h⟩
  generalize he0 : checkS cs k = e0 at hz
  have HE0 := Lib.hid he0
  clear he0
  have h1 : (e0 != 0) = true := by simpa using hz
  have HZ := Lib.hid hz
  clear hz
  go_enter Try.func14, Try.ntmps14
  go_wp2_with (go_at_call 24; refine (R11_Check _ a _ cap _ cs (HC.out.below (HX.out _ (Ext.refl _)))).mono ?_; rw [HE0.out]; rintro e w1 ⟨rfl, he⟩; have HA := Lib.hid he; obtain ⟨b0, b1, b2⟩ := HK.out _ he; clear he; have B0 := Lib.hid b0; have B1 := Lib.hid b1; have B2 := Lib.hid b2; have x0 := blk_cell b0 0 _ rfl; have x1 := blk_cell b0 1 _ rfl; have x2 := blk_cell b0 2 _ rfl; have y0 := blk_cell b2 0 _ rfl; have y1 := blk_cell b2 1 _ rfl; clear b0 b1 b2)
  apply wp_region_ext [some 12, some 13, some 14, some 15, some 16, some 17, some 18, some 19, some 20, some 21, none] 11 10 [KEmp, Is _, Is _, KL ((w.heap.size + 1) :: L) cs, Is _, Is _, KLin ((w.heap.size + 1) :: L) cs k, Is _, Is _, KRw ((w.heap.size + 1) :: L) (cs, k, eq)] mixed rfl rfl (by decide) (by kernel_rfl)
  case hop =>
    refine allOps_cons ?o0 (allOps_cons ?o1 (allOps_cons ?o2 (allOps_cons ?o3 (allOps_cons ?o4 (allOps_cons ?o5 (allOps_cons ?o6 (allOps_cons ?o7 (allOps_cons ?o8 (allOps_cons ?o9 allOps_nil)))))))))
    case o0 =>
      refine opGoal_plain rfl rfl (by simp) fun f w' hr hk => ?_
      have x0 := hr.cell y0
      have x1 := hr.cell y1
      have x2 := hr.cell x2
      have HR := Lib.hid hr
      clear hr
      simp [putD, depsO, depsL, phi, Is, KnowAll, Region.binds, put_some, put_none, KEmp, KL, KLin, KRw] at hk ⊢
      go_wp2
      exact ⟨rfl, rfl, Ext.alloc _ _, _, rfl, heap_new _ _⟩
    case o1 =>
      refine opGoal_plain rfl rfl (by simp) fun f w' hr hk => ?_
      have x0 := hr.cell y0
      have x1 := hr.cell y1
      have x2 := hr.cell x2
      have HR := Lib.hid hr
      clear hr
      simp [putD, depsO, depsL, phi, Is, KnowAll, Region.binds, put_some, put_none, KEmp, KL, KLin, KRw] at hk ⊢
      try simp only [hk]
      go_wp2
      exact onePost_is _ rfl rfl ⟨Ext.refl _, rfl⟩
    case o2 =>
      refine opGoal_plain rfl rfl (by simp) fun f w' hr hk => ?_
      have x0 := hr.cell y0
      have x1 := hr.cell y1
      have x2 := hr.cell x2
      have HR := Lib.hid hr
      clear hr
      simp [putD, depsO, depsL, phi, Is, KnowAll, Region.binds, put_some, put_none, KEmp, KL, KLin, KRw] at hk ⊢
      try simp only [hk]
      go_wp2
      exact onePost_is _ rfl rfl ⟨Ext.refl _, rfl⟩
    case o3 =>
      refine opGoal_plain rfl rfl (by simp) fun f w' hr hk => ?_
      have x0 := hr.cell y0
      have x1 := hr.cell y1
      have x2 := hr.cell x2
      have HR := Lib.hid hr
      clear hr
      simp [putD, depsO, depsL, phi, Is, KnowAll, Region.binds, put_some, put_none, KEmp, KL, KLin, KRw] at hk ⊢
      obtain ⟨⟨b, e1, hb⟩, e2⟩ := hk
      rw [e1, e2]
      refine wpList_append_copy rfl _ _ rfl rfl hb rfl ((HC.out.cons (by omega)).below (HX.out _ (Ext.trans HA.out HR.out))) ((HU.out.below (HX.out _ (Ext.trans HA.out HR.out))).cons (blk_lt (blk_ext B1.out HR.out))) hm fun v' w1 hv he => ?_
      exact wpList_nil ⟨rfl, rfl, he, hv⟩
    case o4 =>
      refine opGoal_plain rfl rfl (by simp) fun f w' hr hk => ?_
      have x0 := hr.cell y0
      have x1 := hr.cell y1
      have x2 := hr.cell x2
      have HR := Lib.hid hr
      clear hr
      simp [putD, depsO, depsL, phi, Is, KnowAll, Region.binds, put_some, put_none, KEmp, KL, KLin, KRw] at hk ⊢
      try simp only [hk]
      go_wp2
      exact onePost_is _ rfl rfl ⟨Ext.refl _, rfl⟩
    case o5 =>
      refine opGoal_plain rfl rfl (by simp) fun f w' hr hk => ?_
      have x0 := hr.cell y0
      have x1 := hr.cell y1
      have x2 := hr.cell x2
      have HR := Lib.hid hr
      clear hr
      simp [putD, depsO, depsL, phi, Is, KnowAll, Region.binds, put_some, put_none, KEmp, KL, KLin, KRw] at hk ⊢
      try simp only [hk]
      go_wp2
      exact onePost_is _ rfl rfl ⟨Ext.refl _, rfl⟩
    case o6 =>
      refine opGoal_plain rfl rfl (by simp) fun f w' hr hk => ?_
      have x0 := hr.cell y0
      have x1 := hr.cell y1
      have x2 := hr.cell x2
      have HR := Lib.hid hr
      clear hr
      simp [putD, depsO, depsL, phi, Is, KnowAll, Region.binds, put_some, put_none, KEmp, KL, KLin, KRw] at hk ⊢
      obtain ⟨⟨b, l, c, e, h⟩, e2⟩ := hk
      rw [e, e2]
      go_wp2
      exact ⟨rfl, rfl, Ext.refl _, b, l, c, rfl, h⟩
    case o7 =>
      refine opGoal_plain rfl rfl (by simp) fun f w' hr hk => ?_
      have x0 := hr.cell y0
      have x1 := hr.cell y1
      have x2 := hr.cell x2
      have HR := Lib.hid hr
      clear hr
      simp [putD, depsO, depsL, phi, Is, KnowAll, Region.binds, put_some, put_none, KEmp, KL, KLin, KRw] at hk ⊢
      try simp only [hk]
      go_wp2
      exact onePost_is _ rfl rfl ⟨Ext.refl _, rfl⟩
    case o8 =>
      refine opGoal_plain rfl rfl (by simp) fun f w' hr hk => ?_
      have x0 := hr.cell y0
      have x1 := hr.cell y1
      have x2 := hr.cell x2
      have HR := Lib.hid hr
      clear hr
      simp [putD, depsO, depsL, phi, Is, KnowAll, Region.binds, put_some, put_none, KEmp, KL, KLin, KRw] at hk ⊢
      try simp only [hk]
      go_wp2
      exact onePost_is _ rfl rfl ⟨Ext.refl _, rfl⟩
    case o9 =>
      refine opGoal_plain rfl rfl (by simp) fun f w' hr hk => ?_
      have x0 := hr.cell y0
      have x1 := hr.cell y1
      have x2 := hr.cell x2
      have HR := Lib.hid hr
      clear hr
      simp [putD, depsO, depsL, phi, Is, KnowAll, Region.binds, put_some, put_none, KEmp, KL, KLin, KRw] at hk ⊢
      obtain ⟨⟨b, l, c, e, h⟩, e2⟩ := hk
      rw [e, e2]
      go_wp2
      exact ⟨rfl, rfl, Ext.refl _, b, l, c, rfl, h⟩
  case hend =>
    intro f w' hr hk
    simp [putD, phi, Is, KEmp, KL, KLin, KRw, KnowAll, List.range, List.range.loop, put_some, put_none] at hk ⊢
    obtain ⟨-, e1, e2, -, e4, e5, -, e7, e8, b, l, c, e9, h⟩ := hk
    have b1 := blk_ext B1.out hr
    have HR := Lib.hid (HX.out _ (Ext.trans HA.out hr))
    clear hr
    have z0 := blk_cell b1 0 _ rfl
    have z1 := blk_cell b1 1 _ rfl
    have z2 := blk_cell b1 2 _ rfl
    have f0 := blk_free b1 0
    have f1 := blk_free b1 1
    have f2 := blk_free b1 2
    have BB := Lib.hid b1
    clear b1
    rw [e9]
    go_wp2
    refine bodyPost_ret (res_Row rfl rfl BB.out) rfl ?_
    have HS : tightS cs k eq = (cs, k, eq) := by unfold tightS; rw [if_pos (by rw [HE0.out]; exact HZ.out)]
    rw [HS]
    exact ⟨_, rfl, ⟨b, l, c, rfl, (((h.set (by simp) _).set (by simp) _).set (by simp) _).tail⟩, ((HR.out.set (by simp) _).set (by simp) _).set (by simp) _⟩

set_option maxHeartbeats 1000000 in
theorem R11_Tight_nil1 {L : List Nat} (w : World) (a : Option Addr) (len cap : Nat) (k : Int) (eq : Bool) (cs : List (ByteArray × Int)) (hc : IsCoefs L w a len cap cs) (hL : Under L w.heap.size) (hm : len ≤ 1000000) (hz : checkS cs k = 0) (hl0 : len = 0) (heq : eq = true) (h : k = 0) :
    Calls Try.prog 14 #[.agg #[.slice a len cap, .int .i64 k, .bool eq]] w fun e w' => ∃ v, e = .returned v ∧ IsRow L w' v ([], 0, false) ∧ Ext w w' := by
  subst hl0 heq
  subst h
  have HC := Lib.hid hc
  have HU := Lib.hid hL
  clear hc hL
  have HX : Hid (∀ w', Ext (((w.alloc (Obj.cells #[.slice a 0 cap, .int .i64 0, .bool true] 26)).alloc (Obj.cells #[.slice none 0 0, .int .i64 0, .bool false] 26)).alloc (Obj.cells #[.slice a 0 cap, .int .i64 0] 24)) w' → Ext w w') :=
    Lib.hid fun w' h => (((Ext.alloc _ _).trans (Ext.alloc _ _)).trans (Ext.alloc _ _)).trans h
  have HK : Hid (∀ w', Ext (((w.alloc (Obj.cells #[.slice a 0 cap, .int .i64 0, .bool true] 26)).alloc (Obj.cells #[.slice none 0 0, .int .i64 0, .bool false] 26)).alloc (Obj.cells #[.slice a 0 cap, .int .i64 0] 24)) w' →
      w'.heap[w.heap.size]? = some (.cells #[.slice a 0 cap, .int .i64 0, .bool true] 26 (0, 0)) ∧ w'.heap[w.heap.size + 1]? = some (.cells #[.slice none 0 0, .int .i64 0, .bool false] 26 (0, 0)) ∧ w'.heap[w.heap.size + 2]? = some (.cells #[.slice a 0 cap, .int .i64 0] 24 (0, 0))) :=
    Lib.hid fun w' h => ⟨blk_ext (blk_ext (heap_new _ _) ((Ext.alloc _ _).trans (Ext.alloc _ _))) h, blk_ext (blk_ext (heap_new' (by simp)) (Ext.alloc _ _)) h, blk_ext (heap_new' (by simp)) h⟩
  have HE0 := Lib.hid hz
  clear hz
  go_enter Try.func14, Try.ntmps14
  go_wp2_with (go_at_call 24; refine (R11_Check _ a _ cap _ cs (HC.out.below (HX.out _ (Ext.refl _)))).mono ?_; rw [HE0.out]; rintro e w1 ⟨rfl, he⟩; have HA := Lib.hid he; obtain ⟨b0, b1, b2⟩ := HK.out _ he; clear he; have B0 := Lib.hid b0; have B1 := Lib.hid b1; have B2 := Lib.hid b2; have x0 := blk_cell b0 0 _ rfl; have x1 := blk_cell b0 1 _ rfl; have x2 := blk_cell b0 2 _ rfl; have y0 := blk_cell b2 0 _ rfl; have y1 := blk_cell b2 1 _ rfl; have z0 := blk_cell b1 0 _ rfl; have z1 := blk_cell b1 1 _ rfl; have z2 := blk_cell b1 2 _ rfl; have f0 := blk_free b1 0; have f1 := blk_free b1 1; have f2 := blk_free b1 2; clear b0 b1 b2)
  all_goals
    refine bodyPost_ret (res_Row rfl rfl B1.out) rfl ?_
    exact ⟨_, rfl, isRow_nil _ _ _ _, (((HX.out _ HA.out).set (by simp) _).set (by simp) _).set (by simp) _⟩

set_option maxHeartbeats 1000000 in
theorem R11_Tight_nil2 {L : List Nat} (w : World) (a : Option Addr) (len cap : Nat) (k : Int) (eq : Bool) (cs : List (ByteArray × Int)) (hc : IsCoefs L w a len cap cs) (hL : Under L w.heap.size) (hm : len ≤ 1000000) (hz : checkS cs k = 0) (hl0 : len = 0) (heq : eq = false) (h : k = 0) :
    Calls Try.prog 14 #[.agg #[.slice a len cap, .int .i64 k, .bool eq]] w fun e w' => ∃ v, e = .returned v ∧ IsRow L w' v ([], 0, false) ∧ Ext w w' := by
  subst hl0 heq
  subst h
  have HC := Lib.hid hc
  have HU := Lib.hid hL
  clear hc hL
  have HX : Hid (∀ w', Ext (((w.alloc (Obj.cells #[.slice a 0 cap, .int .i64 0, .bool false] 26)).alloc (Obj.cells #[.slice none 0 0, .int .i64 0, .bool false] 26)).alloc (Obj.cells #[.slice a 0 cap, .int .i64 0] 24)) w' → Ext w w') :=
    Lib.hid fun w' h => (((Ext.alloc _ _).trans (Ext.alloc _ _)).trans (Ext.alloc _ _)).trans h
  have HK : Hid (∀ w', Ext (((w.alloc (Obj.cells #[.slice a 0 cap, .int .i64 0, .bool false] 26)).alloc (Obj.cells #[.slice none 0 0, .int .i64 0, .bool false] 26)).alloc (Obj.cells #[.slice a 0 cap, .int .i64 0] 24)) w' →
      w'.heap[w.heap.size]? = some (.cells #[.slice a 0 cap, .int .i64 0, .bool false] 26 (0, 0)) ∧ w'.heap[w.heap.size + 1]? = some (.cells #[.slice none 0 0, .int .i64 0, .bool false] 26 (0, 0)) ∧ w'.heap[w.heap.size + 2]? = some (.cells #[.slice a 0 cap, .int .i64 0] 24 (0, 0))) :=
    Lib.hid fun w' h => ⟨blk_ext (blk_ext (heap_new _ _) ((Ext.alloc _ _).trans (Ext.alloc _ _))) h, blk_ext (blk_ext (heap_new' (by simp)) (Ext.alloc _ _)) h, blk_ext (heap_new' (by simp)) h⟩
  have HE0 := Lib.hid hz
  clear hz
  go_enter Try.func14, Try.ntmps14
  go_wp2_with (go_at_call 24; refine (R11_Check _ a _ cap _ cs (HC.out.below (HX.out _ (Ext.refl _)))).mono ?_; rw [HE0.out]; rintro e w1 ⟨rfl, he⟩; have HA := Lib.hid he; obtain ⟨b0, b1, b2⟩ := HK.out _ he; clear he; have B0 := Lib.hid b0; have B1 := Lib.hid b1; have B2 := Lib.hid b2; have x0 := blk_cell b0 0 _ rfl; have x1 := blk_cell b0 1 _ rfl; have x2 := blk_cell b0 2 _ rfl; have y0 := blk_cell b2 0 _ rfl; have y1 := blk_cell b2 1 _ rfl; have z0 := blk_cell b1 0 _ rfl; have z1 := blk_cell b1 1 _ rfl; have z2 := blk_cell b1 2 _ rfl; have f0 := blk_free b1 0; have f1 := blk_free b1 1; have f2 := blk_free b1 2; clear b0 b1 b2)
  all_goals
    refine bodyPost_ret (res_Row rfl rfl B1.out) rfl ?_
    exact ⟨_, rfl, isRow_nil _ _ _ _, (((HX.out _ HA.out).set (by simp) _).set (by simp) _).set (by simp) _⟩

set_option maxHeartbeats 1000000 in
theorem R11_Tight_nil3 {L : List Nat} (w : World) (a : Option Addr) (len cap : Nat) (k : Int) (eq : Bool) (cs : List (ByteArray × Int)) (hc : IsCoefs L w a len cap cs) (hL : Under L w.heap.size) (hm : len ≤ 1000000) (hz : checkS cs k = 0) (hl0 : len = 0) (heq : eq = true) (h : k < 0) :
    Calls Try.prog 14 #[.agg #[.slice a len cap, .int .i64 k, .bool eq]] w fun e w' => ∃ v, e = .returned v ∧ IsRow L w' v ([], 1, false) ∧ Ext w w' := by
  subst hl0 heq
  have q1 : (k != 0) = true := by simp; omega
  have q2 : decide (0 < k) = false := by simp; omega
  have HC := Lib.hid hc
  have HU := Lib.hid hL
  clear hc hL
  have HX : Hid (∀ w', Ext (((w.alloc (Obj.cells #[.slice a 0 cap, .int .i64 k, .bool true] 26)).alloc (Obj.cells #[.slice none 0 0, .int .i64 0, .bool false] 26)).alloc (Obj.cells #[.slice a 0 cap, .int .i64 k] 24)) w' → Ext w w') :=
    Lib.hid fun w' h => (((Ext.alloc _ _).trans (Ext.alloc _ _)).trans (Ext.alloc _ _)).trans h
  have HK : Hid (∀ w', Ext (((w.alloc (Obj.cells #[.slice a 0 cap, .int .i64 k, .bool true] 26)).alloc (Obj.cells #[.slice none 0 0, .int .i64 0, .bool false] 26)).alloc (Obj.cells #[.slice a 0 cap, .int .i64 k] 24)) w' →
      w'.heap[w.heap.size]? = some (.cells #[.slice a 0 cap, .int .i64 k, .bool true] 26 (0, 0)) ∧ w'.heap[w.heap.size + 1]? = some (.cells #[.slice none 0 0, .int .i64 0, .bool false] 26 (0, 0)) ∧ w'.heap[w.heap.size + 2]? = some (.cells #[.slice a 0 cap, .int .i64 k] 24 (0, 0))) :=
    Lib.hid fun w' h => ⟨blk_ext (blk_ext (heap_new _ _) ((Ext.alloc _ _).trans (Ext.alloc _ _))) h, blk_ext (blk_ext (heap_new' (by simp)) (Ext.alloc _ _)) h, blk_ext (heap_new' (by simp)) h⟩
  have HE0 := Lib.hid hz
  clear hz
  go_enter Try.func14, Try.ntmps14
  go_wp2_with (go_at_call 24; refine (R11_Check _ a _ cap _ cs (HC.out.below (HX.out _ (Ext.refl _)))).mono ?_; rw [HE0.out]; rintro e w1 ⟨rfl, he⟩; have HA := Lib.hid he; obtain ⟨b0, b1, b2⟩ := HK.out _ he; clear he; have B0 := Lib.hid b0; have B1 := Lib.hid b1; have B2 := Lib.hid b2; have x0 := blk_cell b0 0 _ rfl; have x1 := blk_cell b0 1 _ rfl; have x2 := blk_cell b0 2 _ rfl; have y0 := blk_cell b2 0 _ rfl; have y1 := blk_cell b2 1 _ rfl; have z0 := blk_cell b1 0 _ rfl; have z1 := blk_cell b1 1 _ rfl; have z2 := blk_cell b1 2 _ rfl; have f0 := blk_free b1 0; have f1 := blk_free b1 1; have f2 := blk_free b1 2; clear b0 b1 b2)
  all_goals
    refine bodyPost_ret (res_Row rfl rfl B1.out) rfl ?_
    exact ⟨_, rfl, isRow_nil _ _ _ _, (((HX.out _ HA.out).set (by simp) _).set (by simp) _).set (by simp) _⟩

set_option maxHeartbeats 1000000 in
theorem R11_Tight_nil4 {L : List Nat} (w : World) (a : Option Addr) (len cap : Nat) (k : Int) (eq : Bool) (cs : List (ByteArray × Int)) (hc : IsCoefs L w a len cap cs) (hL : Under L w.heap.size) (hm : len ≤ 1000000) (hz : checkS cs k = 0) (hl0 : len = 0) (heq : eq = false) (h : k < 0) :
    Calls Try.prog 14 #[.agg #[.slice a len cap, .int .i64 k, .bool eq]] w fun e w' => ∃ v, e = .returned v ∧ IsRow L w' v ([], 0, false) ∧ Ext w w' := by
  subst hl0 heq
  have q1 : (k != 0) = true := by simp; omega
  have q2 : decide (0 < k) = false := by simp; omega
  have HC := Lib.hid hc
  have HU := Lib.hid hL
  clear hc hL
  have HX : Hid (∀ w', Ext (((w.alloc (Obj.cells #[.slice a 0 cap, .int .i64 k, .bool false] 26)).alloc (Obj.cells #[.slice none 0 0, .int .i64 0, .bool false] 26)).alloc (Obj.cells #[.slice a 0 cap, .int .i64 k] 24)) w' → Ext w w') :=
    Lib.hid fun w' h => (((Ext.alloc _ _).trans (Ext.alloc _ _)).trans (Ext.alloc _ _)).trans h
  have HK : Hid (∀ w', Ext (((w.alloc (Obj.cells #[.slice a 0 cap, .int .i64 k, .bool false] 26)).alloc (Obj.cells #[.slice none 0 0, .int .i64 0, .bool false] 26)).alloc (Obj.cells #[.slice a 0 cap, .int .i64 k] 24)) w' →
      w'.heap[w.heap.size]? = some (.cells #[.slice a 0 cap, .int .i64 k, .bool false] 26 (0, 0)) ∧ w'.heap[w.heap.size + 1]? = some (.cells #[.slice none 0 0, .int .i64 0, .bool false] 26 (0, 0)) ∧ w'.heap[w.heap.size + 2]? = some (.cells #[.slice a 0 cap, .int .i64 k] 24 (0, 0))) :=
    Lib.hid fun w' h => ⟨blk_ext (blk_ext (heap_new _ _) ((Ext.alloc _ _).trans (Ext.alloc _ _))) h, blk_ext (blk_ext (heap_new' (by simp)) (Ext.alloc _ _)) h, blk_ext (heap_new' (by simp)) h⟩
  have HE0 := Lib.hid hz
  clear hz
  go_enter Try.func14, Try.ntmps14
  go_wp2_with (go_at_call 24; refine (R11_Check _ a _ cap _ cs (HC.out.below (HX.out _ (Ext.refl _)))).mono ?_; rw [HE0.out]; rintro e w1 ⟨rfl, he⟩; have HA := Lib.hid he; obtain ⟨b0, b1, b2⟩ := HK.out _ he; clear he; have B0 := Lib.hid b0; have B1 := Lib.hid b1; have B2 := Lib.hid b2; have x0 := blk_cell b0 0 _ rfl; have x1 := blk_cell b0 1 _ rfl; have x2 := blk_cell b0 2 _ rfl; have y0 := blk_cell b2 0 _ rfl; have y1 := blk_cell b2 1 _ rfl; have z0 := blk_cell b1 0 _ rfl; have z1 := blk_cell b1 1 _ rfl; have z2 := blk_cell b1 2 _ rfl; have f0 := blk_free b1 0; have f1 := blk_free b1 1; have f2 := blk_free b1 2; clear b0 b1 b2)
  all_goals
    refine bodyPost_ret (res_Row rfl rfl B1.out) rfl ?_
    exact ⟨_, rfl, isRow_nil _ _ _ _, (((HX.out _ HA.out).set (by simp) _).set (by simp) _).set (by simp) _⟩

set_option maxHeartbeats 1000000 in
theorem R11_Tight_nil5 {L : List Nat} (w : World) (a : Option Addr) (len cap : Nat) (k : Int) (eq : Bool) (cs : List (ByteArray × Int)) (hc : IsCoefs L w a len cap cs) (hL : Under L w.heap.size) (hm : len ≤ 1000000) (hz : checkS cs k = 0) (hl0 : len = 0) (heq : eq = true) (h : 0 < k) :
    Calls Try.prog 14 #[.agg #[.slice a len cap, .int .i64 k, .bool eq]] w fun e w' => ∃ v, e = .returned v ∧ IsRow L w' v ([], 1, false) ∧ Ext w w' := by
  subst hl0 heq
  have q1 : (k != 0) = true := by simp; omega
  have q2 : decide (0 < k) = true := by simp; omega
  have HC := Lib.hid hc
  have HU := Lib.hid hL
  clear hc hL
  have HX : Hid (∀ w', Ext (((w.alloc (Obj.cells #[.slice a 0 cap, .int .i64 k, .bool true] 26)).alloc (Obj.cells #[.slice none 0 0, .int .i64 0, .bool false] 26)).alloc (Obj.cells #[.slice a 0 cap, .int .i64 k] 24)) w' → Ext w w') :=
    Lib.hid fun w' h => (((Ext.alloc _ _).trans (Ext.alloc _ _)).trans (Ext.alloc _ _)).trans h
  have HK : Hid (∀ w', Ext (((w.alloc (Obj.cells #[.slice a 0 cap, .int .i64 k, .bool true] 26)).alloc (Obj.cells #[.slice none 0 0, .int .i64 0, .bool false] 26)).alloc (Obj.cells #[.slice a 0 cap, .int .i64 k] 24)) w' →
      w'.heap[w.heap.size]? = some (.cells #[.slice a 0 cap, .int .i64 k, .bool true] 26 (0, 0)) ∧ w'.heap[w.heap.size + 1]? = some (.cells #[.slice none 0 0, .int .i64 0, .bool false] 26 (0, 0)) ∧ w'.heap[w.heap.size + 2]? = some (.cells #[.slice a 0 cap, .int .i64 k] 24 (0, 0))) :=
    Lib.hid fun w' h => ⟨blk_ext (blk_ext (heap_new _ _) ((Ext.alloc _ _).trans (Ext.alloc _ _))) h, blk_ext (blk_ext (heap_new' (by simp)) (Ext.alloc _ _)) h, blk_ext (heap_new' (by simp)) h⟩
  have HE0 := Lib.hid hz
  clear hz
  go_enter Try.func14, Try.ntmps14
  go_wp2_with (go_at_call 24; refine (R11_Check _ a _ cap _ cs (HC.out.below (HX.out _ (Ext.refl _)))).mono ?_; rw [HE0.out]; rintro e w1 ⟨rfl, he⟩; have HA := Lib.hid he; obtain ⟨b0, b1, b2⟩ := HK.out _ he; clear he; have B0 := Lib.hid b0; have B1 := Lib.hid b1; have B2 := Lib.hid b2; have x0 := blk_cell b0 0 _ rfl; have x1 := blk_cell b0 1 _ rfl; have x2 := blk_cell b0 2 _ rfl; have y0 := blk_cell b2 0 _ rfl; have y1 := blk_cell b2 1 _ rfl; have z0 := blk_cell b1 0 _ rfl; have z1 := blk_cell b1 1 _ rfl; have z2 := blk_cell b1 2 _ rfl; have f0 := blk_free b1 0; have f1 := blk_free b1 1; have f2 := blk_free b1 2; clear b0 b1 b2)
  all_goals
    refine bodyPost_ret (res_Row rfl rfl B1.out) rfl ?_
    exact ⟨_, rfl, isRow_nil _ _ _ _, (((HX.out _ HA.out).set (by simp) _).set (by simp) _).set (by simp) _⟩

set_option maxHeartbeats 1000000 in
theorem R11_Tight_nil6 {L : List Nat} (w : World) (a : Option Addr) (len cap : Nat) (k : Int) (eq : Bool) (cs : List (ByteArray × Int)) (hc : IsCoefs L w a len cap cs) (hL : Under L w.heap.size) (hm : len ≤ 1000000) (hz : checkS cs k = 0) (hl0 : len = 0) (heq : eq = false) (h : 0 < k) :
    Calls Try.prog 14 #[.agg #[.slice a len cap, .int .i64 k, .bool eq]] w fun e w' => ∃ v, e = .returned v ∧ IsRow L w' v ([], 1, false) ∧ Ext w w' := by
  subst hl0 heq
  have q1 : (k != 0) = true := by simp; omega
  have q2 : decide (0 < k) = true := by simp; omega
  have HC := Lib.hid hc
  have HU := Lib.hid hL
  clear hc hL
  have HX : Hid (∀ w', Ext (((w.alloc (Obj.cells #[.slice a 0 cap, .int .i64 k, .bool false] 26)).alloc (Obj.cells #[.slice none 0 0, .int .i64 0, .bool false] 26)).alloc (Obj.cells #[.slice a 0 cap, .int .i64 k] 24)) w' → Ext w w') :=
    Lib.hid fun w' h => (((Ext.alloc _ _).trans (Ext.alloc _ _)).trans (Ext.alloc _ _)).trans h
  have HK : Hid (∀ w', Ext (((w.alloc (Obj.cells #[.slice a 0 cap, .int .i64 k, .bool false] 26)).alloc (Obj.cells #[.slice none 0 0, .int .i64 0, .bool false] 26)).alloc (Obj.cells #[.slice a 0 cap, .int .i64 k] 24)) w' →
      w'.heap[w.heap.size]? = some (.cells #[.slice a 0 cap, .int .i64 k, .bool false] 26 (0, 0)) ∧ w'.heap[w.heap.size + 1]? = some (.cells #[.slice none 0 0, .int .i64 0, .bool false] 26 (0, 0)) ∧ w'.heap[w.heap.size + 2]? = some (.cells #[.slice a 0 cap, .int .i64 k] 24 (0, 0))) :=
    Lib.hid fun w' h => ⟨blk_ext (blk_ext (heap_new _ _) ((Ext.alloc _ _).trans (Ext.alloc _ _))) h, blk_ext (blk_ext (heap_new' (by simp)) (Ext.alloc _ _)) h, blk_ext (heap_new' (by simp)) h⟩
  have HE0 := Lib.hid hz
  clear hz
  go_enter Try.func14, Try.ntmps14
  go_wp2_with (go_at_call 24; refine (R11_Check _ a _ cap _ cs (HC.out.below (HX.out _ (Ext.refl _)))).mono ?_; rw [HE0.out]; rintro e w1 ⟨rfl, he⟩; have HA := Lib.hid he; obtain ⟨b0, b1, b2⟩ := HK.out _ he; clear he; have B0 := Lib.hid b0; have B1 := Lib.hid b1; have B2 := Lib.hid b2; have x0 := blk_cell b0 0 _ rfl; have x1 := blk_cell b0 1 _ rfl; have x2 := blk_cell b0 2 _ rfl; have y0 := blk_cell b2 0 _ rfl; have y1 := blk_cell b2 1 _ rfl; have z0 := blk_cell b1 0 _ rfl; have z1 := blk_cell b1 1 _ rfl; have z2 := blk_cell b1 2 _ rfl; have f0 := blk_free b1 0; have f1 := blk_free b1 1; have f2 := blk_free b1 2; clear b0 b1 b2)
  all_goals
    refine bodyPost_ret (res_Row rfl rfl B1.out) rfl ?_
    exact ⟨_, rfl, isRow_nil _ _ _ _, (((HX.out _ HA.out).set (by simp) _).set (by simp) _).set (by simp) _⟩

theorem tdiv_exact {k : Int} {g : Nat} (_hg : g ≠ 0) (h : (k.tmod g != 0) = false) : k.tdiv g = -((-k) / (g : Int)) := by
  have h : k.tmod g = 0 := by simpa using h
  obtain ⟨q, rfl⟩ := Int.dvd_of_tmod_eq_zero h
  rw [Int.mul_tdiv_cancel_left _ (by omega), ← Int.mul_neg, Int.mul_ediv_cancel_left _ (by omega), Int.neg_neg]

set_option maxHeartbeats 1000000 in
theorem R11_Tight_main {L : List Nat} (w : World) (a : Option Addr) (len cap : Nat) (k : Int) (eq : Bool) (cs : List (ByteArray × Int)) (hc : IsCoefs L w a len cap cs) (hL : Under L w.heap.size) (hm : len ≤ 1000000) (hz : checkS cs k = 0) (hl0 : len ≠ 0) :
    Calls Try.prog 14 #[.agg #[.slice a len cap, .int .i64 k, .bool eq]] w fun e w' => ∃ v, e = .returned v ∧ IsRow L w' v (tightS cs k eq) ∧ Ext w w' := by
  have HC := Lib.hid hc
  have HU := Lib.hid hL
  clear hc hL
  have HX : Hid (∀ w', Ext (((w.alloc (Obj.cells #[.slice a len cap, .int .i64 k, .bool eq] 26)).alloc (Obj.cells #[.slice none 0 0, .int .i64 0, .bool false] 26)).alloc (Obj.cells #[.slice a len cap, .int .i64 k] 24)) w' → Ext w w') :=
    Lib.hid fun w' h => (((Ext.alloc _ _).trans (Ext.alloc _ _)).trans (Ext.alloc _ _)).trans h
  have HK : Hid (∀ w', Ext (((w.alloc (Obj.cells #[.slice a len cap, .int .i64 k, .bool eq] 26)).alloc (Obj.cells #[.slice none 0 0, .int .i64 0, .bool false] 26)).alloc (Obj.cells #[.slice a len cap, .int .i64 k] 24)) w' →
      w'.heap[w.heap.size]? = some (.cells #[.slice a len cap, .int .i64 k, .bool eq] 26 (0, 0)) ∧ w'.heap[w.heap.size + 1]? = some (.cells #[.slice none 0 0, .int .i64 0, .bool false] 26 (0, 0)) ∧ w'.heap[w.heap.size + 2]? = some (.cells #[.slice a len cap, .int .i64 k] 24 (0, 0))) :=
    Lib.hid fun w' h => ⟨blk_ext (blk_ext (heap_new _ _) ((Ext.alloc _ _).trans (Ext.alloc _ _))) h, blk_ext (blk_ext (heap_new' (by simp)) (Ext.alloc _ _)) h, blk_ext (heap_new' (by simp)) h⟩
  have HE0 := Lib.hid hz
  have HRt := Lib.hid (checkS_zero hz)
  obtain ⟨hk0, hk1⟩ := HRt.out.const
  clear hz
  have hl1 : ((len : Int) == 0) = false := by simp; omega
  have hne : cs ≠ [] := fun h => hl0 (by rw [← HC.out.size, h]; rfl)
  have HN := Lib.hid hne
  have hg0 := gcdC_pos (g := 0) (.inr hne) HRt.out.nz
  have hg1 := gcdC_bd (g := 0) (by omega) HRt.out.nums
  generalize hgg : gcdC 0 cs = g at hg0 hg1
  have HG := Lib.hid hgg
  clear hne hgg hl0
  obtain ⟨m0, m1⟩ := tmod_bound hk0 hk1 (b := g)
  obtain ⟨d0, d1⟩ := tdiv_bound hk0 hk1 (b := g)
  have hgz : ((g : Int) == 0) = false := by simp; omega
  have HGZ : Hid ((g : Int) ≠ 0) := Lib.hid (by omega)
  cases eq
  case false =>
    have HS : Hid (tightS cs k false = (mapC (·.tdiv g) cs, -((-k) / (g : Int)), false)) := Lib.hid (by unfold tightS; rw [if_neg (by rw [HE0.out]; decide), if_neg HN.out, HG.out, if_neg (by simp)])
    have hq := div_bound (a := -k) (b := g) (by omega) (by omega) (by omega)
    obtain ⟨hq0, hq1⟩ := hq
    go_enter Try.func14, Try.ntmps14
    go_wp2_with (first | (go_at_call 24; refine (R11_Check _ a _ cap _ cs (HC.out.below (HX.out _ (Ext.refl _)))).mono ?_; rw [HE0.out]; rintro e w1 ⟨rfl, he⟩; have HA := Lib.hid he; obtain ⟨b0, b1, b2⟩ := HK.out _ he; clear he; have B0 := Lib.hid b0; have B1 := Lib.hid b1; have B2 := Lib.hid b2; have x0 := blk_cell b0 0 _ rfl; have x1 := blk_cell b0 1 _ rfl; have x2 := blk_cell b0 2 _ rfl; have y0 := blk_cell b2 0 _ rfl; have y1 := blk_cell b2 1 _ rfl; clear b0 b1 b2) | (go_at_call 33; refine (R11_common _ a _ cap _ cs (HC.out.below (HX.out _ HA.out)) hm HRt.out.nums).mono ?_; rw [HG.out]; rintro e w3 ⟨rfl, he⟩; have HA3 := Lib.hid (Ext.trans HA.out he); obtain ⟨b0, b1, b2⟩ := HK.out _ HA3.out; clear he; have p0 := blk_cell b0 0 _ rfl; have p1 := blk_cell b0 1 _ rfl; have p2 := blk_cell b0 2 _ rfl; have p3 := blk_cell b2 0 _ rfl; have p4 := blk_cell b2 1 _ rfl; have B3 := Lib.hid b1; have zz0 := blk_cell b1 0 _ rfl; have zz1 := blk_cell b1 1 _ rfl; have zz2 := blk_cell b1 2 _ rfl; have ff0 := blk_free b1 0; have ff1 := blk_free b1 1; have ff2 := blk_free b1 2; clear b0 b1 b2) | (go_at_call 38; refine (R01_Div _ _ _ (by omega) (by omega) (by omega) (by omega)).mono ?_; rintro e w4 ⟨rfl, he4⟩; have HA4 := Lib.hid (Ext.trans HA3.out he4); obtain ⟨b0, b1, b2⟩ := HK.out _ HA4.out; clear he4; have s0 := blk_cell b0 0 _ rfl; have s1 := blk_cell b0 1 _ rfl; have s2 := blk_cell b0 2 _ rfl; have s3 := blk_cell b2 0 _ rfl; have s4 := blk_cell b2 1 _ rfl; have B4 := Lib.hid b1; clear b0 b1 b2) | (go_at_call 34; refine (R11_divided _ a _ cap _ _ _ cs ((HC.out.cons (by omega)).below (HX.out _ HA4.out)) ((HU.out.below (HX.out _ HA4.out)).cons (blk_lt B4.out)) hm HGZ.out HRt.out.nums).mono ?_; rintro e w5 ⟨v, rfl, ⟨b, l, c, rfl, h⟩, he⟩; have b1 := blk_ext B4.out he; have HA5 := Lib.hid (Ext.trans HA4.out he); have HV := Lib.hid h; clear he h; have z0 := blk_cell b1 0 _ rfl; have z1 := blk_cell b1 1 _ rfl; have z2 := blk_cell b1 2 _ rfl; have f0 := blk_free b1 0; have f1 := blk_free b1 1; have f2 := blk_free b1 2; have BB := Lib.hid b1; clear b1))
    refine bodyPost_ret (res_Row rfl rfl BB.out) rfl ?_
    rw [HS.out]
    exact ⟨_, rfl, ⟨b, l, c, rfl, (((HV.out.set (by simp) _).set (by simp) _).set (by simp) _).tail⟩, (((HX.out _ HA5.out).set (by simp) _).set (by simp) _).set (by simp) _⟩
  case true =>
    cases hem : k.tmod g != 0
    case true =>
      have HS : Hid (tightS cs k true = ([], 1, false)) := Lib.hid (by unfold tightS; rw [if_neg (by rw [HE0.out]; decide), if_neg HN.out, HG.out, if_pos (by simpa using hem)])
      go_enter Try.func14, Try.ntmps14
      go_wp2_with (first | (go_at_call 24; refine (R11_Check _ a _ cap _ cs (HC.out.below (HX.out _ (Ext.refl _)))).mono ?_; rw [HE0.out]; rintro e w1 ⟨rfl, he⟩; have HA := Lib.hid he; obtain ⟨b0, b1, b2⟩ := HK.out _ he; clear he; have B0 := Lib.hid b0; have B1 := Lib.hid b1; have B2 := Lib.hid b2; have x0 := blk_cell b0 0 _ rfl; have x1 := blk_cell b0 1 _ rfl; have x2 := blk_cell b0 2 _ rfl; have y0 := blk_cell b2 0 _ rfl; have y1 := blk_cell b2 1 _ rfl; clear b0 b1 b2) | (go_at_call 33; refine (R11_common _ a _ cap _ cs (HC.out.below (HX.out _ HA.out)) hm HRt.out.nums).mono ?_; rw [HG.out]; rintro e w3 ⟨rfl, he⟩; have HA3 := Lib.hid (Ext.trans HA.out he); obtain ⟨b0, b1, b2⟩ := HK.out _ HA3.out; clear he; have p0 := blk_cell b0 0 _ rfl; have p1 := blk_cell b0 1 _ rfl; have p2 := blk_cell b0 2 _ rfl; have p3 := blk_cell b2 0 _ rfl; have p4 := blk_cell b2 1 _ rfl; have B3 := Lib.hid b1; have zz0 := blk_cell b1 0 _ rfl; have zz1 := blk_cell b1 1 _ rfl; have zz2 := blk_cell b1 2 _ rfl; have ff0 := blk_free b1 0; have ff1 := blk_free b1 1; have ff2 := blk_free b1 2; clear b0 b1 b2))
      refine bodyPost_ret (res_Row rfl rfl B3.out) rfl ?_
      rw [HS.out]
      exact ⟨_, rfl, isRow_nil _ _ _ _, (((HX.out _ HA3.out).set (by simp) _).set (by simp) _).set (by simp) _⟩
    case false =>
      have HS : Hid (tightS cs k true = (mapC (·.tdiv g) cs, k.tdiv g, true)) := Lib.hid (by unfold tightS; rw [if_neg (by rw [HE0.out]; decide), if_neg HN.out, HG.out, if_neg (by simpa using hem), tdiv_exact hg0 hem])
      go_enter Try.func14, Try.ntmps14
      go_wp2_with (first | (go_at_call 24; refine (R11_Check _ a _ cap _ cs (HC.out.below (HX.out _ (Ext.refl _)))).mono ?_; rw [HE0.out]; rintro e w1 ⟨rfl, he⟩; have HA := Lib.hid he; obtain ⟨b0, b1, b2⟩ := HK.out _ he; clear he; have B0 := Lib.hid b0; have B1 := Lib.hid b1; have B2 := Lib.hid b2; have x0 := blk_cell b0 0 _ rfl; have x1 := blk_cell b0 1 _ rfl; have x2 := blk_cell b0 2 _ rfl; have y0 := blk_cell b2 0 _ rfl; have y1 := blk_cell b2 1 _ rfl; clear b0 b1 b2) | (go_at_call 33; refine (R11_common _ a _ cap _ cs (HC.out.below (HX.out _ HA.out)) hm HRt.out.nums).mono ?_; rw [HG.out]; rintro e w3 ⟨rfl, he⟩; have HA3 := Lib.hid (Ext.trans HA.out he); obtain ⟨b0, b1, b2⟩ := HK.out _ HA3.out; clear he; have p0 := blk_cell b0 0 _ rfl; have p1 := blk_cell b0 1 _ rfl; have p2 := blk_cell b0 2 _ rfl; have p3 := blk_cell b2 0 _ rfl; have p4 := blk_cell b2 1 _ rfl; have B3 := Lib.hid b1; have zz0 := blk_cell b1 0 _ rfl; have zz1 := blk_cell b1 1 _ rfl; have zz2 := blk_cell b1 2 _ rfl; have ff0 := blk_free b1 0; have ff1 := blk_free b1 1; have ff2 := blk_free b1 2; clear b0 b1 b2))
      apply wp_region_ext [some 67, some 68, some 69, some 70, some 71, some 72, some 73, some 74, none] 9 8 [Is _, Is _, Is _, Is _, Is _, Is _, KLin ((w.heap.size + 1) :: L) (mapC (·.tdiv g) cs) (k.tdiv g), KRw ((w.heap.size + 1) :: L) (mapC (·.tdiv g) cs, k.tdiv g, true)] mixed rfl rfl (by decide) (by kernel_rfl)
      case hop =>
        refine allOps_cons ?o0 (allOps_cons ?o1 (allOps_cons ?o2 (allOps_cons ?o3 (allOps_cons ?o4 (allOps_cons ?o5 (allOps_cons ?o6 (allOps_cons ?o7 allOps_nil)))))))
        case o0 =>
          refine opGoal_plain rfl rfl (by simp) fun f w' hr hk => ?_
          have c0 := hr.cell p3
          have c1 := hr.cell p4
          have HR := Lib.hid hr
          clear hr
          simp [putD, depsO, depsL, phi, Is, KnowAll, Region.binds, put_some, put_none, KLin, KRw] at hk ⊢
          try simp only [hk]
          go_wp2
          exact onePost_is _ rfl rfl ⟨Ext.refl _, rfl⟩
        case o1 =>
          refine opGoal_plain rfl rfl (by simp) fun f w' hr hk => ?_
          have c0 := hr.cell p3
          have c1 := hr.cell p4
          have HR := Lib.hid hr
          clear hr
          simp [putD, depsO, depsL, phi, Is, KnowAll, Region.binds, put_some, put_none, KLin, KRw] at hk ⊢
          try simp only [hk]
          go_wp2
          exact onePost_is _ rfl rfl ⟨Ext.refl _, rfl⟩
        case o2 =>
          refine opGoal_plain rfl rfl (by simp) fun f w' hr hk => ?_
          have c0 := hr.cell p3
          have c1 := hr.cell p4
          have HR := Lib.hid hr
          clear hr
          simp [putD, depsO, depsL, phi, Is, KnowAll, Region.binds, put_some, put_none, KLin, KRw] at hk ⊢
          try simp only [hk]
          go_wp2
          exact onePost_is _ rfl rfl ⟨Ext.refl _, rfl⟩
        case o3 =>
          refine opGoal_plain rfl rfl (by simp) fun f w' hr hk => ?_
          have c0 := hr.cell p3
          have c1 := hr.cell p4
          have HR := Lib.hid hr
          clear hr
          simp [putD, depsO, depsL, phi, Is, KnowAll, Region.binds, put_some, put_none, KLin, KRw] at hk ⊢
          try simp only [hk]
          go_wp2
          exact onePost_is _ rfl rfl ⟨Ext.refl _, rfl⟩
        case o4 =>
          refine opGoal_plain rfl rfl (by simp) fun f w' hr hk => ?_
          have c0 := hr.cell p3
          have c1 := hr.cell p4
          have HR := Lib.hid hr
          clear hr
          simp [putD, depsO, depsL, phi, Is, KnowAll, Region.binds, put_some, put_none, KLin, KRw] at hk ⊢
          try simp only [hk]
          go_wp2
          exact onePost_is _ rfl rfl ⟨Ext.refl _, rfl⟩
        case o5 =>
          refine opGoal_plain rfl rfl (by simp) fun f w' hr hk => ?_
          have c0 := hr.cell p3
          have c1 := hr.cell p4
          have HR := Lib.hid hr
          clear hr
          simp [putD, depsO, depsL, phi, Is, KnowAll, Region.binds, put_some, put_none, KLin, KRw] at hk ⊢
          try simp only [hk]
          go_wp2
          exact onePost_is _ rfl rfl ⟨Ext.refl _, rfl⟩
        case o6 =>
          refine opGoal_plain rfl rfl (by simp) fun f w' hr hk => ?_
          have c0 := hr.cell p3
          have c1 := hr.cell p4
          have HR := Lib.hid hr
          clear hr
          simp [putD, depsO, depsL, phi, Is, KnowAll, Region.binds, put_some, put_none, KLin, KRw] at hk ⊢
          rw [hk.1, hk.2.1, hk.2.2]
          go_wp2_with (go_at_call 34; refine (R11_divided _ a _ cap _ _ _ cs ((HC.out.cons (by omega)).below (HX.out _ (Ext.trans HA3.out HR.out))) ((HU.out.below (HX.out _ (Ext.trans HA3.out HR.out))).cons (blk_lt (blk_ext B3.out HR.out))) hm HGZ.out HRt.out.nums).mono ?_; rintro e w5 ⟨v, rfl, hv, he⟩)
          exact ⟨rfl, rfl, he, hv⟩
        case o7 =>
          refine opGoal_plain rfl rfl (by simp) fun f w' hr hk => ?_
          have c0 := hr.cell p3
          have c1 := hr.cell p4
          have HR := Lib.hid hr
          clear hr
          simp [putD, depsO, depsL, phi, Is, KnowAll, Region.binds, put_some, put_none, KLin, KRw] at hk ⊢
          obtain ⟨b, l, c, e, h⟩ := hk
          rw [e]
          go_wp2
          exact ⟨rfl, rfl, Ext.refl _, b, l, c, rfl, h⟩
      case hend =>
        intro f w' hr hk
        simp [putD, phi, Is, KLin, KRw, KnowAll, List.range, List.range.loop, put_some, put_none] at hk ⊢
        obtain ⟨e0, e1, e2, e3, e4, e5, -, b, l, c, e7, h⟩ := hk
        have b1 := blk_ext B3.out hr
        have HR := Lib.hid (HX.out _ (Ext.trans HA3.out hr))
        clear hr
        have z0 := blk_cell b1 0 _ rfl
        have z1 := blk_cell b1 1 _ rfl
        have z2 := blk_cell b1 2 _ rfl
        have f0 := blk_free b1 0
        have f1 := blk_free b1 1
        have f2 := blk_free b1 2
        have BB := Lib.hid b1
        clear b1
        rw [e7]
        go_wp2
        refine bodyPost_ret (res_Row rfl rfl BB.out) rfl ?_
        rw [HS.out]
        exact ⟨_, rfl, ⟨b, l, c, rfl, (((h.set (by simp) _).set (by simp) _).set (by simp) _).tail⟩, ((HR.out.set (by simp) _).set (by simp) _).set (by simp) _⟩

theorem R11_Tight {L : List Nat} (w : World) (a : Option Addr) (len cap : Nat) (k : Int) (eq : Bool) (cs : List (ByteArray × Int)) (hc : IsCoefs L w a len cap cs) (hL : Under L w.heap.size) (hm : len ≤ 1000000) :
    Calls Try.prog 14 #[.agg #[.slice a len cap, .int .i64 k, .bool eq]] w fun e w' => ∃ v, e = .returned v ∧ IsRow L w' v (tightS cs k eq) ∧ Ext w w' := by
  by_cases hz : checkS cs k = 0
  · by_cases hl : len = 0
    · have hn : cs = [] := List.eq_nil_of_length_eq_zero (by rw [hc.size]; exact hl)
      rw [tightS_nil hz hn]
      rcases Int.lt_trichotomy k 0 with h | h | h
      · cases eq
        · have := R11_Tight_nil4 w a len cap k false cs hc hL hm hz hl rfl h
          simpa [show ¬ k = 0 by omega, h, verdictS] using this
        · have := R11_Tight_nil3 w a len cap k true cs hc hL hm hz hl rfl h
          simpa [show ¬ k = 0 by omega, h, verdictS] using this
      · cases eq
        · have := R11_Tight_nil2 w a len cap k false cs hc hL hm hz hl rfl h
          simpa [h, verdictS] using this
        · have := R11_Tight_nil1 w a len cap k true cs hc hL hm hz hl rfl h
          simpa [h, verdictS] using this
      · cases eq
        · have := R11_Tight_nil6 w a len cap k false cs hc hL hm hz hl rfl h
          simpa [show ¬ k = 0 by omega, show ¬ k < 0 by omega, verdictS] using this
        · have := R11_Tight_nil5 w a len cap k true cs hc hL hm hz hl rfl h
          simpa [show ¬ k = 0 by omega, show ¬ k < 0 by omega, verdictS] using this
    · exact R11_Tight_main w a len cap k eq cs hc hL hm hz hl
  · exact R11_Tight_bad w a len cap k eq cs hc hL hm hz
end Go.Proofs.Ytkghgdkkholieaa
