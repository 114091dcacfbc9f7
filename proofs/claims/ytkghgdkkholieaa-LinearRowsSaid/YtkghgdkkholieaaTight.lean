/-
  Walks: tight rows.
-/
import Derived.Test.YtkghgdkkholieaaTight0
namespace Go.Proofs.Ytkghgdkkholieaa
open Go.RowKit

/-- a row with the same integer solutions -/
def tightS (cs : List (ByteArray × Int)) (k : Int) (eq : Bool) : List (ByteArray × Int) × Int × Bool :=
  if checkS cs k ≠ 0 then (cs, k, eq)
  else if cs = [] then ([], verdictS (decide (k = 0) || (!eq && decide (k < 0))), false)
  else if eq && decide (k.tmod (gcdC 0 cs) ≠ 0) then ([], 1, false)
  else (mapC (·.tdiv (gcdC 0 cs)) cs, -((-k) / (gcdC 0 cs : Int)), eq)

/-- a row -/
def IsRow (L : List Nat) (w : World) (v : Value) (r : List (ByteArray × Int) × Int × Bool) : Prop := ∃ a len cap, v = .agg #[.slice a len cap, .int .i64 r.2.1, .bool r.2.2] ∧ IsCoefs L w a len cap r.1
def KRw (L : List Nat) (r : List (ByteArray × Int) × Int × Bool) : Know := ⟨fun w v => IsRow L w v r, fun _ _ _ h ⟨a, len, cap, e, x⟩ => ⟨a, len, cap, e, x.below h⟩⟩
theorem isRow_nil (L : List Nat) (w : World) (k : Int) (b : Bool) : IsRow L w (.agg #[.slice none 0 0, .int .i64 k, .bool b]) ([], k, b) := ⟨none, 0, 0, rfl, coefs_nil _ _⟩

set_option maxHeartbeats 1000000 in
theorem linear_Tight_bad {L : List Nat} (w : World) (a : Option Addr) (len cap : Nat) (k : Int) (eq : Bool) (cs : List (ByteArray × Int)) (hc : IsCoefs L w a len cap cs) (hL : Under L w.heap.size) (hm : len ≤ 1000000) (hz : checkS cs k ≠ 0) :
    Calls Try.prog 13 #[.agg #[.slice a len cap, .int .i64 k, .bool eq]] w fun e w' => ∃ v, e = .returned v ∧ IsRow L w' v (tightS cs k eq) ∧ Ext w w' := by
  have HC := Lib.hid hc
  have HU := Lib.hid hL
  clear hc hL
  have HX : Hid (∀ w', Ext (((w.alloc (Obj.cells #[.slice a len cap, .int .i64 k, .bool eq] 26)).alloc (Obj.cells #[.slice none 0 0, .int .i64 0, .bool false] 26)).alloc (Obj.cells #[.slice a len cap, .int .i64 k] 24)) w' → Ext w w') :=
    Lib.hid fun w' h => (((Ext.alloc _ _).trans (Ext.alloc _ _)).trans (Ext.alloc _ _)).trans h
  have HK : Hid (∀ w', Ext (((w.alloc (Obj.cells #[.slice a len cap, .int .i64 k, .bool eq] 26)).alloc (Obj.cells #[.slice none 0 0, .int .i64 0, .bool false] 26)).alloc (Obj.cells #[.slice a len cap, .int .i64 k] 24)) w' →
      w'.heap[w.heap.size]? = some (.cells #[.slice a len cap, .int .i64 k, .bool eq] 26 (0, 0)) ∧ w'.heap[w.heap.size + 1]? = some (.cells #[.slice none 0 0, .int .i64 0, .bool false] 26 (0, 0)) ∧ w'.heap[w.heap.size + 2]? = some (.cells #[.slice a len cap, .int .i64 k] 24 (0, 0))) :=
    Lib.hid fun w' h => ⟨blk_ext (blk_ext (heap_new _ _) ((Ext.alloc _ _).trans (Ext.alloc _ _))) h, blk_ext (blk_ext (heap_new' (by simp)) (Ext.alloc _ _)) h, blk_ext (heap_new' (by simp)) h⟩
  generalize he0 : checkS cs k = e0 at hz
  have HE0 := Lib.hid he0
  clear he0
  have h1 : (e0 != 0) = true := by simpa using hz
  have HZ := Lib.hid hz
  clear hz
  go_enter Try.func13, Try.ntmps13
  go_wp2_with (go_at_call 23; refine (linear_Check _ a _ cap _ cs (HC.out.below (HX.out _ (Ext.refl _)))).mono ?_; rw [HE0.out]; rintro e w1 ⟨rfl, he⟩; have HA := Lib.hid he; obtain ⟨b0, b1, b2⟩ := HK.out _ he; clear he; have B0 := Lib.hid b0; have B1 := Lib.hid b1; have B2 := Lib.hid b2; have x0 := blk_cell b0 0 _ rfl; have x1 := blk_cell b0 1 _ rfl; have x2 := blk_cell b0 2 _ rfl; have y0 := blk_cell b2 0 _ rfl; have y1 := blk_cell b2 1 _ rfl; clear b0 b1 b2)
  apply wp_region_ext [some 12, some 13, some 14, some 15, some 16, none] 6 5 [Is _, KLin ((w.heap.size + 1) :: L) cs k, Is _, Is _, KRw ((w.heap.size + 1) :: L) (cs, k, eq)] mixed rfl rfl (by decide) (by kernel_rfl)
  case hop =>
    refine allOps_cons ?o0 (allOps_cons ?o1 (allOps_cons ?o2 (allOps_cons ?o3 (allOps_cons ?o4 allOps_nil))))
    case o0 =>
      refine opGoal_plain rfl rfl (by simp) fun f w' hr hk => ?_
      have x0 := hr.cell y0
      have x1 := hr.cell y1
      have x2 := hr.cell x2
      have HR := Lib.hid hr
      clear hr
      simp [putD, depsO, depsL, phi, Is, KnowAll, Region.binds, put_some, put_none, KLin, KRw] at hk ⊢
      try simp only [hk]
      go_wp2
      exact onePost_is _ rfl rfl ⟨Ext.refl _, rfl⟩
    case o1 =>
      refine opGoal_plain rfl rfl (by simp) fun f w' hr hk => ?_
      have x0 := hr.cell y0
      have x1 := hr.cell y1
      have x2 := hr.cell x2
      have HR := Lib.hid hr
      clear hr
      simp [putD, depsO, depsL, phi, Is, KnowAll, Region.binds, put_some, put_none, KLin, KRw] at hk ⊢
      rw [hk]
      go_wp2_with (go_at_call 35; refine (linear_copied _ a len cap k cs ((HC.out.cons (by omega)).below (HX.out _ (Ext.trans HA.out HR.out))) ((HU.out.below (HX.out _ (Ext.trans HA.out HR.out))).cons (blk_lt (blk_ext B1.out HR.out))) hm).mono ?_; rintro e w2 ⟨v, rfl, hv, he⟩)
      exact ⟨rfl, rfl, he, hv⟩
    case o2 =>
      refine opGoal_plain rfl rfl (by simp) fun f w' hr hk => ?_
      have x0 := hr.cell y0
      have x1 := hr.cell y1
      have x2 := hr.cell x2
      have HR := Lib.hid hr
      clear hr
      simp [putD, depsO, depsL, phi, Is, KnowAll, Region.binds, put_some, put_none, KLin, KRw] at hk ⊢
      try simp only [hk]
      go_wp2
      exact onePost_is _ rfl rfl ⟨Ext.refl _, rfl⟩
    case o3 =>
      refine opGoal_plain rfl rfl (by simp) fun f w' hr hk => ?_
      have x0 := hr.cell y0
      have x1 := hr.cell y1
      have x2 := hr.cell x2
      have HR := Lib.hid hr
      clear hr
      simp [putD, depsO, depsL, phi, Is, KnowAll, Region.binds, put_some, put_none, KLin, KRw] at hk ⊢
      try simp only [hk]
      go_wp2
      exact onePost_is _ rfl rfl ⟨Ext.refl _, rfl⟩
    case o4 =>
      refine opGoal_plain rfl rfl (by simp) fun f w' hr hk => ?_
      have x0 := hr.cell y0
      have x1 := hr.cell y1
      have x2 := hr.cell x2
      have HR := Lib.hid hr
      clear hr
      simp [putD, depsO, depsL, phi, Is, KnowAll, Region.binds, put_some, put_none, KLin, KRw] at hk ⊢
      obtain ⟨⟨b, l, c, e, h⟩, e2⟩ := hk
      rw [e, e2]
      go_wp2
      exact ⟨rfl, rfl, Ext.refl _, b, l, c, rfl, h⟩
  case hend =>
    intro f w' hr hk
    simp [putD, phi, Is, KLin, KRw, KnowAll, List.range, List.range.loop, put_some, put_none] at hk ⊢
    obtain ⟨e0, -, e2, e3, b, l, c, e4, h⟩ := hk
    have b1 := blk_ext B1.out hr
    have HR := Lib.hid (HX.out _ (Ext.trans HA.out hr))
    clear hr
    have z0 := blk_cell b1 0 _ rfl
    have z1 := blk_cell b1 1 _ rfl
    have z2 := blk_cell b1 2 _ rfl
    have f0 := blk_free b1 0
    have f1 := blk_free b1 1
    have f2 := blk_free b1 2
    have BB := Lib.hid b1
    clear b1
    rw [e4]
    go_wp2
    refine bodyPost_ret (res_Row rfl rfl BB.out) rfl ?_
    have HS : tightS cs k eq = (cs, k, eq) := by unfold tightS; rw [if_pos (by rw [HE0.out]; exact HZ.out)]
    rw [HS]
    exact ⟨_, rfl, ⟨b, l, c, rfl, (((h.set (by simp) _).set (by simp) _).set (by simp) _).tail⟩, ((HR.out.set (by simp) _).set (by simp) _).set (by simp) _⟩
set_option maxHeartbeats 1000000 in
theorem linear_Tight_nil1 {L : List Nat} (w : World) (a : Option Addr) (len cap : Nat) (k : Int) (eq : Bool) (cs : List (ByteArray × Int)) (hc : IsCoefs L w a len cap cs) (hL : Under L w.heap.size) (hm : len ≤ 1000000) (hz : checkS cs k = 0) (hl0 : len = 0) (heq : eq = true) (h : k = 0) :
    Calls Try.prog 13 #[.agg #[.slice a len cap, .int .i64 k, .bool eq]] w fun e w' => ∃ v, e = .returned v ∧ IsRow L w' v ([], verdictS true, false) ∧ Ext w w' := by
  subst hl0 heq
  subst h
  have HC := Lib.hid hc
  have HU := Lib.hid hL
  clear hc hL
  have HX : Hid (∀ w', Ext (((w.alloc (Obj.cells #[.slice a 0 cap, .int .i64 0, .bool true] 26)).alloc (Obj.cells #[.slice none 0 0, .int .i64 0, .bool false] 26)).alloc (Obj.cells #[.slice a 0 cap, .int .i64 0] 24)) w' → Ext w w') :=
    Lib.hid fun w' h => (((Ext.alloc _ _).trans (Ext.alloc _ _)).trans (Ext.alloc _ _)).trans h
  have HK : Hid (∀ w', Ext (((w.alloc (Obj.cells #[.slice a 0 cap, .int .i64 0, .bool true] 26)).alloc (Obj.cells #[.slice none 0 0, .int .i64 0, .bool false] 26)).alloc (Obj.cells #[.slice a 0 cap, .int .i64 0] 24)) w' →
      w'.heap[w.heap.size]? = some (.cells #[.slice a 0 cap, .int .i64 0, .bool true] 26 (0, 0)) ∧ w'.heap[w.heap.size + 1]? = some (.cells #[.slice none 0 0, .int .i64 0, .bool false] 26 (0, 0)) ∧ w'.heap[w.heap.size + 2]? = some (.cells #[.slice a 0 cap, .int .i64 0] 24 (0, 0))) :=
    Lib.hid fun w' h => ⟨blk_ext (blk_ext (heap_new _ _) ((Ext.alloc _ _).trans (Ext.alloc _ _))) h, blk_ext (blk_ext (heap_new' (by simp)) (Ext.alloc _ _)) h, blk_ext (heap_new' (by simp)) h⟩
  have HE0 := Lib.hid hz
  clear hz
  go_enter Try.func13, Try.ntmps13
  go_wp2_with (first | (go_at_call 23; refine (linear_Check _ a _ cap _ cs (HC.out.below (HX.out _ (Ext.refl _)))).mono ?_; rw [HE0.out]; rintro e w1 ⟨rfl, he⟩; have HA := Lib.hid he; obtain ⟨b0, b1, b2⟩ := HK.out _ he; clear he; have B0 := Lib.hid b0; have B1 := Lib.hid b1; have B2 := Lib.hid b2; have x0 := blk_cell b0 0 _ rfl; have x1 := blk_cell b0 1 _ rfl; have x2 := blk_cell b0 2 _ rfl; have y0 := blk_cell b2 0 _ rfl; have y1 := blk_cell b2 1 _ rfl; clear b0 b1 b2) | (go_at_call 36; refine (linear_verdict _ _).mono ?_; rintro e w2 ⟨rfl, he⟩; have b1 := blk_ext B1.out he; have HR := Lib.hid (HX.out _ (Ext.trans HA.out he)); clear he; have z0 := blk_cell b1 0 _ rfl; have z1 := blk_cell b1 1 _ rfl; have z2 := blk_cell b1 2 _ rfl; have f0 := blk_free b1 0; have f1 := blk_free b1 1; have f2 := blk_free b1 2; have BB := Lib.hid b1; clear b1))
  refine bodyPost_ret (res_Row rfl rfl BB.out) rfl ?_
  exact ⟨_, rfl, isRow_nil _ _ _ _, ((HR.out.set (by simp) _).set (by simp) _).set (by simp) _⟩

set_option maxHeartbeats 1000000 in
theorem linear_Tight_nil2 {L : List Nat} (w : World) (a : Option Addr) (len cap : Nat) (k : Int) (eq : Bool) (cs : List (ByteArray × Int)) (hc : IsCoefs L w a len cap cs) (hL : Under L w.heap.size) (hm : len ≤ 1000000) (hz : checkS cs k = 0) (hl0 : len = 0) (heq : eq = false) (h : k = 0) :
    Calls Try.prog 13 #[.agg #[.slice a len cap, .int .i64 k, .bool eq]] w fun e w' => ∃ v, e = .returned v ∧ IsRow L w' v ([], verdictS true, false) ∧ Ext w w' := by
  subst hl0 heq
  subst h
  have HC := Lib.hid hc
  have HU := Lib.hid hL
  clear hc hL
  have HX : Hid (∀ w', Ext (((w.alloc (Obj.cells #[.slice a 0 cap, .int .i64 0, .bool false] 26)).alloc (Obj.cells #[.slice none 0 0, .int .i64 0, .bool false] 26)).alloc (Obj.cells #[.slice a 0 cap, .int .i64 0] 24)) w' → Ext w w') :=
    Lib.hid fun w' h => (((Ext.alloc _ _).trans (Ext.alloc _ _)).trans (Ext.alloc _ _)).trans h
  have HK : Hid (∀ w', Ext (((w.alloc (Obj.cells #[.slice a 0 cap, .int .i64 0, .bool false] 26)).alloc (Obj.cells #[.slice none 0 0, .int .i64 0, .bool false] 26)).alloc (Obj.cells #[.slice a 0 cap, .int .i64 0] 24)) w' →
      w'.heap[w.heap.size]? = some (.cells #[.slice a 0 cap, .int .i64 0, .bool false] 26 (0, 0)) ∧ w'.heap[w.heap.size + 1]? = some (.cells #[.slice none 0 0, .int .i64 0, .bool false] 26 (0, 0)) ∧ w'.heap[w.heap.size + 2]? = some (.cells #[.slice a 0 cap, .int .i64 0] 24 (0, 0))) :=
    Lib.hid fun w' h => ⟨blk_ext (blk_ext (heap_new _ _) ((Ext.alloc _ _).trans (Ext.alloc _ _))) h, blk_ext (blk_ext (heap_new' (by simp)) (Ext.alloc _ _)) h, blk_ext (heap_new' (by simp)) h⟩
  have HE0 := Lib.hid hz
  clear hz
  go_enter Try.func13, Try.ntmps13
  go_wp2_with (first | (go_at_call 23; refine (linear_Check _ a _ cap _ cs (HC.out.below (HX.out _ (Ext.refl _)))).mono ?_; rw [HE0.out]; rintro e w1 ⟨rfl, he⟩; have HA := Lib.hid he; obtain ⟨b0, b1, b2⟩ := HK.out _ he; clear he; have B0 := Lib.hid b0; have B1 := Lib.hid b1; have B2 := Lib.hid b2; have x0 := blk_cell b0 0 _ rfl; have x1 := blk_cell b0 1 _ rfl; have x2 := blk_cell b0 2 _ rfl; have y0 := blk_cell b2 0 _ rfl; have y1 := blk_cell b2 1 _ rfl; clear b0 b1 b2) | (go_at_call 36; refine (linear_verdict _ _).mono ?_; rintro e w2 ⟨rfl, he⟩; have b1 := blk_ext B1.out he; have HR := Lib.hid (HX.out _ (Ext.trans HA.out he)); clear he; have z0 := blk_cell b1 0 _ rfl; have z1 := blk_cell b1 1 _ rfl; have z2 := blk_cell b1 2 _ rfl; have f0 := blk_free b1 0; have f1 := blk_free b1 1; have f2 := blk_free b1 2; have BB := Lib.hid b1; clear b1))
  refine bodyPost_ret (res_Row rfl rfl BB.out) rfl ?_
  exact ⟨_, rfl, isRow_nil _ _ _ _, ((HR.out.set (by simp) _).set (by simp) _).set (by simp) _⟩

set_option maxHeartbeats 1000000 in
theorem linear_Tight_nil3 {L : List Nat} (w : World) (a : Option Addr) (len cap : Nat) (k : Int) (eq : Bool) (cs : List (ByteArray × Int)) (hc : IsCoefs L w a len cap cs) (hL : Under L w.heap.size) (hm : len ≤ 1000000) (hz : checkS cs k = 0) (hl0 : len = 0) (heq : eq = true) (h : k < 0) :
    Calls Try.prog 13 #[.agg #[.slice a len cap, .int .i64 k, .bool eq]] w fun e w' => ∃ v, e = .returned v ∧ IsRow L w' v ([], verdictS false, false) ∧ Ext w w' := by
  subst hl0 heq
  have q1 : (k == 0) = false := by simp; omega
  have q2 : decide (k < 0) = true := by simp; omega
  have HC := Lib.hid hc
  have HU := Lib.hid hL
  clear hc hL
  have HX : Hid (∀ w', Ext (((w.alloc (Obj.cells #[.slice a 0 cap, .int .i64 k, .bool true] 26)).alloc (Obj.cells #[.slice none 0 0, .int .i64 0, .bool false] 26)).alloc (Obj.cells #[.slice a 0 cap, .int .i64 k] 24)) w' → Ext w w') :=
    Lib.hid fun w' h => (((Ext.alloc _ _).trans (Ext.alloc _ _)).trans (Ext.alloc _ _)).trans h
  have HK : Hid (∀ w', Ext (((w.alloc (Obj.cells #[.slice a 0 cap, .int .i64 k, .bool true] 26)).alloc (Obj.cells #[.slice none 0 0, .int .i64 0, .bool false] 26)).alloc (Obj.cells #[.slice a 0 cap, .int .i64 k] 24)) w' →
      w'.heap[w.heap.size]? = some (.cells #[.slice a 0 cap, .int .i64 k, .bool true] 26 (0, 0)) ∧ w'.heap[w.heap.size + 1]? = some (.cells #[.slice none 0 0, .int .i64 0, .bool false] 26 (0, 0)) ∧ w'.heap[w.heap.size + 2]? = some (.cells #[.slice a 0 cap, .int .i64 k] 24 (0, 0))) :=
    Lib.hid fun w' h => ⟨blk_ext (blk_ext (heap_new _ _) ((Ext.alloc _ _).trans (Ext.alloc _ _))) h, blk_ext (blk_ext (heap_new' (by simp)) (Ext.alloc _ _)) h, blk_ext (heap_new' (by simp)) h⟩
  have HE0 := Lib.hid hz
  clear hz
  go_enter Try.func13, Try.ntmps13
  go_wp2_with (first | (go_at_call 23; refine (linear_Check _ a _ cap _ cs (HC.out.below (HX.out _ (Ext.refl _)))).mono ?_; rw [HE0.out]; rintro e w1 ⟨rfl, he⟩; have HA := Lib.hid he; obtain ⟨b0, b1, b2⟩ := HK.out _ he; clear he; have B0 := Lib.hid b0; have B1 := Lib.hid b1; have B2 := Lib.hid b2; have x0 := blk_cell b0 0 _ rfl; have x1 := blk_cell b0 1 _ rfl; have x2 := blk_cell b0 2 _ rfl; have y0 := blk_cell b2 0 _ rfl; have y1 := blk_cell b2 1 _ rfl; clear b0 b1 b2) | (go_at_call 36; refine (linear_verdict _ _).mono ?_; rintro e w2 ⟨rfl, he⟩; have b1 := blk_ext B1.out he; have HR := Lib.hid (HX.out _ (Ext.trans HA.out he)); clear he; have z0 := blk_cell b1 0 _ rfl; have z1 := blk_cell b1 1 _ rfl; have z2 := blk_cell b1 2 _ rfl; have f0 := blk_free b1 0; have f1 := blk_free b1 1; have f2 := blk_free b1 2; have BB := Lib.hid b1; clear b1))
  refine bodyPost_ret (res_Row rfl rfl BB.out) rfl ?_
  exact ⟨_, rfl, isRow_nil _ _ _ _, ((HR.out.set (by simp) _).set (by simp) _).set (by simp) _⟩

set_option maxHeartbeats 1000000 in
theorem linear_Tight_nil4 {L : List Nat} (w : World) (a : Option Addr) (len cap : Nat) (k : Int) (eq : Bool) (cs : List (ByteArray × Int)) (hc : IsCoefs L w a len cap cs) (hL : Under L w.heap.size) (hm : len ≤ 1000000) (hz : checkS cs k = 0) (hl0 : len = 0) (heq : eq = false) (h : k < 0) :
    Calls Try.prog 13 #[.agg #[.slice a len cap, .int .i64 k, .bool eq]] w fun e w' => ∃ v, e = .returned v ∧ IsRow L w' v ([], verdictS true, false) ∧ Ext w w' := by
  subst hl0 heq
  have q1 : (k == 0) = false := by simp; omega
  have q2 : decide (k < 0) = true := by simp; omega
  have HC := Lib.hid hc
  have HU := Lib.hid hL
  clear hc hL
  have HX : Hid (∀ w', Ext (((w.alloc (Obj.cells #[.slice a 0 cap, .int .i64 k, .bool false] 26)).alloc (Obj.cells #[.slice none 0 0, .int .i64 0, .bool false] 26)).alloc (Obj.cells #[.slice a 0 cap, .int .i64 k] 24)) w' → Ext w w') :=
    Lib.hid fun w' h => (((Ext.alloc _ _).trans (Ext.alloc _ _)).trans (Ext.alloc _ _)).trans h
  have HK : Hid (∀ w', Ext (((w.alloc (Obj.cells #[.slice a 0 cap, .int .i64 k, .bool false] 26)).alloc (Obj.cells #[.slice none 0 0, .int .i64 0, .bool false] 26)).alloc (Obj.cells #[.slice a 0 cap, .int .i64 k] 24)) w' →
      w'.heap[w.heap.size]? = some (.cells #[.slice a 0 cap, .int .i64 k, .bool false] 26 (0, 0)) ∧ w'.heap[w.heap.size + 1]? = some (.cells #[.slice none 0 0, .int .i64 0, .bool false] 26 (0, 0)) ∧ w'.heap[w.heap.size + 2]? = some (.cells #[.slice a 0 cap, .int .i64 k] 24 (0, 0))) :=
    Lib.hid fun w' h => ⟨blk_ext (blk_ext (heap_new _ _) ((Ext.alloc _ _).trans (Ext.alloc _ _))) h, blk_ext (blk_ext (heap_new' (by simp)) (Ext.alloc _ _)) h, blk_ext (heap_new' (by simp)) h⟩
  have HE0 := Lib.hid hz
  clear hz
  go_enter Try.func13, Try.ntmps13
  go_wp2_with (first | (go_at_call 23; refine (linear_Check _ a _ cap _ cs (HC.out.below (HX.out _ (Ext.refl _)))).mono ?_; rw [HE0.out]; rintro e w1 ⟨rfl, he⟩; have HA := Lib.hid he; obtain ⟨b0, b1, b2⟩ := HK.out _ he; clear he; have B0 := Lib.hid b0; have B1 := Lib.hid b1; have B2 := Lib.hid b2; have x0 := blk_cell b0 0 _ rfl; have x1 := blk_cell b0 1 _ rfl; have x2 := blk_cell b0 2 _ rfl; have y0 := blk_cell b2 0 _ rfl; have y1 := blk_cell b2 1 _ rfl; clear b0 b1 b2) | (go_at_call 36; refine (linear_verdict _ _).mono ?_; rintro e w2 ⟨rfl, he⟩; have b1 := blk_ext B1.out he; have HR := Lib.hid (HX.out _ (Ext.trans HA.out he)); clear he; have z0 := blk_cell b1 0 _ rfl; have z1 := blk_cell b1 1 _ rfl; have z2 := blk_cell b1 2 _ rfl; have f0 := blk_free b1 0; have f1 := blk_free b1 1; have f2 := blk_free b1 2; have BB := Lib.hid b1; clear b1))
  refine bodyPost_ret (res_Row rfl rfl BB.out) rfl ?_
  exact ⟨_, rfl, isRow_nil _ _ _ _, ((HR.out.set (by simp) _).set (by simp) _).set (by simp) _⟩

set_option maxHeartbeats 1000000 in
theorem linear_Tight_nil5 {L : List Nat} (w : World) (a : Option Addr) (len cap : Nat) (k : Int) (eq : Bool) (cs : List (ByteArray × Int)) (hc : IsCoefs L w a len cap cs) (hL : Under L w.heap.size) (hm : len ≤ 1000000) (hz : checkS cs k = 0) (hl0 : len = 0) (heq : eq = true) (h : 0 < k) :
    Calls Try.prog 13 #[.agg #[.slice a len cap, .int .i64 k, .bool eq]] w fun e w' => ∃ v, e = .returned v ∧ IsRow L w' v ([], verdictS false, false) ∧ Ext w w' := by
  subst hl0 heq
  have q1 : (k == 0) = false := by simp; omega
  have q2 : decide (k < 0) = false := by simp; omega
  have HC := Lib.hid hc
  have HU := Lib.hid hL
  clear hc hL
  have HX : Hid (∀ w', Ext (((w.alloc (Obj.cells #[.slice a 0 cap, .int .i64 k, .bool true] 26)).alloc (Obj.cells #[.slice none 0 0, .int .i64 0, .bool false] 26)).alloc (Obj.cells #[.slice a 0 cap, .int .i64 k] 24)) w' → Ext w w') :=
    Lib.hid fun w' h => (((Ext.alloc _ _).trans (Ext.alloc _ _)).trans (Ext.alloc _ _)).trans h
  have HK : Hid (∀ w', Ext (((w.alloc (Obj.cells #[.slice a 0 cap, .int .i64 k, .bool true] 26)).alloc (Obj.cells #[.slice none 0 0, .int .i64 0, .bool false] 26)).alloc (Obj.cells #[.slice a 0 cap, .int .i64 k] 24)) w' →
      w'.heap[w.heap.size]? = some (.cells #[.slice a 0 cap, .int .i64 k, .bool true] 26 (0, 0)) ∧ w'.heap[w.heap.size + 1]? = some (.cells #[.slice none 0 0, .int .i64 0, .bool false] 26 (0, 0)) ∧ w'.heap[w.heap.size + 2]? = some (.cells #[.slice a 0 cap, .int .i64 k] 24 (0, 0))) :=
    Lib.hid fun w' h => ⟨blk_ext (blk_ext (heap_new _ _) ((Ext.alloc _ _).trans (Ext.alloc _ _))) h, blk_ext (blk_ext (heap_new' (by simp)) (Ext.alloc _ _)) h, blk_ext (heap_new' (by simp)) h⟩
  have HE0 := Lib.hid hz
  clear hz
  go_enter Try.func13, Try.ntmps13
  go_wp2_with (first | (go_at_call 23; refine (linear_Check _ a _ cap _ cs (HC.out.below (HX.out _ (Ext.refl _)))).mono ?_; rw [HE0.out]; rintro e w1 ⟨rfl, he⟩; have HA := Lib.hid he; obtain ⟨b0, b1, b2⟩ := HK.out _ he; clear he; have B0 := Lib.hid b0; have B1 := Lib.hid b1; have B2 := Lib.hid b2; have x0 := blk_cell b0 0 _ rfl; have x1 := blk_cell b0 1 _ rfl; have x2 := blk_cell b0 2 _ rfl; have y0 := blk_cell b2 0 _ rfl; have y1 := blk_cell b2 1 _ rfl; clear b0 b1 b2) | (go_at_call 36; refine (linear_verdict _ _).mono ?_; rintro e w2 ⟨rfl, he⟩; have b1 := blk_ext B1.out he; have HR := Lib.hid (HX.out _ (Ext.trans HA.out he)); clear he; have z0 := blk_cell b1 0 _ rfl; have z1 := blk_cell b1 1 _ rfl; have z2 := blk_cell b1 2 _ rfl; have f0 := blk_free b1 0; have f1 := blk_free b1 1; have f2 := blk_free b1 2; have BB := Lib.hid b1; clear b1))
  refine bodyPost_ret (res_Row rfl rfl BB.out) rfl ?_
  exact ⟨_, rfl, isRow_nil _ _ _ _, ((HR.out.set (by simp) _).set (by simp) _).set (by simp) _⟩

set_option maxHeartbeats 1000000 in
theorem linear_Tight_nil6 {L : List Nat} (w : World) (a : Option Addr) (len cap : Nat) (k : Int) (eq : Bool) (cs : List (ByteArray × Int)) (hc : IsCoefs L w a len cap cs) (hL : Under L w.heap.size) (hm : len ≤ 1000000) (hz : checkS cs k = 0) (hl0 : len = 0) (heq : eq = false) (h : 0 < k) :
    Calls Try.prog 13 #[.agg #[.slice a len cap, .int .i64 k, .bool eq]] w fun e w' => ∃ v, e = .returned v ∧ IsRow L w' v ([], verdictS false, false) ∧ Ext w w' := by
  subst hl0 heq
  have q1 : (k == 0) = false := by simp; omega
  have q2 : decide (k < 0) = false := by simp; omega
  have HC := Lib.hid hc
  have HU := Lib.hid hL
  clear hc hL
  have HX : Hid (∀ w', Ext (((w.alloc (Obj.cells #[.slice a 0 cap, .int .i64 k, .bool false] 26)).alloc (Obj.cells #[.slice none 0 0, .int .i64 0, .bool false] 26)).alloc (Obj.cells #[.slice a 0 cap, .int .i64 k] 24)) w' → Ext w w') :=
    Lib.hid fun w' h => (((Ext.alloc _ _).trans (Ext.alloc _ _)).trans (Ext.alloc _ _)).trans h
  have HK : Hid (∀ w', Ext (((w.alloc (Obj.cells #[.slice a 0 cap, .int .i64 k, .bool false] 26)).alloc (Obj.cells #[.slice none 0 0, .int .i64 0, .bool false] 26)).alloc (Obj.cells #[.slice a 0 cap, .int .i64 k] 24)) w' →
      w'.heap[w.heap.size]? = some (.cells #[.slice a 0 cap, .int .i64 k, .bool false] 26 (0, 0)) ∧ w'.heap[w.heap.size + 1]? = some (.cells #[.slice none 0 0, .int .i64 0, .bool false] 26 (0, 0)) ∧ w'.heap[w.heap.size + 2]? = some (.cells #[.slice a 0 cap, .int .i64 k] 24 (0, 0))) :=
    Lib.hid fun w' h => ⟨blk_ext (blk_ext (heap_new _ _) ((Ext.alloc _ _).trans (Ext.alloc _ _))) h, blk_ext (blk_ext (heap_new' (by simp)) (Ext.alloc _ _)) h, blk_ext (heap_new' (by simp)) h⟩
  have HE0 := Lib.hid hz
  clear hz
  go_enter Try.func13, Try.ntmps13
  go_wp2_with (first | (go_at_call 23; refine (linear_Check _ a _ cap _ cs (HC.out.below (HX.out _ (Ext.refl _)))).mono ?_; rw [HE0.out]; rintro e w1 ⟨rfl, he⟩; have HA := Lib.hid he; obtain ⟨b0, b1, b2⟩ := HK.out _ he; clear he; have B0 := Lib.hid b0; have B1 := Lib.hid b1; have B2 := Lib.hid b2; have x0 := blk_cell b0 0 _ rfl; have x1 := blk_cell b0 1 _ rfl; have x2 := blk_cell b0 2 _ rfl; have y0 := blk_cell b2 0 _ rfl; have y1 := blk_cell b2 1 _ rfl; clear b0 b1 b2) | (go_at_call 36; refine (linear_verdict _ _).mono ?_; rintro e w2 ⟨rfl, he⟩; have b1 := blk_ext B1.out he; have HR := Lib.hid (HX.out _ (Ext.trans HA.out he)); clear he; have z0 := blk_cell b1 0 _ rfl; have z1 := blk_cell b1 1 _ rfl; have z2 := blk_cell b1 2 _ rfl; have f0 := blk_free b1 0; have f1 := blk_free b1 1; have f2 := blk_free b1 2; have BB := Lib.hid b1; clear b1))
  refine bodyPost_ret (res_Row rfl rfl BB.out) rfl ?_
  exact ⟨_, rfl, isRow_nil _ _ _ _, ((HR.out.set (by simp) _).set (by simp) _).set (by simp) _⟩

theorem tightS_nil {cs : List (ByteArray × Int)} {k : Int} {eq : Bool} (hz : checkS cs k = 0) (hn : cs = []) : tightS cs k eq = ([], verdictS (decide (k = 0) || (!eq && decide (k < 0))), false) := by
  unfold tightS; rw [if_neg (by rw [hz]; decide), if_pos hn]

set_option maxHeartbeats 1000000 in
theorem linear_Tight_main {L : List Nat} (w : World) (a : Option Addr) (len cap : Nat) (k : Int) (eq : Bool) (cs : List (ByteArray × Int)) (hc : IsCoefs L w a len cap cs) (hL : Under L w.heap.size) (hm : len ≤ 1000000) (hz : checkS cs k = 0) (hl0 : len ≠ 0) :
    Calls Try.prog 13 #[.agg #[.slice a len cap, .int .i64 k, .bool eq]] w fun e w' => ∃ v, e = .returned v ∧ IsRow L w' v (tightS cs k eq) ∧ Ext w w' := by
  have HC := Lib.hid hc
  have HU := Lib.hid hL
  clear hc hL
  have HX : Hid (∀ w', Ext (((w.alloc (Obj.cells #[.slice a len cap, .int .i64 k, .bool eq] 26)).alloc (Obj.cells #[.slice none 0 0, .int .i64 0, .bool false] 26)).alloc (Obj.cells #[.slice a len cap, .int .i64 k] 24)) w' → Ext w w') :=
    Lib.hid fun w' h => (((Ext.alloc _ _).trans (Ext.alloc _ _)).trans (Ext.alloc _ _)).trans h
  have HK : Hid (∀ w', Ext (((w.alloc (Obj.cells #[.slice a len cap, .int .i64 k, .bool eq] 26)).alloc (Obj.cells #[.slice none 0 0, .int .i64 0, .bool false] 26)).alloc (Obj.cells #[.slice a len cap, .int .i64 k] 24)) w' →
      w'.heap[w.heap.size]? = some (.cells #[.slice a len cap, .int .i64 k, .bool eq] 26 (0, 0)) ∧ w'.heap[w.heap.size + 1]? = some (.cells #[.slice none 0 0, .int .i64 0, .bool false] 26 (0, 0)) ∧ w'.heap[w.heap.size + 2]? = some (.cells #[.slice a len cap, .int .i64 k] 24 (0, 0))) :=
    Lib.hid fun w' h => ⟨blk_ext (blk_ext (heap_new _ _) ((Ext.alloc _ _).trans (Ext.alloc _ _))) h, blk_ext (blk_ext (heap_new' (by simp)) (Ext.alloc _ _)) h, blk_ext (heap_new' (by simp)) h⟩
  have HE0 := Lib.hid hz
  have HRt := Lib.hid (checkS_zero hz)
  obtain ⟨hk0, hk1⟩ := HRt.out.const
  clear hz
  have hl1 : ((len : Int) == 0) = false := by simp; omega
  have hne : cs ≠ [] := fun h => hl0 (by rw [← HC.out.size, h]; rfl)
  have HN := Lib.hid hne
  have hg0 := gcdC_pos (g := 0) (.inr hne) HRt.out.nz
  have hg1 := gcdC_bd (g := 0) (by omega) HRt.out.nums
  generalize hgg : gcdC 0 cs = g at hg0 hg1
  have HG := Lib.hid hgg
  clear hne hgg hl0
  obtain ⟨m0, m1⟩ := tmod_bound hk0 hk1 (b := g)
  have hgz : ((g : Int) == 0) = false := by simp; omega
  have HGZ : Hid ((g : Int) ≠ 0) := Lib.hid (by omega)
  cases hem : eq && decide (k.tmod g ≠ 0)
  case true =>
    obtain ⟨rfl, hem2⟩ : eq = true ∧ (k.tmod g != 0) = true := by simpa using hem
    clear hem
    have HS : Hid (tightS cs k true = ([], 1, false)) := Lib.hid (by unfold tightS; rw [if_neg (by rw [HE0.out]; decide), if_neg HN.out, HG.out, if_pos (by simpa using hem2)])
    go_enter Try.func13, Try.ntmps13
    go_wp2_with (first | (go_at_call 23; refine (linear_Check _ a _ cap _ cs (HC.out.below (HX.out _ (Ext.refl _)))).mono ?_; rw [HE0.out]; rintro e w1 ⟨rfl, he⟩; have HA := Lib.hid he; obtain ⟨b0, b1, b2⟩ := HK.out _ he; clear he; have B0 := Lib.hid b0; have B1 := Lib.hid b1; have B2 := Lib.hid b2; have x0 := blk_cell b0 0 _ rfl; have x1 := blk_cell b0 1 _ rfl; have x2 := blk_cell b0 2 _ rfl; have y0 := blk_cell b2 0 _ rfl; have y1 := blk_cell b2 1 _ rfl; clear b0 b1 b2) | (go_at_call 29; refine (linear_divisor0 _ a _ cap _ cs (HC.out.below (HX.out _ HA.out)) hm HRt.out.nums).mono ?_; rw [HG.out]; rintro e w3 ⟨rfl, he⟩; have HA3 := Lib.hid (Ext.trans HA.out he); obtain ⟨b0, b1, b2⟩ := HK.out _ HA3.out; clear he; have p0 := blk_cell b0 0 _ rfl; have p1 := blk_cell b0 1 _ rfl; have p2 := blk_cell b0 2 _ rfl; have p3 := blk_cell b2 0 _ rfl; have p4 := blk_cell b2 1 _ rfl; have B3 := Lib.hid b1; clear b0 b1 b2) | (go_at_call 36; refine (linear_verdict _ _).mono ?_; rintro e w2 ⟨rfl, he⟩; have b1 := blk_ext B3.out he; have b1 := blk_ext B3.out he; have HR := Lib.hid (HX.out _ (Ext.trans HA3.out he)); clear he; have z0 := blk_cell b1 0 _ rfl; have z1 := blk_cell b1 1 _ rfl; have z2 := blk_cell b1 2 _ rfl; have f0 := blk_free b1 0; have f1 := blk_free b1 1; have f2 := blk_free b1 2; have BB := Lib.hid b1; clear b1))
    refine bodyPost_ret (res_Row rfl rfl BB.out) rfl ?_
    rw [HS.out]
    exact ⟨_, rfl, isRow_nil _ _ _ _, ((HR.out.set (by simp) _).set (by simp) _).set (by simp) _⟩
  case false =>
    have HS : Hid (tightS cs k eq = (mapC (·.tdiv g) cs, -((-k) / (g : Int)), eq)) := Lib.hid (by unfold tightS; rw [if_neg (by rw [HE0.out]; decide), if_neg HN.out, HG.out, if_neg (by rw [hem]; decide)])
    have hem2 : eq = false ∨ eq = true ∧ (k.tmod g != 0) = false := by cases eq <;> simp_all
    clear hem
    have hq := div_bound (a := -k) (b := g) (by omega) (by omega) (by omega)
    obtain ⟨hq0, hq1⟩ := hq
    rcases hem2 with rfl | ⟨rfl, hem3⟩
    all_goals
      go_enter Try.func13, Try.ntmps13
      go_wp2_with (first | (go_at_call 23; refine (linear_Check _ a _ cap _ cs (HC.out.below (HX.out _ (Ext.refl _)))).mono ?_; rw [HE0.out]; rintro e w1 ⟨rfl, he⟩; have HA := Lib.hid he; obtain ⟨b0, b1, b2⟩ := HK.out _ he; clear he; have B0 := Lib.hid b0; have B1 := Lib.hid b1; have B2 := Lib.hid b2; have x0 := blk_cell b0 0 _ rfl; have x1 := blk_cell b0 1 _ rfl; have x2 := blk_cell b0 2 _ rfl; have y0 := blk_cell b2 0 _ rfl; have y1 := blk_cell b2 1 _ rfl; clear b0 b1 b2) | (go_at_call 29; refine (linear_divisor0 _ a _ cap _ cs (HC.out.below (HX.out _ HA.out)) hm HRt.out.nums).mono ?_; rw [HG.out]; rintro e w3 ⟨rfl, he⟩; have HA3 := Lib.hid (Ext.trans HA.out he); obtain ⟨b0, b1, b2⟩ := HK.out _ HA3.out; clear he; have p0 := blk_cell b0 0 _ rfl; have p1 := blk_cell b0 1 _ rfl; have p2 := blk_cell b0 2 _ rfl; have p3 := blk_cell b2 0 _ rfl; have p4 := blk_cell b2 1 _ rfl; have B3 := Lib.hid b1; clear b0 b1 b2) | (go_at_call 37; refine (num_Div _ _ _ (by omega) (by omega) (by omega) (by omega)).mono ?_; rintro e w4 ⟨rfl, he4⟩))
      have he4' : Ext _ _ := he4
      have y0 := he4'.cell p3
      have y1 := he4'.cell p4
      have y2 := he4'.cell p2
      have HE4 := Lib.hid (Ext.trans HA3.out he4')
      have B4 := Lib.hid (blk_ext B3.out he4')
      clear he4 he4'
      apply wp_region_ext [some 55, some 56, some 57, some 58, some 59, some 60, some 61, some 62, some 63, some 64, none] 11 10 [Is _, Is _, Is _, KL ((w.heap.size + 1) :: L) (mapC (·.tdiv g) cs), Is _, Is _, KLin ((w.heap.size + 1) :: L) (mapC (·.tdiv g) cs) (-(-k / (g : Int))), Is _, Is _, KRw ((w.heap.size + 1) :: L) (mapC (·.tdiv g) cs, -(-k / (g : Int)), _)] mixed rfl rfl (by decide) (by kernel_rfl)
      case hop =>
        refine allOps_cons ?o0 (allOps_cons ?o1 (allOps_cons ?o2 (allOps_cons ?o3 (allOps_cons ?o4 (allOps_cons ?o5 (allOps_cons ?o6 (allOps_cons ?o7 (allOps_cons ?o8 (allOps_cons ?o9 allOps_nil)))))))))
        case o0 =>
          refine opGoal_plain rfl rfl (by simp) fun f w' hr hk => ?_
          have c0 := hr.cell y0
          have c1 := hr.cell y1
          have c2 := hr.cell y2
          have HR := Lib.hid hr
          clear hr
          simp [putD, depsO, depsL, phi, Is, KnowAll, Region.binds, put_some, put_none, KL, KLin, KRw] at hk ⊢
          try simp only [hk]
          go_wp2
          exact onePost_is _ rfl rfl ⟨Ext.refl _, rfl⟩
        case o1 =>
          refine opGoal_plain rfl rfl (by simp) fun f w' hr hk => ?_
          have c0 := hr.cell y0
          have c1 := hr.cell y1
          have c2 := hr.cell y2
          have HR := Lib.hid hr
          clear hr
          simp [putD, depsO, depsL, phi, Is, KnowAll, Region.binds, put_some, put_none, KL, KLin, KRw] at hk ⊢
          try simp only [hk]
          go_wp2
          exact onePost_is _ rfl rfl ⟨Ext.refl _, rfl⟩
        case o2 =>
          refine opGoal_plain rfl rfl (by simp) fun f w' hr hk => ?_
          have c0 := hr.cell y0
          have c1 := hr.cell y1
          have c2 := hr.cell y2
          have HR := Lib.hid hr
          clear hr
          simp [putD, depsO, depsL, phi, Is, KnowAll, Region.binds, put_some, put_none, KL, KLin, KRw] at hk ⊢
          try simp only [hk]
          go_wp2
          exact onePost_is _ rfl rfl ⟨Ext.refl _, rfl⟩
        case o3 =>
          refine opGoal_plain rfl rfl (by simp) fun f w' hr hk => ?_
          have c0 := hr.cell y0
          have c1 := hr.cell y1
          have c2 := hr.cell y2
          have HR := Lib.hid hr
          clear hr
          simp [putD, depsO, depsL, phi, Is, KnowAll, Region.binds, put_some, put_none, KL, KLin, KRw] at hk ⊢
          rw [hk.1, hk.2]
          go_wp2_with (go_at_call 31; refine (linear_divided _ a len cap g cs ((HC.out.cons (by omega)).below (HX.out _ (Ext.trans HE4.out HR.out))) ((HU.out.below (HX.out _ (Ext.trans HE4.out HR.out))).cons (blk_lt (blk_ext B4.out HR.out))) hm HGZ.out HRt.out.nums).mono ?_; rintro e w2 ⟨v, rfl, hv, he⟩)
          exact ⟨rfl, rfl, he, hv⟩
        case o4 =>
          refine opGoal_plain rfl rfl (by simp) fun f w' hr hk => ?_
          have c0 := hr.cell y0
          have c1 := hr.cell y1
          have c2 := hr.cell y2
          have HR := Lib.hid hr
          clear hr
          simp [putD, depsO, depsL, phi, Is, KnowAll, Region.binds, put_some, put_none, KL, KLin, KRw] at hk ⊢
          try simp only [hk]
          go_wp2
          exact onePost_is _ rfl rfl ⟨Ext.refl _, rfl⟩
        case o5 =>
          refine opGoal_plain rfl rfl (by simp) fun f w' hr hk => ?_
          have c0 := hr.cell y0
          have c1 := hr.cell y1
          have c2 := hr.cell y2
          have HR := Lib.hid hr
          clear hr
          simp [putD, depsO, depsL, phi, Is, KnowAll, Region.binds, put_some, put_none, KL, KLin, KRw] at hk ⊢
          try simp only [hk]
          go_wp2
          exact onePost_is _ rfl rfl ⟨Ext.refl _, rfl⟩
        case o6 =>
          refine opGoal_plain rfl rfl (by simp) fun f w' hr hk => ?_
          have c0 := hr.cell y0
          have c1 := hr.cell y1
          have c2 := hr.cell y2
          have HR := Lib.hid hr
          clear hr
          simp [putD, depsO, depsL, phi, Is, KnowAll, Region.binds, put_some, put_none, KL, KLin, KRw] at hk ⊢
          obtain ⟨⟨b, l, c, e, h⟩, e2⟩ := hk
          rw [e, e2]
          go_wp2
          exact ⟨rfl, rfl, Ext.refl _, b, l, c, rfl, h⟩
        case o7 =>
          refine opGoal_plain rfl rfl (by simp) fun f w' hr hk => ?_
          have c0 := hr.cell y0
          have c1 := hr.cell y1
          have c2 := hr.cell y2
          have HR := Lib.hid hr
          clear hr
          simp [putD, depsO, depsL, phi, Is, KnowAll, Region.binds, put_some, put_none, KL, KLin, KRw] at hk ⊢
          try simp only [hk]
          go_wp2
          exact onePost_is _ rfl rfl ⟨Ext.refl _, rfl⟩
        case o8 =>
          refine opGoal_plain rfl rfl (by simp) fun f w' hr hk => ?_
          have c0 := hr.cell y0
          have c1 := hr.cell y1
          have c2 := hr.cell y2
          have HR := Lib.hid hr
          clear hr
          simp [putD, depsO, depsL, phi, Is, KnowAll, Region.binds, put_some, put_none, KL, KLin, KRw] at hk ⊢
          try simp only [hk]
          go_wp2
          exact onePost_is _ rfl rfl ⟨Ext.refl _, rfl⟩
        case o9 =>
          refine opGoal_plain rfl rfl (by simp) fun f w' hr hk => ?_
          have c0 := hr.cell y0
          have c1 := hr.cell y1
          have c2 := hr.cell y2
          have HR := Lib.hid hr
          clear hr
          simp [putD, depsO, depsL, phi, Is, KnowAll, Region.binds, put_some, put_none, KL, KLin, KRw] at hk ⊢
          obtain ⟨⟨b, l, c, e, h⟩, e2⟩ := hk
          rw [e, e2]
          go_wp2
          exact ⟨rfl, rfl, Ext.refl _, b, l, c, rfl, h⟩
      case hend =>
        intro f w' hr hk
        simp [putD, phi, Is, KL, KLin, KRw, KnowAll, List.range, List.range.loop, put_some, put_none] at hk ⊢
        obtain ⟨e0, e1, e2, -, e4, e5, -, e7, e8, b, l, c, e9, h⟩ := hk
        have b1 := blk_ext B4.out hr
        have HR := Lib.hid (HX.out _ (Ext.trans HE4.out hr))
        clear hr
        have z0 := blk_cell b1 0 _ rfl
        have z1 := blk_cell b1 1 _ rfl
        have z2 := blk_cell b1 2 _ rfl
        have f0 := blk_free b1 0
        have f1 := blk_free b1 1
        have f2 := blk_free b1 2
        have BB := Lib.hid b1
        clear b1
        rw [e9]
        go_wp2
        refine bodyPost_ret (res_Row rfl rfl BB.out) rfl ?_
        rw [HS.out]
        exact ⟨_, rfl, ⟨b, l, c, rfl, (((h.set (by simp) _).set (by simp) _).set (by simp) _).tail⟩, ((HR.out.set (by simp) _).set (by simp) _).set (by simp) _⟩

theorem linear_Tight {L : List Nat} (w : World) (a : Option Addr) (len cap : Nat) (k : Int) (eq : Bool) (cs : List (ByteArray × Int)) (hc : IsCoefs L w a len cap cs) (hL : Under L w.heap.size) (hm : len ≤ 1000000) :
    Calls Try.prog 13 #[.agg #[.slice a len cap, .int .i64 k, .bool eq]] w fun e w' => ∃ v, e = .returned v ∧ IsRow L w' v (tightS cs k eq) ∧ Ext w w' := by
  by_cases hz : checkS cs k = 0
  · by_cases hl : len = 0
    · have hn : cs = [] := List.eq_nil_of_length_eq_zero (by rw [hc.size]; exact hl)
      rw [tightS_nil hz hn]
      rcases Int.lt_trichotomy k 0 with h | h | h
      · cases eq
        · have := linear_Tight_nil4 w a len cap k false cs hc hL hm hz hl rfl h
          simpa [show ¬ k = 0 by omega, h] using this
        · have := linear_Tight_nil3 w a len cap k true cs hc hL hm hz hl rfl h
          simpa [show ¬ k = 0 by omega, h] using this
      · cases eq
        · have := linear_Tight_nil2 w a len cap k false cs hc hL hm hz hl rfl h
          simpa [h] using this
        · have := linear_Tight_nil1 w a len cap k true cs hc hL hm hz hl rfl h
          simpa [h] using this
      · cases eq
        · have := linear_Tight_nil6 w a len cap k false cs hc hL hm hz hl rfl h
          simpa [show ¬ k = 0 by omega, show ¬ k < 0 by omega] using this
        · have := linear_Tight_nil5 w a len cap k true cs hc hL hm hz hl rfl h
          simpa [show ¬ k = 0 by omega, show ¬ k < 0 by omega] using this
    · exact linear_Tight_main w a len cap k eq cs hc hL hm hz hl
  · exact linear_Tight_bad w a len cap k eq cs hc hL hm hz

/-- append to an empty slice without room: a copy -/
theorem wpList_append_copy {w : World} {ops : Array Oper} {rest : List Oper} {o : Oper} {ac : Act} {Q : Exit → Act → World → Prop} (hg : o.guard = none) (s x : Operand) (hop : o.op = Op.call { callee := Callee.builtin Builtin.append, args := #[s, x], argTypes := #[22, 22] })
    {b : Nat} (hs : ac.eval s = .slice (some ⟨b, 0, none⟩) 0 0) (hb : w.heap[b]? = some (.cells #[] 37 (0, 0))) {L : List Nat} {a : Option Addr} {len cap : Nat} {cs : List (ByteArray × Int)} (hx : ac.eval x = .slice a len cap) (hc : IsCoefs L w a len cap cs) (hL : Under L w.heap.size) (hm : len ≤ 1000000)
    (hK : ∀ v' w', IsL L w' v' cs → Ext w w' → wpList Try.prog ops Q rest (ac.put o.dst v') w') : wpList Try.prog ops Q (o :: rest) ac w := by
  obtain ⟨i0, hi, hz0, hz1, hz2⟩ := info_parts Try.info37
  cases a with
  | none =>
    obtain ⟨rfl, rfl, rfl⟩ := hc.nil
    have hown : w.ownsRow b 37 2 (.slice (some ⟨b, 0, none⟩) 0 0) 0 [] := ⟨by simp, .inr ⟨b, 0, #[], rfl, Nat.le_refl _, hb, Nat.le_refl _, by unfold maxLen; omega, by simp, by simp⟩⟩
    exact wpList_append_own_none hg s x 22 hop b 37 i0 2 Try.underlying22 hi _ 0 [] hs hown hx (hK _ _ ⟨some ⟨b, 0, none⟩, 0, 0, rfl, ⟨rfl, Nat.le_refl _, fun h => by simp at h, fun i h => by simp at h⟩⟩ (Ext.refl _))
  | some ad =>
    refine wpList_append_arg w hg s x 22 hop 37 i0 _ 2 24 Try.underlying22 hi hz0 hz1 hz2 rfl (by decide) b 0 0 0 [] hs (by simp) (fun j u h => by simp at h) ad len cap (flatC cs) hx (by rw [flatC_len, hc.size]) (fun j u h => (cells_of_coefs hc j u h).1) (flatC_one cs) ?_ (by unfold maxLen; omega) (by omega) ?_ ?_
    · intro h j hj
      obtain rfl : len = 0 := by omega
      rw [flatC_len, hc.size] at hj
      omega
    · intro h
      obtain rfl : len = 0 := by omega
      obtain rfl : cs = [] := List.eq_nil_of_length_eq_zero hc.size
      exact hK _ _ ⟨some ⟨b, 0, none⟩, 0, 0, rfl, ⟨rfl, Nat.le_refl _, fun h => by simp at h, fun i h => by simp at h⟩⟩ (Ext.refl _)
    · intro h v' w' hown hgrow
      rw [List.nil_append, Nat.zero_add] at hown
      exact hK v' w' (isL_of_row hown hL) ⟨hgrow.os, hgrow.tape, hgrow.output, hgrow.size, fun k hk => hgrow.block k hk (by simp)⟩
end Go.Proofs.Ytkghgdkkholieaa
