/-
  Walks: the canonical form of a form and its sign.
-/
import Derived.Test.YtkghgdkkholieaaTight2
namespace Go.Proofs.Ytkghgdkkholieaa
open Go.RowKit

/-- the sign of the first coefficient -/
def signC (cs : List (ByteArray × Int)) : Int := match cs with | [] => 1 | c :: _ => if c.2 < 0 then -1 else 1
/-- the canonical form and its sign -/
def formS (cs : List (ByteArray × Int)) (k : Int) : List (ByteArray × Int) × Int × Int :=
  if checkS cs k ≠ 0 then ([], 0, 0)
  else if cs = [] then (if 0 < k then ([], 1, 1) else if k < 0 then ([], 1, -1) else ([], 0, 1))
  else (mapC (·.tdiv (gcdC k.natAbs cs * signC cs)) cs, k.tdiv (gcdC k.natAbs cs * signC cs), signC cs)
theorem gcdC_split (g : Nat) (cs : List (ByteArray × Int)) : gcdC g cs = Nat.gcd (gcdC 0 cs) g := by
  have key : ∀ (cs : List (ByteArray × Int)) (g h : Nat), gcdC (Nat.gcd g h) cs = Nat.gcd g (gcdC h cs) := by
    intro cs
    induction cs with
    | nil => intro g h; rfl
    | cons c cs ih =>
      intro g h
      show gcdC (Int.gcd (Nat.gcd g h) c.2) cs = Nat.gcd g (gcdC (Int.gcd h c.2) cs)
      rw [← ih]
      congr 1
      show Nat.gcd (Nat.gcd g h) c.2.natAbs = Nat.gcd g (Nat.gcd h c.2.natAbs)
      exact Nat.gcd_assoc _ _ _
  have h1 := key cs g 0
  rw [Nat.gcd_zero_right] at h1
  rw [h1, Nat.gcd_comm]
theorem gcd_common (k : Int) (cs : List (ByteArray × Int)) : Int.gcd (gcdC 0 cs) k = gcdC k.natAbs cs := by rw [gcdC_split k.natAbs]; rfl

def divC (g : Int) (cs : List (ByteArray × Int)) : List (ByteArray × Int) := mapC (·.tdiv g) cs
theorem res_FormB {fn : Func} {p u : Tmp} {tmps : Array Value} {w : World} {V : Nat} {x y : Value} {t : TypeId} (hf : fn.results = #[.cell p 24, .tmp u]) (hp : tmps.getD p undef = .pointer (some ⟨V, 0, none⟩)) (h : w.heap[V]? = some (.cells #[x, y] t (0, 0))) :
    (results fn tmps).run Try.prog w = .ok (.tuple #[.agg #[x, y], tmps.getD u undef]) w := by
  rw [Array.getD_eq_getD_getElem?] at hp
  simp [results, hf, go_sem, hp, blk_cell h 0 _ rfl, blk_cell h 1 _ rfl]
theorem ret_Form {L : List Nat} {w : World} {k s : Int} {a : Option Addr} {l c : Nat} {cs : List (ByteArray × Int)} (h : IsCoefs L w a l c cs) :
    ∃ v, Ending.returned (.tuple #[.agg #[.slice a l c, .int .i64 k], .int .i64 s]) = .returned (.tuple #[v, .int .i64 s]) ∧ IsLin L w v cs k := ⟨_, rfl, _, _, _, rfl, h⟩
theorem res_Form {fn : Func} {p u : Tmp} {tmps : Array Value} {w : World} {V : Nat} {o0 o1 x y : Value} {t : TypeId} (hf : fn.results = #[.cell p 24, .tmp u]) (hp : tmps.getD p undef = .pointer (some ⟨V, 0, none⟩)) (h : w.heap[V]? = some (.cells #[o0, o1] t (0, 0))) :
    (results fn tmps).run Try.prog ((w.setCell ⟨V, 0, none⟩ x).setCell ⟨V, 1, none⟩ y) = .ok (.tuple #[.agg #[x, y], tmps.getD u undef]) ((w.setCell ⟨V, 0, none⟩ x).setCell ⟨V, 1, none⟩ y) := by
  have BZ := blk_set (blk_set h 0 x) 1 y
  rw [Array.getD_eq_getD_getElem?] at hp
  simp [results, hf, go_sem, hp, blk_cell BZ 0 _ rfl, blk_cell BZ 1 _ rfl]

set_option maxHeartbeats 1000000 in
theorem linear_Form_bad {L : List Nat} (w : World) (a : Option Addr) (len cap : Nat) (k : Int) (cs : List (ByteArray × Int)) (hc : IsCoefs L w a len cap cs) (hL : Under L w.heap.size) (hm : len ≤ 1000000) (hz : checkS cs k ≠ 0) :
    Calls Try.prog 10 #[.agg #[.slice a len cap, .int .i64 k]] w fun e w' => (∃ v, e = .returned (.tuple #[v, .int .i64 0]) ∧ IsLin L w' v [] 0) ∧ Ext w w' := by
  have HC := Lib.hid hc
  have HU := Lib.hid hL
  clear hc hL
  have HX : Hid (∀ w', Ext ((w.alloc (Obj.cells #[.slice a len cap, .int .i64 k] 24)).alloc (Obj.cells #[.slice none 0 0, .int .i64 0] 24)) w' → Ext w w') :=
    Lib.hid fun w' h => ((Ext.alloc _ _).trans (Ext.alloc _ _)).trans h
  have HK : Hid (∀ w', Ext ((w.alloc (Obj.cells #[.slice a len cap, .int .i64 k] 24)).alloc (Obj.cells #[.slice none 0 0, .int .i64 0] 24)) w' →
      w'.heap[w.heap.size]? = some (.cells #[.slice a len cap, .int .i64 k] 24 (0, 0)) ∧ w'.heap[w.heap.size + 1]? = some (.cells #[.slice none 0 0, .int .i64 0] 24 (0, 0))) :=
    Lib.hid fun w' h => ⟨blk_ext (blk_ext (heap_new _ _) (Ext.alloc _ _)) h, blk_ext (heap_new' (by simp)) h⟩
  generalize he0 : checkS cs k = e0 at hz
  have HE0 := Lib.hid he0
  clear he0
  have h1 : (e0 != 0) = true := by simpa using hz
  have HZ := Lib.hid hz
  clear hz
  go_enter Try.func10, Try.ntmps10
  go_wp2_with (go_at_call 23; refine (linear_Check _ _ _ _ _ cs (HC.out.below (HX.out _ (Ext.refl _)))).mono ?_; rw [HE0.out]; rintro e w1 ⟨rfl, he⟩; have HA := Lib.hid he; obtain ⟨b0, b1⟩ := HK.out _ he; clear he; have x0 := blk_cell b0 0 _ rfl; have x1 := blk_cell b0 1 _ rfl; have z0 := blk_cell b1 0 _ rfl; have z1 := blk_cell b1 1 _ rfl; have f0 := blk_free b1 0; have f1 := blk_free b1 1; have B1 := Lib.hid b1; clear b0 b1)
  refine bodyPost_ret (res_Form rfl rfl B1.out) rfl ?_
  exact ⟨ret_Form (coefs_nil _ _), ((HX.out _ HA.out).set (by simp) _).set (by simp) _⟩

set_option maxHeartbeats 1000000 in
theorem linear_Form_nil1 {L : List Nat} (w : World) (a : Option Addr) (len cap : Nat) (k : Int) (cs : List (ByteArray × Int)) (hc : IsCoefs L w a len cap cs) (hL : Under L w.heap.size) (hm : len ≤ 1000000) (hz : checkS cs k = 0) (hl0 : len = 0) (h : k = 0) :
    Calls Try.prog 10 #[.agg #[.slice a len cap, .int .i64 k]] w fun e w' => (∃ v, e = .returned (.tuple #[v, .int .i64 1]) ∧ IsLin L w' v [] 0) ∧ Ext w w' := by
  subst hl0
  subst h
  have HC := Lib.hid hc
  have HU := Lib.hid hL
  clear hc hL
  have HX : Hid (∀ w', Ext ((w.alloc (Obj.cells #[.slice a 0 cap, .int .i64 0] 24)).alloc (Obj.cells #[.slice none 0 0, .int .i64 0] 24)) w' → Ext w w') :=
    Lib.hid fun w' h => ((Ext.alloc _ _).trans (Ext.alloc _ _)).trans h
  have HK : Hid (∀ w', Ext ((w.alloc (Obj.cells #[.slice a 0 cap, .int .i64 0] 24)).alloc (Obj.cells #[.slice none 0 0, .int .i64 0] 24)) w' →
      w'.heap[w.heap.size]? = some (.cells #[.slice a 0 cap, .int .i64 0] 24 (0, 0)) ∧ w'.heap[w.heap.size + 1]? = some (.cells #[.slice none 0 0, .int .i64 0] 24 (0, 0))) :=
    Lib.hid fun w' h => ⟨blk_ext (blk_ext (heap_new _ _) (Ext.alloc _ _)) h, blk_ext (heap_new' (by simp)) h⟩
  have HE0 := Lib.hid hz
  clear hz
  go_enter Try.func10, Try.ntmps10
  go_wp2_with (go_at_call 23; refine (linear_Check _ _ _ _ _ cs (HC.out.below (HX.out _ (Ext.refl _)))).mono ?_; rw [HE0.out]; rintro e w1 ⟨rfl, he⟩; have HA := Lib.hid he; obtain ⟨b0, b1⟩ := HK.out _ he; clear he; have x0 := blk_cell b0 0 _ rfl; have x1 := blk_cell b0 1 _ rfl; have z0 := blk_cell b1 0 _ rfl; have z1 := blk_cell b1 1 _ rfl; have f0 := blk_free b1 0; have f1 := blk_free b1 1; have B1 := Lib.hid b1; clear b0 b1)
  refine bodyPost_ret (res_Form rfl rfl B1.out) rfl ?_
  exact ⟨ret_Form (coefs_nil _ _), ((HX.out _ HA.out).set (by simp) _).set (by simp) _⟩

set_option maxHeartbeats 1000000 in
theorem linear_Form_nil2 {L : List Nat} (w : World) (a : Option Addr) (len cap : Nat) (k : Int) (cs : List (ByteArray × Int)) (hc : IsCoefs L w a len cap cs) (hL : Under L w.heap.size) (hm : len ≤ 1000000) (hz : checkS cs k = 0) (hl0 : len = 0) (h : k < 0) :
    Calls Try.prog 10 #[.agg #[.slice a len cap, .int .i64 k]] w fun e w' => (∃ v, e = .returned (.tuple #[v, .int .i64 (-1)]) ∧ IsLin L w' v [] 1) ∧ Ext w w' := by
  subst hl0
  have q1 : decide (0 < k) = false := by simp; omega
  have q2 : decide (k < 0) = true := by simp; omega
  have HC := Lib.hid hc
  have HU := Lib.hid hL
  clear hc hL
  have HX : Hid (∀ w', Ext ((w.alloc (Obj.cells #[.slice a 0 cap, .int .i64 k] 24)).alloc (Obj.cells #[.slice none 0 0, .int .i64 0] 24)) w' → Ext w w') :=
    Lib.hid fun w' h => ((Ext.alloc _ _).trans (Ext.alloc _ _)).trans h
  have HK : Hid (∀ w', Ext ((w.alloc (Obj.cells #[.slice a 0 cap, .int .i64 k] 24)).alloc (Obj.cells #[.slice none 0 0, .int .i64 0] 24)) w' →
      w'.heap[w.heap.size]? = some (.cells #[.slice a 0 cap, .int .i64 k] 24 (0, 0)) ∧ w'.heap[w.heap.size + 1]? = some (.cells #[.slice none 0 0, .int .i64 0] 24 (0, 0))) :=
    Lib.hid fun w' h => ⟨blk_ext (blk_ext (heap_new _ _) (Ext.alloc _ _)) h, blk_ext (heap_new' (by simp)) h⟩
  have HE0 := Lib.hid hz
  clear hz
  go_enter Try.func10, Try.ntmps10
  go_wp2_with (go_at_call 23; refine (linear_Check _ _ _ _ _ cs (HC.out.below (HX.out _ (Ext.refl _)))).mono ?_; rw [HE0.out]; rintro e w1 ⟨rfl, he⟩; have HA := Lib.hid he; obtain ⟨b0, b1⟩ := HK.out _ he; clear he; have x0 := blk_cell b0 0 _ rfl; have x1 := blk_cell b0 1 _ rfl; have z0 := blk_cell b1 0 _ rfl; have z1 := blk_cell b1 1 _ rfl; have f0 := blk_free b1 0; have f1 := blk_free b1 1; have B1 := Lib.hid b1; clear b0 b1)
  refine bodyPost_ret (res_Form rfl rfl B1.out) rfl ?_
  exact ⟨ret_Form (coefs_nil _ _), ((HX.out _ HA.out).set (by simp) _).set (by simp) _⟩

set_option maxHeartbeats 1000000 in
theorem linear_Form_nil3 {L : List Nat} (w : World) (a : Option Addr) (len cap : Nat) (k : Int) (cs : List (ByteArray × Int)) (hc : IsCoefs L w a len cap cs) (hL : Under L w.heap.size) (hm : len ≤ 1000000) (hz : checkS cs k = 0) (hl0 : len = 0) (h : 0 < k) :
    Calls Try.prog 10 #[.agg #[.slice a len cap, .int .i64 k]] w fun e w' => (∃ v, e = .returned (.tuple #[v, .int .i64 1]) ∧ IsLin L w' v [] 1) ∧ Ext w w' := by
  subst hl0
  have q1 : decide (0 < k) = true := by simp; omega
  have q2 : decide (k < 0) = false := by simp; omega
  have HC := Lib.hid hc
  have HU := Lib.hid hL
  clear hc hL
  have HX : Hid (∀ w', Ext ((w.alloc (Obj.cells #[.slice a 0 cap, .int .i64 k] 24)).alloc (Obj.cells #[.slice none 0 0, .int .i64 0] 24)) w' → Ext w w') :=
    Lib.hid fun w' h => ((Ext.alloc _ _).trans (Ext.alloc _ _)).trans h
  have HK : Hid (∀ w', Ext ((w.alloc (Obj.cells #[.slice a 0 cap, .int .i64 k] 24)).alloc (Obj.cells #[.slice none 0 0, .int .i64 0] 24)) w' →
      w'.heap[w.heap.size]? = some (.cells #[.slice a 0 cap, .int .i64 k] 24 (0, 0)) ∧ w'.heap[w.heap.size + 1]? = some (.cells #[.slice none 0 0, .int .i64 0] 24 (0, 0))) :=
    Lib.hid fun w' h => ⟨blk_ext (blk_ext (heap_new _ _) (Ext.alloc _ _)) h, blk_ext (heap_new' (by simp)) h⟩
  have HE0 := Lib.hid hz
  clear hz
  go_enter Try.func10, Try.ntmps10
  go_wp2_with (go_at_call 23; refine (linear_Check _ _ _ _ _ cs (HC.out.below (HX.out _ (Ext.refl _)))).mono ?_; rw [HE0.out]; rintro e w1 ⟨rfl, he⟩; have HA := Lib.hid he; obtain ⟨b0, b1⟩ := HK.out _ he; clear he; have x0 := blk_cell b0 0 _ rfl; have x1 := blk_cell b0 1 _ rfl; have z0 := blk_cell b1 0 _ rfl; have z1 := blk_cell b1 1 _ rfl; have f0 := blk_free b1 0; have f1 := blk_free b1 1; have B1 := Lib.hid b1; clear b0 b1)
  refine bodyPost_ret (res_Form rfl rfl B1.out) rfl ?_
  exact ⟨ret_Form (coefs_nil _ _), ((HX.out _ HA.out).set (by simp) _).set (by simp) _⟩

set_option maxHeartbeats 1000000 in
theorem linear_Form_main {L : List Nat} (w : World) (a : Option Addr) (len cap : Nat) (k : Int) (cs : List (ByteArray × Int)) (hc : IsCoefs L w a len cap cs) (hL : Under L w.heap.size) (hm : len ≤ 1000000) (hz : checkS cs k = 0) (hl0 : len ≠ 0) :
    Calls Try.prog 10 #[.agg #[.slice a len cap, .int .i64 k]] w fun e w' => (∃ v, e = .returned (.tuple #[v, .int .i64 (formS cs k).2.2]) ∧ IsLin L w' v (formS cs k).1 (formS cs k).2.1) ∧ Ext w w' := by
  have HC := Lib.hid hc
  have HU := Lib.hid hL
  clear hc hL
  have HX : Hid (∀ w', Ext ((w.alloc (Obj.cells #[.slice a len cap, .int .i64 k] 24)).alloc (Obj.cells #[.slice none 0 0, .int .i64 0] 24)) w' → Ext w w') :=
    Lib.hid fun w' h => ((Ext.alloc _ _).trans (Ext.alloc _ _)).trans h
  have HK : Hid (∀ w', Ext ((w.alloc (Obj.cells #[.slice a len cap, .int .i64 k] 24)).alloc (Obj.cells #[.slice none 0 0, .int .i64 0] 24)) w' →
      w'.heap[w.heap.size]? = some (.cells #[.slice a len cap, .int .i64 k] 24 (0, 0)) ∧ w'.heap[w.heap.size + 1]? = some (.cells #[.slice none 0 0, .int .i64 0] 24 (0, 0))) :=
    Lib.hid fun w' h => ⟨blk_ext (blk_ext (heap_new _ _) (Ext.alloc _ _)) h, blk_ext (heap_new' (by simp)) h⟩
  have HE0 := Lib.hid hz
  have HRt := Lib.hid (checkS_zero hz)
  obtain ⟨hk0, hk1⟩ := HRt.out.const
  clear hz
  have hl1 : ((len : Int) == 0) = false := by simp; omega
  have hne : cs ≠ [] := fun h => hl0 (by rw [← HC.out.size, h]; rfl)
  have HN := Lib.hid hne
  have hg0 := gcdC_pos (g := k.natAbs) (.inr hne) HRt.out.nz
  have hg1 := gcdC_bd (g := k.natAbs) (by omega) HRt.out.nums
  have hcl : 0 < cs.length := by rw [HC.out.size]; omega
  have hlp : (0 : Int) < len := by omega
  obtain ⟨b, off, ha, ⟨hb, -⟩, -, hi⟩ := HC.out.cells 0 hcl
  subst ha
  have HSg : Hid (signC cs = if (cs[0]'hcl).2 < 0 then -1 else 1) := Lib.hid (by cases cs with | nil => exact absurd rfl hne | cons c cs => rfl)
  generalize hcn : cs[0]'hcl = c0 at hi HSg
  obtain ⟨s0, m0⟩ := c0
  clear hcn
  generalize hgg : gcdC k.natAbs cs = g at hg0 hg1
  have HG := Lib.hid hgg
  have hi0 : ∀ w', Ext w w' → w'.cell? ⟨b, off + 1, none⟩ = some (.int .i64 m0) := fun w' h => h.cell (by simpa using hi)
  have HI := Lib.hid hi0
  clear hne hgg hl0 hi hi0
  have HS : Hid (formS cs k = (mapC (·.tdiv (g * signC cs)) cs, k.tdiv (g * signC cs), signC cs)) := Lib.hid (by unfold formS; rw [if_neg (by rw [HE0.out]; decide), if_neg HN.out, HG.out])
  have HGZ : Hid ((g : Int) ≠ 0) := Lib.hid (by omega)
  go_enter Try.func10, Try.ntmps10
  go_wp2_with (go_at_call 23; refine (linear_Check _ _ _ _ _ cs (HC.out.below (HX.out _ (Ext.refl _)))).mono ?_; rw [HE0.out]; rintro e w1 ⟨rfl, he⟩; have HA := Lib.hid he; obtain ⟨b0, b1⟩ := HK.out _ he; clear he; have x0 := blk_cell b0 0 _ rfl; have x1 := blk_cell b0 1 _ rfl; have z0 := blk_cell b1 0 _ rfl; have z1 := blk_cell b1 1 _ rfl; have f0 := blk_free b1 0; have f1 := blk_free b1 1; have B1 := Lib.hid b1; clear b0 b1)
  apply wp_region_ext [some 25, some 26, some 27, some 28, some 29, some 4, some 5] 7 7 [Is _, Is _, Is _, Is _, Is _, Is _, Is _] mixed rfl rfl (by decide) (by kernel_rfl)
  case hop =>
    refine allOps_cons ?o0 (allOps_cons ?o1 (allOps_cons ?o2 (allOps_cons ?o3 (allOps_cons ?o4 (allOps_cons ?o5 (allOps_cons ?o6 allOps_nil))))))
    case o0 =>
      refine opGoal_plain rfl rfl (by simp) fun f w' hr hk => ?_
      have y0 := hr.cell x0
      have y1 := hr.cell x1
      have HR := Lib.hid hr
      clear hr
      simp [putD, depsO, depsL, phi, Is, KnowAll, Region.binds, put_some, put_none] at hk ⊢
      try simp only [hk]
      go_wp2
      exact onePost_is _ rfl rfl ⟨Ext.refl _, rfl⟩
    case o1 =>
      refine opGoal_plain rfl rfl (by simp) fun f w' hr hk => ?_
      have y0 := hr.cell x0
      have y1 := hr.cell x1
      have HR := Lib.hid hr
      clear hr
      simp [putD, depsO, depsL, phi, Is, KnowAll, Region.binds, put_some, put_none] at hk ⊢
      try simp only [hk]
      go_wp2
      exact onePost_is _ rfl rfl ⟨Ext.refl _, rfl⟩
    case o2 =>
      refine opGoal_plain rfl rfl (by simp) fun f w' hr hk => ?_
      have y0 := hr.cell x0
      have y1 := hr.cell x1
      have HR := Lib.hid hr
      clear hr
      simp [putD, depsO, depsL, phi, Is, KnowAll, Region.binds, put_some, put_none] at hk ⊢
      try simp only [hk]
      go_wp2
      exact onePost_is _ rfl rfl ⟨Ext.refl _, rfl⟩
    case o3 =>
      refine opGoal_plain rfl rfl (by simp) fun f w' hr hk => ?_
      have y0 := hr.cell x0
      have y1 := hr.cell x1
      have HR := Lib.hid hr
      clear hr
      simp [putD, depsO, depsL, phi, Is, KnowAll, Region.binds, put_some, put_none] at hk ⊢
      rw [hk]
      go_wp2_with (go_at_call 30; refine (num_Gcd _ _ _ (by omega) (by omega) (by omega) (by omega)).mono ?_; rintro e w2 ⟨rfl, he⟩)
      exact ⟨rfl, rfl, he, rfl⟩
    case o4 =>
      refine opGoal_plain rfl rfl (by simp) fun f w' hr hk => ?_
      have y0 := hr.cell x0
      have y1 := hr.cell x1
      have HR := Lib.hid hr
      clear hr
      simp [putD, depsO, depsL, phi, Is, KnowAll, Region.binds, put_some, put_none] at hk ⊢
      rw [hk.1, hk.2]
      go_wp2_with (go_at_call 29; refine (linear_divisor _ _ _ _ _ _ cs (HC.out.below (HX.out _ (Ext.trans HA.out HR.out))) hm (by omega) HRt.out.nums).mono ?_; rintro e w2 ⟨rfl, he⟩)
      exact ⟨rfl, rfl, he, rfl⟩
    case o5 =>
      refine opGoal_plain rfl rfl (by simp) fun f w' hr hk => ?_
      have y0 := hr.cell x0
      have y1 := hr.cell x1
      have HR := Lib.hid hr
      clear hr
      simp [putD, depsO, depsL, phi, Is, KnowAll, Region.binds, put_some, put_none] at hk ⊢
      try simp only [hk]
      go_wp2
      exact onePost_is _ rfl rfl ⟨Ext.refl _, rfl⟩
    case o6 =>
      refine opGoal_plain rfl rfl (by simp) fun f w' hr hk => ?_
      have y0 := hr.cell x0
      have y1 := hr.cell x1
      have HR := Lib.hid hr
      clear hr
      simp [putD, depsO, depsL, phi, Is, KnowAll, Region.binds, put_some, put_none] at hk ⊢
      try simp only [hk]
      go_wp2
      exact onePost_is _ rfl rfl ⟨Ext.refl _, rfl⟩
  case hend =>
    intro f w' hr hk
    simp [putD, phi, Is, KnowAll, List.range, List.range.loop, put_some, put_none] at hk ⊢
    obtain ⟨b0, b1⟩ := HK.out _ (Ext.trans HA.out hr)
    have HE2 := Lib.hid (Ext.trans HA.out hr)
    have hi2 := HI.out _ (HX.out _ HE2.out)
    clear hr
    have x0 := blk_cell b0 0 _ rfl
    have x1 := blk_cell b0 1 _ rfl
    have z0 := blk_cell b1 0 _ rfl
    have z1 := blk_cell b1 1 _ rfl
    have f0 := blk_free b1 0
    have f1 := blk_free b1 1
    have BB := Lib.hid b1
    have BA := Lib.hid b0
    clear b0 b1
    have hgq : gcdC k.natAbs cs = g := HG.out
    simp only [hk, hgq]
    have HK9 := Lib.hid hk
    clear hk hgq
    obtain ⟨q1, q2⟩ := tdiv_bound hk0 hk1 (b := (g : Int))
    by_cases hm0 : m0 < 0
    · have HS1 : Hid (signC cs = -1) := Lib.hid (by rw [HSg.out, if_pos hm0])
      rw [HS1.out] at HS
      obtain ⟨q3, q4⟩ := tdiv_bound hk0 hk1 (b := (g : Int) * -1)
      have HGN : Hid ((g : Int) * -1 ≠ 0) := Lib.hid (by omega)
      have hgz1 : ((g : Int) * -1 == 0) = false := by simp; omega
      have hgz2 : (-(g : Int) == 0) = false := by simp; omega
      obtain ⟨q5, q6⟩ := tdiv_bound hk0 hk1 (b := -(g : Int))
      go_wp2
      apply wp_region_row 10 (some (w.heap.size+1)) ([w.heap.size+1]) [some 38, some 39, some 40, some 41, some 42, some 43, some 44, some 45, some 46, some 47, none, some 3] 12 12 [Is _, Is _, Is _, KL ((w.heap.size + 1) :: L) (divC (-(g : Int)) cs), Is _, Is _, Is _, Is _, KLin ((w.heap.size + 1) :: L) (divC (-(g : Int)) cs) (-(k.tdiv g)), Is _, KBL ((w.heap.size + 1) :: L) (w.heap.size + 1) (divC (-(g : Int)) cs) (-(k.tdiv g)), Is _] mixed rfl rfl (by decide) (by kernel_rfl)
      case hop =>
        refine allOps_cons ?o0 (allOps_cons ?o1 (allOps_cons ?o2 (allOps_cons ?o3 (allOps_cons ?o4 (allOps_cons ?o5 (allOps_cons ?o6 (allOps_cons ?o7 (allOps_cons ?o8 (allOps_cons ?o9 (allOps_cons ?o10 (allOps_cons ?o11 allOps_nil)))))))))))
        case o0 =>
          refine opGoal_plain rfl rfl (by simp) fun f w' hr hk => ?_
          have y0 := hr.cell (by simp) x0
          have y1 := hr.cell (by simp) x1
          have HR := Lib.hid hr
          clear hr
          simp [putD, depsO, depsL, phi, Is, KnowAll, Region.binds, put_some, put_none, KL, KLin, KBL] at hk ⊢
          try simp only [hk]
          go_wp2
          exact onePost_is _ rfl rfl ⟨Ext.refl _, rfl⟩
        case o1 =>
          refine opGoal_plain rfl rfl (by simp) fun f w' hr hk => ?_
          have y0 := hr.cell (by simp) x0
          have y1 := hr.cell (by simp) x1
          have HR := Lib.hid hr
          clear hr
          simp [putD, depsO, depsL, phi, Is, KnowAll, Region.binds, put_some, put_none, KL, KLin, KBL] at hk ⊢
          try simp only [hk]
          go_wp2
          exact onePost_is _ rfl rfl ⟨Ext.refl _, rfl⟩
        case o2 =>
          refine opGoal_plain rfl rfl (by simp) fun f w' hr hk => ?_
          have y0 := hr.cell (by simp) x0
          have y1 := hr.cell (by simp) x1
          have HR := Lib.hid hr
          clear hr
          simp [putD, depsO, depsL, phi, Is, KnowAll, Region.binds, put_some, put_none, KL, KLin, KBL] at hk ⊢
          try simp only [hk]
          go_wp2
          exact onePost_is _ rfl rfl ⟨Ext.refl _, rfl⟩
        case o3 =>
          refine opGoal_plain rfl rfl (by simp) fun f w' hr hk => ?_
          have y0 := hr.cell (by simp) x0
          have y1 := hr.cell (by simp) x1
          have HR := Lib.hid hr
          clear hr
          simp [putD, depsO, depsL, phi, Is, KnowAll, Region.binds, put_some, put_none, KL, KLin, KBL] at hk ⊢
          simp only [hk]
          go_wp2_with (go_at_call 31; refine (linear_divided _ _ _ _ _ cs ((HC.out.cons (by omega)).below (ext_extL (HX.out _ HE2.out) HR.out (by simp))) ((HU.out.below (ext_extL (HX.out _ HE2.out) HR.out (by simp))).cons (Nat.lt_of_lt_of_le (blk_lt BB.out) HR.out.size)) hm (by have := HGZ.out; omega) HRt.out.nums).mono ?_; rintro e w2 ⟨v, rfl, hv, he⟩)
          exact ⟨rfl, rfl, he, hv⟩
        case o4 =>
          refine opGoal_plain rfl rfl (by simp) fun f w' hr hk => ?_
          have y0 := hr.cell (by simp) x0
          have y1 := hr.cell (by simp) x1
          have HR := Lib.hid hr
          clear hr
          simp [putD, depsO, depsL, phi, Is, KnowAll, Region.binds, put_some, put_none, KL, KLin, KBL] at hk ⊢
          try simp only [hk]
          go_wp2
          exact onePost_is _ rfl rfl ⟨Ext.refl _, rfl⟩
        case o5 =>
          refine opGoal_plain rfl rfl (by simp) fun f w' hr hk => ?_
          have y0 := hr.cell (by simp) x0
          have y1 := hr.cell (by simp) x1
          have HR := Lib.hid hr
          clear hr
          simp [putD, depsO, depsL, phi, Is, KnowAll, Region.binds, put_some, put_none, KL, KLin, KBL] at hk ⊢
          try simp only [hk]
          go_wp2
          exact onePost_is _ rfl rfl ⟨Ext.refl _, rfl⟩
        case o6 =>
          refine opGoal_plain rfl rfl (by simp) fun f w' hr hk => ?_
          have y0 := hr.cell (by simp) x0
          have y1 := hr.cell (by simp) x1
          have HR := Lib.hid hr
          clear hr
          simp [putD, depsO, depsL, phi, Is, KnowAll, Region.binds, put_some, put_none, KL, KLin, KBL] at hk ⊢
          try simp only [hk]
          go_wp2
          exact onePost_is _ rfl rfl ⟨Ext.refl _, rfl⟩
        case o7 =>
          refine opGoal_plain rfl rfl (by simp) fun f w' hr hk => ?_
          have y0 := hr.cell (by simp) x0
          have y1 := hr.cell (by simp) x1
          have HR := Lib.hid hr
          clear hr
          simp [putD, depsO, depsL, phi, Is, KnowAll, Region.binds, put_some, put_none, KL, KLin, KBL] at hk ⊢
          try simp only [hk]
          go_wp2
          exact onePost_is _ rfl rfl ⟨Ext.refl _, rfl⟩
        case o8 =>
          refine opGoal_plain rfl rfl (by simp) fun f w' hr hk => ?_
          have y0 := hr.cell (by simp) x0
          have y1 := hr.cell (by simp) x1
          have HR := Lib.hid hr
          clear hr
          simp [putD, depsO, depsL, phi, Is, KnowAll, Region.binds, put_some, put_none, KL, KLin, KBL] at hk ⊢
          obtain ⟨⟨b, l, c, e, h⟩, e2⟩ := hk
          rw [e, e2]
          go_wp2
          exact ⟨rfl, rfl, Ext.refl _, b, l, c, rfl, h⟩
        case o9 =>
          refine opGoal_plain rfl rfl (by simp) fun f w' hr hk => ?_
          have y0 := hr.cell (by simp) x0
          have y1 := hr.cell (by simp) x1
          have HR := Lib.hid hr
          clear hr
          simp [putD, depsO, depsL, phi, Is, KnowAll, Region.binds, put_some, put_none, KL, KLin, KBL] at hk ⊢
          try simp only [hk]
          go_wp2
          exact onePost_is _ rfl rfl ⟨Ext.refl _, rfl⟩
        case o10 =>
          exact fun h => absurd rfl h
        case o11 =>
          refine opGoal_plain rfl rfl (by simp) fun f w' hr hk => ?_
          have y0 := hr.cell (by simp) x0
          have y1 := hr.cell (by simp) x1
          have HR := Lib.hid hr
          clear hr
          simp [putD, depsO, depsL, phi, Is, KnowAll, Region.binds, put_some, put_none, KL, KLin, KBL] at hk ⊢
          try simp only [hk]
          go_wp2
          exact onePost_is _ rfl rfl ⟨Ext.refl _, rfl⟩
      case hfar => exact far_cons far_is (far_cons far_is (far_cons far_is (far_cons (KL.far (by simp)) (far_cons far_is (far_cons far_is (far_cons far_is (far_cons far_is (far_cons (KLin.far (by simp)) (far_cons far_is (far_self (far_cons far_is far_nil)))))))))))
      case hrow => intro k hk; simpa using hk.symm
      case hsp =>
        intro f w2 hr
        refine sp_store rfl rfl (fun _ _ _ h => h) fun hk => ?_
        have b1 := blk_ext BB.out hr
        have hlt := blk_lt b1
        have zz0 := blk_cell b1 0 _ rfl
        have zz1 := blk_cell b1 1 _ rfl
        have ff0 := blk_free b1 0
        have ff1 := blk_free b1 1
        have BC := Lib.hid b1
        clear b1 hr
        simp [putD, depsO, depsL, phi, Is, KL, KLin, KBL, KnowAll, Region.binds, put_some] at hk ⊢
        obtain ⟨b, l, c, e8, h⟩ := hk.1
        rw [e8]
        go_wp2
        exact ⟨rfl, rfl, grown_set (grown_set (grown_refl _ _) _ _) _ _, b, l, c, blk_set (blk_set BC.out 0 _) 1 _, (h.set (by simp) _).set (by simp) _⟩
      case hend =>
        intro f w2 hr hk
        simp [putD, phi, Is, KL, KLin, KBL, KnowAll, List.range, List.range.loop, put_some, put_none] at hk ⊢
        obtain ⟨-, -, -, -, -, -, -, -, -, -, ⟨b, l, c, hb2, h⟩, e11⟩ := hk
        have HR := Lib.hid (ext_extL (HX.out _ HE2.out) hr (by simp))
        clear hr
        simp only [e11]
        go_wp2
        refine bodyPost_ret (res_FormB rfl rfl hb2) rfl ?_
        rw [HS.out]
        rw [show (g : Int) * -1 = -(g : Int) by omega, Int.tdiv_neg]
        exact ⟨ret_Form h.tail, HR.out⟩
    · have HS1 : Hid (signC cs = 1) := Lib.hid (by rw [HSg.out, if_neg hm0])
      rw [HS1.out] at HS
      have hgz1 : ((g : Int) == 0) = false := by simp; omega
      go_wp2
      apply wp_region_row 10 (some (w.heap.size+1)) ([w.heap.size+1]) [some 38, some 39, some 40, some 41, some 42, some 43, some 44, some 45, some 46, some 47, none, some 3] 12 12 [Is _, Is _, Is _, KL ((w.heap.size + 1) :: L) (divC (g : Int) cs), Is _, Is _, Is _, Is _, KLin ((w.heap.size + 1) :: L) (divC (g : Int) cs) (k.tdiv g), Is _, KBL ((w.heap.size + 1) :: L) (w.heap.size + 1) (divC (g : Int) cs) (k.tdiv g), Is _] mixed rfl rfl (by decide) (by kernel_rfl)
      case hop =>
        refine allOps_cons ?o0 (allOps_cons ?o1 (allOps_cons ?o2 (allOps_cons ?o3 (allOps_cons ?o4 (allOps_cons ?o5 (allOps_cons ?o6 (allOps_cons ?o7 (allOps_cons ?o8 (allOps_cons ?o9 (allOps_cons ?o10 (allOps_cons ?o11 allOps_nil)))))))))))
        case o0 =>
          refine opGoal_plain rfl rfl (by simp) fun f w' hr hk => ?_
          have y0 := hr.cell (by simp) x0
          have y1 := hr.cell (by simp) x1
          have HR := Lib.hid hr
          clear hr
          simp [putD, depsO, depsL, phi, Is, KnowAll, Region.binds, put_some, put_none, KL, KLin, KBL] at hk ⊢
          try simp only [hk]
          go_wp2
          exact onePost_is _ rfl rfl ⟨Ext.refl _, rfl⟩
        case o1 =>
          refine opGoal_plain rfl rfl (by simp) fun f w' hr hk => ?_
          have y0 := hr.cell (by simp) x0
          have y1 := hr.cell (by simp) x1
          have HR := Lib.hid hr
          clear hr
          simp [putD, depsO, depsL, phi, Is, KnowAll, Region.binds, put_some, put_none, KL, KLin, KBL] at hk ⊢
          try simp only [hk]
          go_wp2
          exact onePost_is _ rfl rfl ⟨Ext.refl _, rfl⟩
        case o2 =>
          refine opGoal_plain rfl rfl (by simp) fun f w' hr hk => ?_
          have y0 := hr.cell (by simp) x0
          have y1 := hr.cell (by simp) x1
          have HR := Lib.hid hr
          clear hr
          simp [putD, depsO, depsL, phi, Is, KnowAll, Region.binds, put_some, put_none, KL, KLin, KBL] at hk ⊢
          try simp only [hk]
          go_wp2
          exact onePost_is _ rfl rfl ⟨Ext.refl _, rfl⟩
        case o3 =>
          refine opGoal_plain rfl rfl (by simp) fun f w' hr hk => ?_
          have y0 := hr.cell (by simp) x0
          have y1 := hr.cell (by simp) x1
          have HR := Lib.hid hr
          clear hr
          simp [putD, depsO, depsL, phi, Is, KnowAll, Region.binds, put_some, put_none, KL, KLin, KBL] at hk ⊢
          simp only [hk]
          go_wp2_with (go_at_call 31; refine (linear_divided _ _ _ _ _ cs ((HC.out.cons (by omega)).below (ext_extL (HX.out _ HE2.out) HR.out (by simp))) ((HU.out.below (ext_extL (HX.out _ HE2.out) HR.out (by simp))).cons (Nat.lt_of_lt_of_le (blk_lt BB.out) HR.out.size)) hm HGZ.out HRt.out.nums).mono ?_; rintro e w2 ⟨v, rfl, hv, he⟩)
          exact ⟨rfl, rfl, he, hv⟩
        case o4 =>
          refine opGoal_plain rfl rfl (by simp) fun f w' hr hk => ?_
          have y0 := hr.cell (by simp) x0
          have y1 := hr.cell (by simp) x1
          have HR := Lib.hid hr
          clear hr
          simp [putD, depsO, depsL, phi, Is, KnowAll, Region.binds, put_some, put_none, KL, KLin, KBL] at hk ⊢
          try simp only [hk]
          go_wp2
          exact onePost_is _ rfl rfl ⟨Ext.refl _, rfl⟩
        case o5 =>
          refine opGoal_plain rfl rfl (by simp) fun f w' hr hk => ?_
          have y0 := hr.cell (by simp) x0
          have y1 := hr.cell (by simp) x1
          have HR := Lib.hid hr
          clear hr
          simp [putD, depsO, depsL, phi, Is, KnowAll, Region.binds, put_some, put_none, KL, KLin, KBL] at hk ⊢
          try simp only [hk]
          go_wp2
          exact onePost_is _ rfl rfl ⟨Ext.refl _, rfl⟩
        case o6 =>
          refine opGoal_plain rfl rfl (by simp) fun f w' hr hk => ?_
          have y0 := hr.cell (by simp) x0
          have y1 := hr.cell (by simp) x1
          have HR := Lib.hid hr
          clear hr
          simp [putD, depsO, depsL, phi, Is, KnowAll, Region.binds, put_some, put_none, KL, KLin, KBL] at hk ⊢
          try simp only [hk]
          go_wp2
          exact onePost_is _ rfl rfl ⟨Ext.refl _, rfl⟩
        case o7 =>
          refine opGoal_plain rfl rfl (by simp) fun f w' hr hk => ?_
          have y0 := hr.cell (by simp) x0
          have y1 := hr.cell (by simp) x1
          have HR := Lib.hid hr
          clear hr
          simp [putD, depsO, depsL, phi, Is, KnowAll, Region.binds, put_some, put_none, KL, KLin, KBL] at hk ⊢
          try simp only [hk]
          go_wp2
          exact onePost_is _ rfl rfl ⟨Ext.refl _, rfl⟩
        case o8 =>
          refine opGoal_plain rfl rfl (by simp) fun f w' hr hk => ?_
          have y0 := hr.cell (by simp) x0
          have y1 := hr.cell (by simp) x1
          have HR := Lib.hid hr
          clear hr
          simp [putD, depsO, depsL, phi, Is, KnowAll, Region.binds, put_some, put_none, KL, KLin, KBL] at hk ⊢
          obtain ⟨⟨b, l, c, e, h⟩, e2⟩ := hk
          rw [e, e2]
          go_wp2
          exact ⟨rfl, rfl, Ext.refl _, b, l, c, rfl, h⟩
        case o9 =>
          refine opGoal_plain rfl rfl (by simp) fun f w' hr hk => ?_
          have y0 := hr.cell (by simp) x0
          have y1 := hr.cell (by simp) x1
          have HR := Lib.hid hr
          clear hr
          simp [putD, depsO, depsL, phi, Is, KnowAll, Region.binds, put_some, put_none, KL, KLin, KBL] at hk ⊢
          try simp only [hk]
          go_wp2
          exact onePost_is _ rfl rfl ⟨Ext.refl _, rfl⟩
        case o10 =>
          exact fun h => absurd rfl h
        case o11 =>
          refine opGoal_plain rfl rfl (by simp) fun f w' hr hk => ?_
          have y0 := hr.cell (by simp) x0
          have y1 := hr.cell (by simp) x1
          have HR := Lib.hid hr
          clear hr
          simp [putD, depsO, depsL, phi, Is, KnowAll, Region.binds, put_some, put_none, KL, KLin, KBL] at hk ⊢
          try simp only [hk]
          go_wp2
          exact onePost_is _ rfl rfl ⟨Ext.refl _, rfl⟩
      case hfar => exact far_cons far_is (far_cons far_is (far_cons far_is (far_cons (KL.far (by simp)) (far_cons far_is (far_cons far_is (far_cons far_is (far_cons far_is (far_cons (KLin.far (by simp)) (far_cons far_is (far_self (far_cons far_is far_nil)))))))))))
      case hrow => intro k hk; simpa using hk.symm
      case hsp =>
        intro f w2 hr
        refine sp_store rfl rfl (fun _ _ _ h => h) fun hk => ?_
        have b1 := blk_ext BB.out hr
        have hlt := blk_lt b1
        have zz0 := blk_cell b1 0 _ rfl
        have zz1 := blk_cell b1 1 _ rfl
        have ff0 := blk_free b1 0
        have ff1 := blk_free b1 1
        have BC := Lib.hid b1
        clear b1 hr
        simp [putD, depsO, depsL, phi, Is, KL, KLin, KBL, KnowAll, Region.binds, put_some] at hk ⊢
        obtain ⟨b, l, c, e8, h⟩ := hk.1
        rw [e8]
        go_wp2
        exact ⟨rfl, rfl, grown_set (grown_set (grown_refl _ _) _ _) _ _, b, l, c, blk_set (blk_set BC.out 0 _) 1 _, (h.set (by simp) _).set (by simp) _⟩
      case hend =>
        intro f w2 hr hk
        simp [putD, phi, Is, KL, KLin, KBL, KnowAll, List.range, List.range.loop, put_some, put_none] at hk ⊢
        obtain ⟨-, -, -, -, -, -, -, -, -, -, ⟨b, l, c, hb2, h⟩, e11⟩ := hk
        have HR := Lib.hid (ext_extL (HX.out _ HE2.out) hr (by simp))
        clear hr
        simp only [e11]
        go_wp2
        refine bodyPost_ret (res_FormB rfl rfl hb2) rfl ?_
        rw [HS.out]
        rw [Int.mul_one]
        exact ⟨ret_Form h.tail, HR.out⟩

set_option maxHeartbeats 1000000 in
theorem R11_Form_bad {L : List Nat} (w : World) (a : Option Addr) (len cap : Nat) (k : Int) (cs : List (ByteArray × Int)) (hc : IsCoefs L w a len cap cs) (hL : Under L w.heap.size) (hm : len ≤ 1000000) (hz : checkS cs k ≠ 0) :
    Calls Try.prog 11 #[.agg #[.slice a len cap, .int .i64 k]] w fun e w' => (∃ v, e = .returned (.tuple #[v, .int .i64 0]) ∧ IsLin L w' v [] 0) ∧ Ext w w' := by
  have HC := Lib.hid hc
  have HU := Lib.hid hL
  clear hc hL
  have HX : Hid (∀ w', Ext ((w.alloc (Obj.cells #[.slice a len cap, .int .i64 k] 24)).alloc (Obj.cells #[.slice none 0 0, .int .i64 0] 24)) w' → Ext w w') :=
    Lib.hid fun w' h => ((Ext.alloc _ _).trans (Ext.alloc _ _)).trans h
  have HK : Hid (∀ w', Ext ((w.alloc (Obj.cells #[.slice a len cap, .int .i64 k] 24)).alloc (Obj.cells #[.slice none 0 0, .int .i64 0] 24)) w' →
      w'.heap[w.heap.size]? = some (.cells #[.slice a len cap, .int .i64 k] 24 (0, 0)) ∧ w'.heap[w.heap.size + 1]? = some (.cells #[.slice none 0 0, .int .i64 0] 24 (0, 0))) :=
    Lib.hid fun w' h => ⟨blk_ext (blk_ext (heap_new _ _) (Ext.alloc _ _)) h, blk_ext (heap_new' (by simp)) h⟩
  generalize he0 : checkS cs k = e0 at hz
  have HE0 := Lib.hid he0
  clear he0
  have h1 : (e0 != 0) = true := by simpa using hz
  have HZ := Lib.hid hz
  clear hz
  go_enter Try.func11, Try.ntmps11
  go_wp2_with (go_at_call 24; refine (R11_Check _ _ _ _ _ cs (HC.out.below (HX.out _ (Ext.refl _)))).mono ?_; rw [HE0.out]; rintro e w1 ⟨rfl, he⟩; have HA := Lib.hid he; obtain ⟨b0, b1⟩ := HK.out _ he; clear he; have x0 := blk_cell b0 0 _ rfl; have x1 := blk_cell b0 1 _ rfl; have z0 := blk_cell b1 0 _ rfl; have z1 := blk_cell b1 1 _ rfl; have f0 := blk_free b1 0; have f1 := blk_free b1 1; have B1 := Lib.hid b1; clear b0 b1)
  refine bodyPost_ret (res_Form rfl rfl B1.out) rfl ?_
  exact ⟨ret_Form (coefs_nil _ _), ((HX.out _ HA.out).set (by simp) _).set (by simp) _⟩

set_option maxHeartbeats 1000000 in
theorem R11_Form_nil1 {L : List Nat} (w : World) (a : Option Addr) (len cap : Nat) (k : Int) (cs : List (ByteArray × Int)) (hc : IsCoefs L w a len cap cs) (hL : Under L w.heap.size) (hm : len ≤ 1000000) (hz : checkS cs k = 0) (hl0 : len = 0) (h : k = 0) :
    Calls Try.prog 11 #[.agg #[.slice a len cap, .int .i64 k]] w fun e w' => (∃ v, e = .returned (.tuple #[v, .int .i64 1]) ∧ IsLin L w' v [] 0) ∧ Ext w w' := by
  subst hl0
  subst h
  have HC := Lib.hid hc
  have HU := Lib.hid hL
  clear hc hL
  have HX : Hid (∀ w', Ext ((w.alloc (Obj.cells #[.slice a 0 cap, .int .i64 0] 24)).alloc (Obj.cells #[.slice none 0 0, .int .i64 0] 24)) w' → Ext w w') :=
    Lib.hid fun w' h => ((Ext.alloc _ _).trans (Ext.alloc _ _)).trans h
  have HK : Hid (∀ w', Ext ((w.alloc (Obj.cells #[.slice a 0 cap, .int .i64 0] 24)).alloc (Obj.cells #[.slice none 0 0, .int .i64 0] 24)) w' →
      w'.heap[w.heap.size]? = some (.cells #[.slice a 0 cap, .int .i64 0] 24 (0, 0)) ∧ w'.heap[w.heap.size + 1]? = some (.cells #[.slice none 0 0, .int .i64 0] 24 (0, 0))) :=
    Lib.hid fun w' h => ⟨blk_ext (blk_ext (heap_new _ _) (Ext.alloc _ _)) h, blk_ext (heap_new' (by simp)) h⟩
  have HE0 := Lib.hid hz
  clear hz
  go_enter Try.func11, Try.ntmps11
  go_wp2_with (go_at_call 24; refine (R11_Check _ _ _ _ _ cs (HC.out.below (HX.out _ (Ext.refl _)))).mono ?_; rw [HE0.out]; rintro e w1 ⟨rfl, he⟩; have HA := Lib.hid he; obtain ⟨b0, b1⟩ := HK.out _ he; clear he; have x0 := blk_cell b0 0 _ rfl; have x1 := blk_cell b0 1 _ rfl; have z0 := blk_cell b1 0 _ rfl; have z1 := blk_cell b1 1 _ rfl; have f0 := blk_free b1 0; have f1 := blk_free b1 1; have B1 := Lib.hid b1; clear b0 b1)
  refine bodyPost_ret (res_Form rfl rfl B1.out) rfl ?_
  exact ⟨ret_Form (coefs_nil _ _), ((HX.out _ HA.out).set (by simp) _).set (by simp) _⟩

set_option maxHeartbeats 1000000 in
theorem R11_Form_nil2 {L : List Nat} (w : World) (a : Option Addr) (len cap : Nat) (k : Int) (cs : List (ByteArray × Int)) (hc : IsCoefs L w a len cap cs) (hL : Under L w.heap.size) (hm : len ≤ 1000000) (hz : checkS cs k = 0) (hl0 : len = 0) (h : k < 0) :
    Calls Try.prog 11 #[.agg #[.slice a len cap, .int .i64 k]] w fun e w' => (∃ v, e = .returned (.tuple #[v, .int .i64 (-1)]) ∧ IsLin L w' v [] 1) ∧ Ext w w' := by
  subst hl0
  have q1 : decide (0 < k) = false := by simp; omega
  have q2 : decide (k < 0) = true := by simp; omega
  have HC := Lib.hid hc
  have HU := Lib.hid hL
  clear hc hL
  have HX : Hid (∀ w', Ext ((w.alloc (Obj.cells #[.slice a 0 cap, .int .i64 k] 24)).alloc (Obj.cells #[.slice none 0 0, .int .i64 0] 24)) w' → Ext w w') :=
    Lib.hid fun w' h => ((Ext.alloc _ _).trans (Ext.alloc _ _)).trans h
  have HK : Hid (∀ w', Ext ((w.alloc (Obj.cells #[.slice a 0 cap, .int .i64 k] 24)).alloc (Obj.cells #[.slice none 0 0, .int .i64 0] 24)) w' →
      w'.heap[w.heap.size]? = some (.cells #[.slice a 0 cap, .int .i64 k] 24 (0, 0)) ∧ w'.heap[w.heap.size + 1]? = some (.cells #[.slice none 0 0, .int .i64 0] 24 (0, 0))) :=
    Lib.hid fun w' h => ⟨blk_ext (blk_ext (heap_new _ _) (Ext.alloc _ _)) h, blk_ext (heap_new' (by simp)) h⟩
  have HE0 := Lib.hid hz
  clear hz
  go_enter Try.func11, Try.ntmps11
  go_wp2_with (go_at_call 24; refine (R11_Check _ _ _ _ _ cs (HC.out.below (HX.out _ (Ext.refl _)))).mono ?_; rw [HE0.out]; rintro e w1 ⟨rfl, he⟩; have HA := Lib.hid he; obtain ⟨b0, b1⟩ := HK.out _ he; clear he; have x0 := blk_cell b0 0 _ rfl; have x1 := blk_cell b0 1 _ rfl; have z0 := blk_cell b1 0 _ rfl; have z1 := blk_cell b1 1 _ rfl; have f0 := blk_free b1 0; have f1 := blk_free b1 1; have B1 := Lib.hid b1; clear b0 b1)
  refine bodyPost_ret (res_Form rfl rfl B1.out) rfl ?_
  exact ⟨ret_Form (coefs_nil _ _), ((HX.out _ HA.out).set (by simp) _).set (by simp) _⟩

set_option maxHeartbeats 1000000 in
theorem R11_Form_nil3 {L : List Nat} (w : World) (a : Option Addr) (len cap : Nat) (k : Int) (cs : List (ByteArray × Int)) (hc : IsCoefs L w a len cap cs) (hL : Under L w.heap.size) (hm : len ≤ 1000000) (hz : checkS cs k = 0) (hl0 : len = 0) (h : 0 < k) :
    Calls Try.prog 11 #[.agg #[.slice a len cap, .int .i64 k]] w fun e w' => (∃ v, e = .returned (.tuple #[v, .int .i64 1]) ∧ IsLin L w' v [] 1) ∧ Ext w w' := by
  subst hl0
  have q1 : decide (0 < k) = true := by simp; omega
  have q2 : decide (k < 0) = false := by simp; omega
  have HC := Lib.hid hc
  have HU := Lib.hid hL
  clear hc hL
  have HX : Hid (∀ w', Ext ((w.alloc (Obj.cells #[.slice a 0 cap, .int .i64 k] 24)).alloc (Obj.cells #[.slice none 0 0, .int .i64 0] 24)) w' → Ext w w') :=
    Lib.hid fun w' h => ((Ext.alloc _ _).trans (Ext.alloc _ _)).trans h
  have HK : Hid (∀ w', Ext ((w.alloc (Obj.cells #[.slice a 0 cap, .int .i64 k] 24)).alloc (Obj.cells #[.slice none 0 0, .int .i64 0] 24)) w' →
      w'.heap[w.heap.size]? = some (.cells #[.slice a 0 cap, .int .i64 k] 24 (0, 0)) ∧ w'.heap[w.heap.size + 1]? = some (.cells #[.slice none 0 0, .int .i64 0] 24 (0, 0))) :=
    Lib.hid fun w' h => ⟨blk_ext (blk_ext (heap_new _ _) (Ext.alloc _ _)) h, blk_ext (heap_new' (by simp)) h⟩
  have HE0 := Lib.hid hz
  clear hz
  go_enter Try.func11, Try.ntmps11
  go_wp2_with (go_at_call 24; refine (R11_Check _ _ _ _ _ cs (HC.out.below (HX.out _ (Ext.refl _)))).mono ?_; rw [HE0.out]; rintro e w1 ⟨rfl, he⟩; have HA := Lib.hid he; obtain ⟨b0, b1⟩ := HK.out _ he; clear he; have x0 := blk_cell b0 0 _ rfl; have x1 := blk_cell b0 1 _ rfl; have z0 := blk_cell b1 0 _ rfl; have z1 := blk_cell b1 1 _ rfl; have f0 := blk_free b1 0; have f1 := blk_free b1 1; have B1 := Lib.hid b1; clear b0 b1)
  refine bodyPost_ret (res_Form rfl rfl B1.out) rfl ?_
  exact ⟨ret_Form (coefs_nil _ _), ((HX.out _ HA.out).set (by simp) _).set (by simp) _⟩

set_option maxHeartbeats 1000000 in
theorem R11_Form_main {L : List Nat} (w : World) (a : Option Addr) (len cap : Nat) (k : Int) (cs : List (ByteArray × Int)) (hc : IsCoefs L w a len cap cs) (hL : Under L w.heap.size) (hm : len ≤ 1000000) (hz : checkS cs k = 0) (hl0 : len ≠ 0) :
    Calls Try.prog 11 #[.agg #[.slice a len cap, .int .i64 k]] w fun e w' => (∃ v, e = .returned (.tuple #[v, .int .i64 (formS cs k).2.2]) ∧ IsLin L w' v (formS cs k).1 (formS cs k).2.1) ∧ Ext w w' := by
  have HC := Lib.hid hc
  have HU := Lib.hid hL
  clear hc hL
  have HX : Hid (∀ w', Ext ((w.alloc (Obj.cells #[.slice a len cap, .int .i64 k] 24)).alloc (Obj.cells #[.slice none 0 0, .int .i64 0] 24)) w' → Ext w w') :=
    Lib.hid fun w' h => ((Ext.alloc _ _).trans (Ext.alloc _ _)).trans h
  have HK : Hid (∀ w', Ext ((w.alloc (Obj.cells #[.slice a len cap, .int .i64 k] 24)).alloc (Obj.cells #[.slice none 0 0, .int .i64 0] 24)) w' →
      w'.heap[w.heap.size]? = some (.cells #[.slice a len cap, .int .i64 k] 24 (0, 0)) ∧ w'.heap[w.heap.size + 1]? = some (.cells #[.slice none 0 0, .int .i64 0] 24 (0, 0))) :=
    Lib.hid fun w' h => ⟨blk_ext (blk_ext (heap_new _ _) (Ext.alloc _ _)) h, blk_ext (heap_new' (by simp)) h⟩
  have HE0 := Lib.hid hz
  have HRt := Lib.hid (checkS_zero hz)
  obtain ⟨hk0, hk1⟩ := HRt.out.const
  clear hz
  have hl1 : ((len : Int) == 0) = false := by simp; omega
  have hne : cs ≠ [] := fun h => hl0 (by rw [← HC.out.size, h]; rfl)
  have HN := Lib.hid hne
  have hg0 := gcdC_pos (g := k.natAbs) (.inr hne) HRt.out.nz
  have hg1 := gcdC_bd (g := k.natAbs) (by omega) HRt.out.nums
  have hcl : 0 < cs.length := by rw [HC.out.size]; omega
  have hlp : (0 : Int) < len := by omega
  obtain ⟨b, off, ha, ⟨hb, -⟩, -, hi⟩ := HC.out.cells 0 hcl
  subst ha
  have HSg : Hid (signC cs = if (cs[0]'hcl).2 < 0 then -1 else 1) := Lib.hid (by cases cs with | nil => exact absurd rfl hne | cons c cs => rfl)
  generalize hcn : cs[0]'hcl = c0 at hi HSg
  obtain ⟨s0, m0⟩ := c0
  clear hcn
  generalize hgg : gcdC k.natAbs cs = g at hg0 hg1
  have HG := Lib.hid hgg
  have hi0 : ∀ w', Ext w w' → w'.cell? ⟨b, off + 1, none⟩ = some (.int .i64 m0) := fun w' h => h.cell (by simpa using hi)
  have HI := Lib.hid hi0
  clear hne hgg hl0 hi hi0
  have HS : Hid (formS cs k = (mapC (·.tdiv (g * signC cs)) cs, k.tdiv (g * signC cs), signC cs)) := Lib.hid (by unfold formS; rw [if_neg (by rw [HE0.out]; decide), if_neg HN.out, HG.out])
  have HGZ : Hid ((g : Int) ≠ 0) := Lib.hid (by omega)
  go_enter Try.func11, Try.ntmps11
  go_wp2_with (go_at_call 24; refine (R11_Check _ _ _ _ _ cs (HC.out.below (HX.out _ (Ext.refl _)))).mono ?_; rw [HE0.out]; rintro e w1 ⟨rfl, he⟩; have HA := Lib.hid he; obtain ⟨b0, b1⟩ := HK.out _ he; clear he; have x0 := blk_cell b0 0 _ rfl; have x1 := blk_cell b0 1 _ rfl; have z0 := blk_cell b1 0 _ rfl; have z1 := blk_cell b1 1 _ rfl; have f0 := blk_free b1 0; have f1 := blk_free b1 1; have B1 := Lib.hid b1; clear b0 b1)
  apply wp_region_ext [some 25, some 26, some 27, some 28, some 29, some 4] 6 6 [Is _, Is _, Is _, Is _, Is _, Is _] mixed rfl rfl (by decide) (by kernel_rfl)
  case hop =>
    refine allOps_cons ?o0 (allOps_cons ?o1 (allOps_cons ?o2 (allOps_cons ?o3 (allOps_cons ?o4 (allOps_cons ?o5 allOps_nil)))))
    case o0 =>
      refine opGoal_plain rfl rfl (by simp) fun f w' hr hk => ?_
      have y0 := hr.cell x0
      have y1 := hr.cell x1
      have HR := Lib.hid hr
      clear hr
      simp [putD, depsO, depsL, phi, Is, KnowAll, Region.binds, put_some, put_none] at hk ⊢
      try simp only [hk]
      go_wp2
      exact onePost_is _ rfl rfl ⟨Ext.refl _, rfl⟩
    case o1 =>
      refine opGoal_plain rfl rfl (by simp) fun f w' hr hk => ?_
      have y0 := hr.cell x0
      have y1 := hr.cell x1
      have HR := Lib.hid hr
      clear hr
      simp [putD, depsO, depsL, phi, Is, KnowAll, Region.binds, put_some, put_none] at hk ⊢
      rw [hk]
      go_wp2_with (go_at_call 33; refine (R11_common _ _ _ _ _ cs (HC.out.below (HX.out _ (Ext.trans HA.out HR.out))) hm HRt.out.nums).mono ?_; rintro e w2 ⟨rfl, he⟩)
      exact ⟨rfl, rfl, he, rfl⟩
    case o2 =>
      refine opGoal_plain rfl rfl (by simp) fun f w' hr hk => ?_
      have y0 := hr.cell x0
      have y1 := hr.cell x1
      have HR := Lib.hid hr
      clear hr
      simp [putD, depsO, depsL, phi, Is, KnowAll, Region.binds, put_some, put_none] at hk ⊢
      try simp only [hk]
      go_wp2
      exact onePost_is _ rfl rfl ⟨Ext.refl _, rfl⟩
    case o3 =>
      refine opGoal_plain rfl rfl (by simp) fun f w' hr hk => ?_
      have y0 := hr.cell x0
      have y1 := hr.cell x1
      have HR := Lib.hid hr
      clear hr
      simp [putD, depsO, depsL, phi, Is, KnowAll, Region.binds, put_some, put_none] at hk ⊢
      try simp only [hk]
      go_wp2
      exact onePost_is _ rfl rfl ⟨Ext.refl _, rfl⟩
    case o4 =>
      refine opGoal_plain rfl rfl (by simp) fun f w' hr hk => ?_
      have y0 := hr.cell x0
      have y1 := hr.cell x1
      have HR := Lib.hid hr
      clear hr
      simp [putD, depsO, depsL, phi, Is, KnowAll, Region.binds, put_some, put_none] at hk ⊢
      simp only [hk]
      have hg9 := gcdC_bd (g := 0) (by omega) HRt.out.nums
      go_wp2_with (go_at_call 32; refine (R01_Gcd _ _ _ (by omega) (by omega) (by omega) (by omega)).mono ?_; rintro e w' ⟨rfl, rfl⟩)
      exact ⟨rfl, rfl, Ext.refl _, rfl⟩
    case o5 =>
      refine opGoal_plain rfl rfl (by simp) fun f w' hr hk => ?_
      have y0 := hr.cell x0
      have y1 := hr.cell x1
      have HR := Lib.hid hr
      clear hr
      simp [putD, depsO, depsL, phi, Is, KnowAll, Region.binds, put_some, put_none] at hk ⊢
      try simp only [hk]
      go_wp2
      exact onePost_is _ rfl rfl ⟨Ext.refl _, rfl⟩
  case hend =>
    intro f w' hr hk
    simp [putD, phi, Is, KnowAll, List.range, List.range.loop, put_some, put_none] at hk ⊢
    obtain ⟨b0, b1⟩ := HK.out _ (Ext.trans HA.out hr)
    have HE2 := Lib.hid (Ext.trans HA.out hr)
    have hi2 := HI.out _ (HX.out _ HE2.out)
    clear hr
    have x0 := blk_cell b0 0 _ rfl
    have x1 := blk_cell b0 1 _ rfl
    have z0 := blk_cell b1 0 _ rfl
    have z1 := blk_cell b1 1 _ rfl
    have f0 := blk_free b1 0
    have f1 := blk_free b1 1
    have BB := Lib.hid b1
    have BA := Lib.hid b0
    clear b0 b1
    have hgq : Int.gcd (gcdC 0 cs) k = g := by rw [gcd_common]; exact HG.out
    simp only [hk, hgq]
    have HK9 := Lib.hid hk
    clear hk hgq
    obtain ⟨q1, q2⟩ := tdiv_bound hk0 hk1 (b := (g : Int))
    by_cases hm0 : m0 < 0
    · have HS1 : Hid (signC cs = -1) := Lib.hid (by rw [HSg.out, if_pos hm0])
      rw [HS1.out] at HS
      obtain ⟨q3, q4⟩ := tdiv_bound hk0 hk1 (b := (g : Int) * -1)
      have HGN : Hid ((g : Int) * -1 ≠ 0) := Lib.hid (by omega)
      have hgz1 : ((g : Int) * -1 == 0) = false := by simp; omega
      have hgz2 : (-(g : Int) == 0) = false := by simp; omega
      obtain ⟨q5, q6⟩ := tdiv_bound hk0 hk1 (b := -(g : Int))
      go_wp2
      apply wp_region_row 12 (some (w.heap.size+1)) ([w.heap.size+1]) [some 36, some 37, some 38, some 39, some 40, some 41, some 42, some 43, some 44, some 45, some 46, some 47, none, some 3] 14 14 [Is _, Is _, Is _, Is _, Is _, Is _, Is _, Is _, Is _, Is _, KLin ((w.heap.size + 1) :: L) (divC (-(g : Int)) cs) (-(k.tdiv g)), Is _, KBL ((w.heap.size + 1) :: L) (w.heap.size + 1) (divC (-(g : Int)) cs) (-(k.tdiv g)), Is _] mixed rfl rfl (by decide) (by kernel_rfl)
      case hop =>
        refine allOps_cons ?o0 (allOps_cons ?o1 (allOps_cons ?o2 (allOps_cons ?o3 (allOps_cons ?o4 (allOps_cons ?o5 (allOps_cons ?o6 (allOps_cons ?o7 (allOps_cons ?o8 (allOps_cons ?o9 (allOps_cons ?o10 (allOps_cons ?o11 (allOps_cons ?o12 (allOps_cons ?o13 allOps_nil)))))))))))))
        case o0 =>
          refine opGoal_plain rfl rfl (by simp) fun f w' hr hk => ?_
          have y0 := hr.cell (by simp) x0
          have y1 := hr.cell (by simp) x1
          have HR := Lib.hid hr
          clear hr
          simp [putD, depsO, depsL, phi, Is, KnowAll, Region.binds, put_some, put_none, KLin, KBL] at hk ⊢
          try simp only [hk]
          go_wp2
          exact onePost_is _ rfl rfl ⟨Ext.refl _, rfl⟩
        case o1 =>
          refine opGoal_plain rfl rfl (by simp) fun f w' hr hk => ?_
          have y0 := hr.cell (by simp) x0
          have y1 := hr.cell (by simp) x1
          have HR := Lib.hid hr
          clear hr
          simp [putD, depsO, depsL, phi, Is, KnowAll, Region.binds, put_some, put_none, KLin, KBL] at hk ⊢
          try simp only [hk]
          go_wp2
          exact onePost_is _ rfl rfl ⟨Ext.refl _, rfl⟩
        case o2 =>
          refine opGoal_plain rfl rfl (by simp) fun f w' hr hk => ?_
          have y0 := hr.cell (by simp) x0
          have y1 := hr.cell (by simp) x1
          have HR := Lib.hid hr
          clear hr
          simp [putD, depsO, depsL, phi, Is, KnowAll, Region.binds, put_some, put_none, KLin, KBL] at hk ⊢
          try simp only [hk]
          go_wp2
          exact onePost_is _ rfl rfl ⟨Ext.refl _, rfl⟩
        case o3 =>
          refine opGoal_plain rfl rfl (by simp) fun f w' hr hk => ?_
          have y0 := hr.cell (by simp) x0
          have y1 := hr.cell (by simp) x1
          have HR := Lib.hid hr
          clear hr
          simp [putD, depsO, depsL, phi, Is, KnowAll, Region.binds, put_some, put_none, KLin, KBL] at hk ⊢
          try simp only [hk]
          go_wp2
          exact onePost_is _ rfl rfl ⟨Ext.refl _, rfl⟩
        case o4 =>
          refine opGoal_plain rfl rfl (by simp) fun f w' hr hk => ?_
          have y0 := hr.cell (by simp) x0
          have y1 := hr.cell (by simp) x1
          have HR := Lib.hid hr
          clear hr
          simp [putD, depsO, depsL, phi, Is, KnowAll, Region.binds, put_some, put_none, KLin, KBL] at hk ⊢
          try simp only [hk]
          go_wp2
          exact onePost_is _ rfl rfl ⟨Ext.refl _, rfl⟩
        case o5 =>
          refine opGoal_plain rfl rfl (by simp) fun f w' hr hk => ?_
          have y0 := hr.cell (by simp) x0
          have y1 := hr.cell (by simp) x1
          have HR := Lib.hid hr
          clear hr
          simp [putD, depsO, depsL, phi, Is, KnowAll, Region.binds, put_some, put_none, KLin, KBL] at hk ⊢
          try simp only [hk]
          go_wp2
          exact onePost_is _ rfl rfl ⟨Ext.refl _, rfl⟩
        case o6 =>
          refine opGoal_plain rfl rfl (by simp) fun f w' hr hk => ?_
          have y0 := hr.cell (by simp) x0
          have y1 := hr.cell (by simp) x1
          have HR := Lib.hid hr
          clear hr
          simp [putD, depsO, depsL, phi, Is, KnowAll, Region.binds, put_some, put_none, KLin, KBL] at hk ⊢
          try simp only [hk]
          go_wp2
          exact onePost_is _ rfl rfl ⟨Ext.refl _, rfl⟩
        case o7 =>
          refine opGoal_plain rfl rfl (by simp) fun f w' hr hk => ?_
          have y0 := hr.cell (by simp) x0
          have y1 := hr.cell (by simp) x1
          have HR := Lib.hid hr
          clear hr
          simp [putD, depsO, depsL, phi, Is, KnowAll, Region.binds, put_some, put_none, KLin, KBL] at hk ⊢
          try simp only [hk]
          go_wp2
          exact onePost_is _ rfl rfl ⟨Ext.refl _, rfl⟩
        case o8 =>
          refine opGoal_plain rfl rfl (by simp) fun f w' hr hk => ?_
          have y0 := hr.cell (by simp) x0
          have y1 := hr.cell (by simp) x1
          have HR := Lib.hid hr
          clear hr
          simp [putD, depsO, depsL, phi, Is, KnowAll, Region.binds, put_some, put_none, KLin, KBL] at hk ⊢
          try simp only [hk]
          go_wp2
          exact onePost_is _ rfl rfl ⟨Ext.refl _, rfl⟩
        case o9 =>
          refine opGoal_plain rfl rfl (by simp) fun f w' hr hk => ?_
          have y0 := hr.cell (by simp) x0
          have y1 := hr.cell (by simp) x1
          have HR := Lib.hid hr
          clear hr
          simp [putD, depsO, depsL, phi, Is, KnowAll, Region.binds, put_some, put_none, KLin, KBL] at hk ⊢
          try simp only [hk]
          go_wp2
          exact onePost_is _ rfl rfl ⟨Ext.refl _, rfl⟩
        case o10 =>
          refine opGoal_plain rfl rfl (by simp) fun f w' hr hk => ?_
          have y0 := hr.cell (by simp) x0
          have y1 := hr.cell (by simp) x1
          have HR := Lib.hid hr
          clear hr
          simp [putD, depsO, depsL, phi, Is, KnowAll, Region.binds, put_some, put_none, KLin, KBL] at hk ⊢
          simp only [hk]
          go_wp2_with (go_at_call 34; refine (R11_divided _ _ _ _ _ _ _ cs ((HC.out.cons (by omega)).below (ext_extL (HX.out _ HE2.out) HR.out (by simp))) ((HU.out.below (ext_extL (HX.out _ HE2.out) HR.out (by simp))).cons (Nat.lt_of_lt_of_le (blk_lt BB.out) HR.out.size)) hm (by have := HGZ.out; omega) HRt.out.nums).mono ?_; rintro e w2 ⟨v, rfl, hv, he⟩)
          exact ⟨rfl, rfl, he, hv⟩
        case o11 =>
          refine opGoal_plain rfl rfl (by simp) fun f w' hr hk => ?_
          have y0 := hr.cell (by simp) x0
          have y1 := hr.cell (by simp) x1
          have HR := Lib.hid hr
          clear hr
          simp [putD, depsO, depsL, phi, Is, KnowAll, Region.binds, put_some, put_none, KLin, KBL] at hk ⊢
          try simp only [hk]
          go_wp2
          exact onePost_is _ rfl rfl ⟨Ext.refl _, rfl⟩
        case o12 =>
          exact fun h => absurd rfl h
        case o13 =>
          refine opGoal_plain rfl rfl (by simp) fun f w' hr hk => ?_
          have y0 := hr.cell (by simp) x0
          have y1 := hr.cell (by simp) x1
          have HR := Lib.hid hr
          clear hr
          simp [putD, depsO, depsL, phi, Is, KnowAll, Region.binds, put_some, put_none, KLin, KBL] at hk ⊢
          try simp only [hk]
          go_wp2
          exact onePost_is _ rfl rfl ⟨Ext.refl _, rfl⟩
      case hfar => exact far_cons far_is (far_cons far_is (far_cons far_is (far_cons far_is (far_cons far_is (far_cons far_is (far_cons far_is (far_cons far_is (far_cons far_is (far_cons far_is (far_cons (KLin.far (by simp)) (far_cons far_is (far_self (far_cons far_is far_nil)))))))))))))
      case hrow => intro k hk; simpa using hk.symm
      case hsp =>
        intro f w2 hr
        refine sp_store rfl rfl (fun _ _ _ h => h) fun hk => ?_
        have b1 := blk_ext BB.out hr
        have hlt := blk_lt b1
        have zz0 := blk_cell b1 0 _ rfl
        have zz1 := blk_cell b1 1 _ rfl
        have ff0 := blk_free b1 0
        have ff1 := blk_free b1 1
        have BC := Lib.hid b1
        clear b1 hr
        simp [putD, depsO, depsL, phi, Is, KL, KLin, KBL, KnowAll, Region.binds, put_some] at hk ⊢
        obtain ⟨b, l, c, e8, h⟩ := hk.1
        rw [e8]
        go_wp2
        exact ⟨rfl, rfl, grown_set (grown_set (grown_refl _ _) _ _) _ _, b, l, c, blk_set (blk_set BC.out 0 _) 1 _, (h.set (by simp) _).set (by simp) _⟩
      case hend =>
        intro f w2 hr hk
        simp [putD, phi, Is, KL, KLin, KBL, KnowAll, List.range, List.range.loop, put_some, put_none] at hk ⊢
        obtain ⟨-, -, -, -, -, -, -, -, -, -, -, -, ⟨b, l, c, hb2, h⟩, e11⟩ := hk
        have HR := Lib.hid (ext_extL (HX.out _ HE2.out) hr (by simp))
        clear hr
        simp only [e11]
        go_wp2
        refine bodyPost_ret (res_FormB rfl rfl hb2) rfl ?_
        rw [HS.out]
        rw [show (g : Int) * -1 = -(g : Int) by omega, Int.tdiv_neg]
        exact ⟨ret_Form h.tail, HR.out⟩
    · have HS1 : Hid (signC cs = 1) := Lib.hid (by rw [HSg.out, if_neg hm0])
      rw [HS1.out] at HS
      have hgz1 : ((g : Int) == 0) = false := by simp; omega
      go_wp2
      apply wp_region_row 12 (some (w.heap.size+1)) ([w.heap.size+1]) [some 36, some 37, some 38, some 39, some 40, some 41, some 42, some 43, some 44, some 45, some 46, some 47, none, some 3] 14 14 [Is _, Is _, Is _, Is _, Is _, Is _, Is _, Is _, Is _, Is _, KLin ((w.heap.size + 1) :: L) (divC (g : Int) cs) (k.tdiv g), Is _, KBL ((w.heap.size + 1) :: L) (w.heap.size + 1) (divC (g : Int) cs) (k.tdiv g), Is _] mixed rfl rfl (by decide) (by kernel_rfl)
      case hop =>
        refine allOps_cons ?o0 (allOps_cons ?o1 (allOps_cons ?o2 (allOps_cons ?o3 (allOps_cons ?o4 (allOps_cons ?o5 (allOps_cons ?o6 (allOps_cons ?o7 (allOps_cons ?o8 (allOps_cons ?o9 (allOps_cons ?o10 (allOps_cons ?o11 (allOps_cons ?o12 (allOps_cons ?o13 allOps_nil)))))))))))))
        case o0 =>
          refine opGoal_plain rfl rfl (by simp) fun f w' hr hk => ?_
          have y0 := hr.cell (by simp) x0
          have y1 := hr.cell (by simp) x1
          have HR := Lib.hid hr
          clear hr
          simp [putD, depsO, depsL, phi, Is, KnowAll, Region.binds, put_some, put_none, KLin, KBL] at hk ⊢
          try simp only [hk]
          go_wp2
          exact onePost_is _ rfl rfl ⟨Ext.refl _, rfl⟩
        case o1 =>
          refine opGoal_plain rfl rfl (by simp) fun f w' hr hk => ?_
          have y0 := hr.cell (by simp) x0
          have y1 := hr.cell (by simp) x1
          have HR := Lib.hid hr
          clear hr
          simp [putD, depsO, depsL, phi, Is, KnowAll, Region.binds, put_some, put_none, KLin, KBL] at hk ⊢
          try simp only [hk]
          go_wp2
          exact onePost_is _ rfl rfl ⟨Ext.refl _, rfl⟩
        case o2 =>
          refine opGoal_plain rfl rfl (by simp) fun f w' hr hk => ?_
          have y0 := hr.cell (by simp) x0
          have y1 := hr.cell (by simp) x1
          have HR := Lib.hid hr
          clear hr
          simp [putD, depsO, depsL, phi, Is, KnowAll, Region.binds, put_some, put_none, KLin, KBL] at hk ⊢
          try simp only [hk]
          go_wp2
          exact onePost_is _ rfl rfl ⟨Ext.refl _, rfl⟩
        case o3 =>
          refine opGoal_plain rfl rfl (by simp) fun f w' hr hk => ?_
          have y0 := hr.cell (by simp) x0
          have y1 := hr.cell (by simp) x1
          have HR := Lib.hid hr
          clear hr
          simp [putD, depsO, depsL, phi, Is, KnowAll, Region.binds, put_some, put_none, KLin, KBL] at hk ⊢
          try simp only [hk]
          go_wp2
          exact onePost_is _ rfl rfl ⟨Ext.refl _, rfl⟩
        case o4 =>
          refine opGoal_plain rfl rfl (by simp) fun f w' hr hk => ?_
          have y0 := hr.cell (by simp) x0
          have y1 := hr.cell (by simp) x1
          have HR := Lib.hid hr
          clear hr
          simp [putD, depsO, depsL, phi, Is, KnowAll, Region.binds, put_some, put_none, KLin, KBL] at hk ⊢
          try simp only [hk]
          go_wp2
          exact onePost_is _ rfl rfl ⟨Ext.refl _, rfl⟩
        case o5 =>
          refine opGoal_plain rfl rfl (by simp) fun f w' hr hk => ?_
          have y0 := hr.cell (by simp) x0
          have y1 := hr.cell (by simp) x1
          have HR := Lib.hid hr
          clear hr
          simp [putD, depsO, depsL, phi, Is, KnowAll, Region.binds, put_some, put_none, KLin, KBL] at hk ⊢
          try simp only [hk]
          go_wp2
          exact onePost_is _ rfl rfl ⟨Ext.refl _, rfl⟩
        case o6 =>
          refine opGoal_plain rfl rfl (by simp) fun f w' hr hk => ?_
          have y0 := hr.cell (by simp) x0
          have y1 := hr.cell (by simp) x1
          have HR := Lib.hid hr
          clear hr
          simp [putD, depsO, depsL, phi, Is, KnowAll, Region.binds, put_some, put_none, KLin, KBL] at hk ⊢
          try simp only [hk]
          go_wp2
          exact onePost_is _ rfl rfl ⟨Ext.refl _, rfl⟩
        case o7 =>
          refine opGoal_plain rfl rfl (by simp) fun f w' hr hk => ?_
          have y0 := hr.cell (by simp) x0
          have y1 := hr.cell (by simp) x1
          have HR := Lib.hid hr
          clear hr
          simp [putD, depsO, depsL, phi, Is, KnowAll, Region.binds, put_some, put_none, KLin, KBL] at hk ⊢
          try simp only [hk]
          go_wp2
          exact onePost_is _ rfl rfl ⟨Ext.refl _, rfl⟩
        case o8 =>
          refine opGoal_plain rfl rfl (by simp) fun f w' hr hk => ?_
          have y0 := hr.cell (by simp) x0
          have y1 := hr.cell (by simp) x1
          have HR := Lib.hid hr
          clear hr
          simp [putD, depsO, depsL, phi, Is, KnowAll, Region.binds, put_some, put_none, KLin, KBL] at hk ⊢
          try simp only [hk]
          go_wp2
          exact onePost_is _ rfl rfl ⟨Ext.refl _, rfl⟩
        case o9 =>
          refine opGoal_plain rfl rfl (by simp) fun f w' hr hk => ?_
          have y0 := hr.cell (by simp) x0
          have y1 := hr.cell (by simp) x1
          have HR := Lib.hid hr
          clear hr
          simp [putD, depsO, depsL, phi, Is, KnowAll, Region.binds, put_some, put_none, KLin, KBL] at hk ⊢
          try simp only [hk]
          go_wp2
          exact onePost_is _ rfl rfl ⟨Ext.refl _, rfl⟩
        case o10 =>
          refine opGoal_plain rfl rfl (by simp) fun f w' hr hk => ?_
          have y0 := hr.cell (by simp) x0
          have y1 := hr.cell (by simp) x1
          have HR := Lib.hid hr
          clear hr
          simp [putD, depsO, depsL, phi, Is, KnowAll, Region.binds, put_some, put_none, KLin, KBL] at hk ⊢
          simp only [hk]
          go_wp2_with (go_at_call 34; refine (R11_divided _ _ _ _ _ _ _ cs ((HC.out.cons (by omega)).below (ext_extL (HX.out _ HE2.out) HR.out (by simp))) ((HU.out.below (ext_extL (HX.out _ HE2.out) HR.out (by simp))).cons (Nat.lt_of_lt_of_le (blk_lt BB.out) HR.out.size)) hm HGZ.out HRt.out.nums).mono ?_; rintro e w2 ⟨v, rfl, hv, he⟩)
          exact ⟨rfl, rfl, he, hv⟩
        case o11 =>
          refine opGoal_plain rfl rfl (by simp) fun f w' hr hk => ?_
          have y0 := hr.cell (by simp) x0
          have y1 := hr.cell (by simp) x1
          have HR := Lib.hid hr
          clear hr
          simp [putD, depsO, depsL, phi, Is, KnowAll, Region.binds, put_some, put_none, KLin, KBL] at hk ⊢
          try simp only [hk]
          go_wp2
          exact onePost_is _ rfl rfl ⟨Ext.refl _, rfl⟩
        case o12 =>
          exact fun h => absurd rfl h
        case o13 =>
          refine opGoal_plain rfl rfl (by simp) fun f w' hr hk => ?_
          have y0 := hr.cell (by simp) x0
          have y1 := hr.cell (by simp) x1
          have HR := Lib.hid hr
          clear hr
          simp [putD, depsO, depsL, phi, Is, KnowAll, Region.binds, put_some, put_none, KLin, KBL] at hk ⊢
          try simp only [hk]
          go_wp2
          exact onePost_is _ rfl rfl ⟨Ext.refl _, rfl⟩
      case hfar => exact far_cons far_is (far_cons far_is (far_cons far_is (far_cons far_is (far_cons far_is (far_cons far_is (far_cons far_is (far_cons far_is (far_cons far_is (far_cons far_is (far_cons (KLin.far (by simp)) (far_cons far_is (far_self (far_cons far_is far_nil)))))))))))))
      case hrow => intro k hk; simpa using hk.symm
      case hsp =>
        intro f w2 hr
        refine sp_store rfl rfl (fun _ _ _ h => h) fun hk => ?_
        have b1 := blk_ext BB.out hr
        have hlt := blk_lt b1
        have zz0 := blk_cell b1 0 _ rfl
        have zz1 := blk_cell b1 1 _ rfl
        have ff0 := blk_free b1 0
        have ff1 := blk_free b1 1
        have BC := Lib.hid b1
        clear b1 hr
        simp [putD, depsO, depsL, phi, Is, KL, KLin, KBL, KnowAll, Region.binds, put_some] at hk ⊢
        obtain ⟨b, l, c, e8, h⟩ := hk.1
        rw [e8]
        go_wp2
        exact ⟨rfl, rfl, grown_set (grown_set (grown_refl _ _) _ _) _ _, b, l, c, blk_set (blk_set BC.out 0 _) 1 _, (h.set (by simp) _).set (by simp) _⟩
      case hend =>
        intro f w2 hr hk
        simp [putD, phi, Is, KL, KLin, KBL, KnowAll, List.range, List.range.loop, put_some, put_none] at hk ⊢
        obtain ⟨-, -, -, -, -, -, -, -, -, -, -, -, ⟨b, l, c, hb2, h⟩, e11⟩ := hk
        have HR := Lib.hid (ext_extL (HX.out _ HE2.out) hr (by simp))
        clear hr
        simp only [e11]
        go_wp2
        refine bodyPost_ret (res_FormB rfl rfl hb2) rfl ?_
        rw [HS.out]
        rw [Int.mul_one]
        exact ⟨ret_Form h.tail, HR.out⟩

theorem linear_Form {L : List Nat} (w : World) (a : Option Addr) (len cap : Nat) (k : Int) (cs : List (ByteArray × Int)) (hc : IsCoefs L w a len cap cs) (hL : Under L w.heap.size) (hm : len ≤ 1000000) :
    Calls Try.prog 10 #[.agg #[.slice a len cap, .int .i64 k]] w fun e w' => (∃ v, e = .returned (.tuple #[v, .int .i64 (formS cs k).2.2]) ∧ IsLin L w' v (formS cs k).1 (formS cs k).2.1) ∧ Ext w w' := by
  by_cases hz : checkS cs k = 0
  · by_cases hl : len = 0
    · have hn : cs = [] := List.eq_nil_of_length_eq_zero (by rw [hc.size]; exact hl)
      have HS : formS cs k = if 0 < k then ([], 1, 1) else if k < 0 then ([], 1, -1) else ([], 0, 1) := by unfold formS; rw [if_neg (by rw [hz]; decide), if_pos hn]
      rw [HS]
      rcases Int.lt_trichotomy k 0 with h | h | h
      · rw [if_neg (by omega), if_pos h]; exact linear_Form_nil2 w a len cap k cs hc hL hm hz hl h
      · rw [if_neg (by omega), if_neg (by omega)]; exact linear_Form_nil1 w a len cap k cs hc hL hm hz hl h
      · rw [if_pos h]; exact linear_Form_nil3 w a len cap k cs hc hL hm hz hl h
    · exact linear_Form_main w a len cap k cs hc hL hm hz hl
  · have HS : formS cs k = ([], 0, 0) := by unfold formS; rw [if_pos hz]
    rw [HS]
    exact linear_Form_bad w a len cap k cs hc hL hm hz

theorem R11_Form {L : List Nat} (w : World) (a : Option Addr) (len cap : Nat) (k : Int) (cs : List (ByteArray × Int)) (hc : IsCoefs L w a len cap cs) (hL : Under L w.heap.size) (hm : len ≤ 1000000) :
    Calls Try.prog 11 #[.agg #[.slice a len cap, .int .i64 k]] w fun e w' => (∃ v, e = .returned (.tuple #[v, .int .i64 (formS cs k).2.2]) ∧ IsLin L w' v (formS cs k).1 (formS cs k).2.1) ∧ Ext w w' := by
  by_cases hz : checkS cs k = 0
  · by_cases hl : len = 0
    · have hn : cs = [] := List.eq_nil_of_length_eq_zero (by rw [hc.size]; exact hl)
      have HS : formS cs k = if 0 < k then ([], 1, 1) else if k < 0 then ([], 1, -1) else ([], 0, 1) := by unfold formS; rw [if_neg (by rw [hz]; decide), if_pos hn]
      rw [HS]
      rcases Int.lt_trichotomy k 0 with h | h | h
      · rw [if_neg (by omega), if_pos h]; exact R11_Form_nil2 w a len cap k cs hc hL hm hz hl h
      · rw [if_neg (by omega), if_neg (by omega)]; exact R11_Form_nil1 w a len cap k cs hc hL hm hz hl h
      · rw [if_pos h]; exact R11_Form_nil3 w a len cap k cs hc hL hm hz hl h
    · exact R11_Form_main w a len cap k cs hc hL hm hz hl
  · have HS : formS cs k = ([], 0, 0) := by unfold formS; rw [if_pos hz]
    rw [HS]
    exact R11_Form_bad w a len cap k cs hc hL hm hz

end Go.Proofs.Ytkghgdkkholieaa
