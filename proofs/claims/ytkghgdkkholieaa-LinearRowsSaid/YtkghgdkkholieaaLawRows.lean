/-
  Walks: the statement of rows.
-/
import Derived.Test.YtkghgdkkholieaaAwake
namespace Go.Proofs.Ytkghgdkkholieaa
open Go.RowKit

theorem small_len {cs : List (ByteArray × Int)} (h : smallS cs = true) : cs.length ≤ 40 := by
  unfold smallS at h
  rw [decide_eq_true_eq] at h
  exact h.1
theorem R11_SameRow_rows {L L' : List Nat} (w : World) (v1 v2 : Value) (r : List (ByteArray × Int) × Int × Bool) (h1 : IsRow L w v1 r) (h2 : IsRow L' w v2 r) (hm : r.1.length ≤ 1000000) :
    Calls Try.prog 12 #[v1, v2] w fun e w' => e = .returned (.bool true) ∧ Ext w w' := by
  obtain ⟨a1, l1, c1, rfl, h1⟩ := h1
  obtain ⟨a2, l2, c2, rfl, h2⟩ := h2
  exact R11_SameRow_eq w a1 a2 l1 l2 c1 c2 r.2.1 r.2.2 r.1 h1 h2 (by rw [← h1.size]; exact hm)
theorem tightS_len (cs : List (ByteArray × Int)) (k : Int) (eq : Bool) : (tightS cs k eq).1.length ≤ cs.length := by
  unfold tightS
  split
  · exact Nat.le_refl _
  split
  · exact Nat.zero_le _
  split
  · exact Nat.zero_le _
  · exact Nat.le_of_eq (by simp [mapC])
theorem formS_len (cs : List (ByteArray × Int)) (k : Int) : (formS cs k).1.length ≤ cs.length := by
  unfold formS
  split
  · exact Nat.zero_le _
  split
  · split
    · exact Nat.zero_le _
    split
    · exact Nat.zero_le _
    · exact Nat.zero_le _
  · exact Nat.le_of_eq (by simp [mapC])

set_option maxHeartbeats 4000000 in
theorem L11_LinearRows {L : List Nat} (w : World) (a : Option Addr) (len cap : Nat) (k : Int) (eq : Bool) (cs : List (ByteArray × Int)) (hc : IsCoefs L w a len cap cs) (hL : Under L w.heap.size) (hm : len ≤ 9223372036854775807) :
    Calls Try.prog 3 #[.agg #[.slice a len cap, .int .i64 k, .bool eq]] w fun e w' => e = .returned (.bool true) ∧ Ext w w' := by
  have HC := Lib.hid hc
  have HU := Lib.hid hL
  clear hc hL
  by_cases hs : smallS cs = true
  · have HS := Lib.hid hs
    have hl : len ≤ 40 := by rw [← HC.out.size]; exact small_len hs
    have HLt := Lib.hid (Nat.le_trans (tightS_len cs k eq) (by rw [HC.out.size]; omega : cs.length ≤ 1000000))
    have HLf := Lib.hid (Nat.le_trans (formS_len cs k) (by rw [HC.out.size]; omega : cs.length ≤ 1000000))
    clear hs
    go_enter Try.func3, Try.ntmps3
    go_wp2_with fail
    refine (L11_small _ _ _ _ _ cs (HC.out.below (Ext.alloc _ _)) (by omega)).mono ?_
    rw [HS.out]
    rintro e w1 ⟨rfl, he⟩
    have E1 := Lib.hid (Ext.trans (Ext.alloc w (Obj.cells #[.slice a len cap, .int .i64 k, .bool eq] 26)) he)
    have b1 := blk_ext (heap_new w (Obj.cells #[.slice a len cap, .int .i64 k, .bool eq] 26)) he
    have x0 := blk_cell b1 0 _ rfl
    have x1 := blk_cell b1 1 _ rfl
    have x2 := blk_cell b1 2 _ rfl
    have B1 := Lib.hid b1
    clear he b1
    go_wp2_with fail
    refine (linear_Form _ _ _ _ _ cs (HC.out.below E1.out) (HU.out.below E1.out) (by omega)).mono ?_
    generalize hF : formS cs k = F at HLf
    obtain ⟨F1, F2, F3⟩ := F
    have HF := Lib.hid hF
    clear hF
    rintro e w2 ⟨⟨v, rfl, ⟨b3, m3, r3, rfl, h⟩⟩, he⟩
    have T3 : Hid (IsCoefs L w2 b3 m3 r3 F1) := Lib.hid h
    have E2 := Lib.hid (Ext.trans E1.out he)
    have b2 := blk_ext B1.out he
    have B2 := Lib.hid b2
    have b2' := blk_ext b2 (Ext.alloc w2 (Obj.cells #[.slice b3 m3 r3, .int .i64 F2] 24))
    have y0 := blk_cell b2' 0 _ rfl
    have y1 := blk_cell b2' 1 _ rfl
    have y2 := blk_cell b2' 2 _ rfl
    clear b2'
    clear he h b2 x0 x1 x2
    go_wp2_with fail
    refine (R11_Form _ _ _ _ _ cs (HC.out.below (Ext.trans E2.out (Ext.alloc _ _))) (HU.out.below (Ext.trans E2.out (Ext.alloc _ _))) (by omega)).mono ?_
    rw [HF.out]
    rintro e w3 ⟨⟨v, rfl, ⟨b5, m5, r5, rfl, h⟩⟩, he⟩
    have T5 : Hid (IsCoefs L w3 b5 m5 r5 F1) := Lib.hid h
    have X3 : Hid (Ext (w2.alloc (Obj.cells #[.slice b3 m3 r3, .int .i64 F2] 24)) w3) := Lib.hid he
    clear he h y0 y1 y2
    go_wp2_with fail
    have Z3 : Hid (Ext w3 (w3.alloc (Obj.cells #[.slice b5 m5 r5, .int .i64 F2] 24))) := Lib.hid (Ext.alloc _ _)
    have Z2 : Hid (Ext (w2.alloc (Obj.cells #[.slice b3 m3 r3, .int .i64 F2] 24)) (w3.alloc (Obj.cells #[.slice b5 m5 r5, .int .i64 F2] 24))) := Lib.hid (Ext.trans X3.out Z3.out)
    have Y2 : Hid (Ext w2 (w3.alloc (Obj.cells #[.slice b5 m5 r5, .int .i64 F2] 24))) := Lib.hid (Ext.trans (Ext.alloc _ _) Z2.out)
    have YW : Hid (Ext w (w3.alloc (Obj.cells #[.slice b5 m5 r5, .int .i64 F2] 24))) := Lib.hid (Ext.trans E2.out Y2.out)
    have q1 := blk_ext B2.out Y2.out
    have q2 := blk_ext (heap_new w2 (Obj.cells #[.slice b3 m3 r3, .int .i64 F2] 24)) Z2.out
    have q3 := heap_new w3 (Obj.cells #[.slice b5 m5 r5, .int .i64 F2] 24)
    have c10 := blk_cell q1 0 _ rfl
    have c11 := blk_cell q1 1 _ rfl
    have c12 := blk_cell q1 2 _ rfl
    have c20 := blk_cell q2 0 _ rfl
    have c21 := blk_cell q2 1 _ rfl
    have c30 := blk_cell q3 0 _ rfl
    have c31 := blk_cell q3 1 _ rfl
    clear q1 q2 q3
    apply wp_region_ext [some 24, some 25, some 26, some 27, some 28, some 29, some 30, some 31, some 32, some 33, some 34, some 35, some 36, some 37, some 38, some 39, some 40, some 41, some 2] 19 18 [Is _, KRw L (tightS cs k eq), Is _, KRw L (tightS cs k eq), Is _, Is _, Is _, Is _, Is _, Is _, Is _, Is _, Is _, Is _, Is _, Is _, Is _, Is _] mixed rfl rfl (by decide) (by kernel_rfl)
    case hop =>
      refine allOps_cons ?o0 (allOps_cons ?o1 (allOps_cons ?o2 (allOps_cons ?o3 (allOps_cons ?o4 (allOps_cons ?o5 (allOps_cons ?o6 (allOps_cons ?o7 (allOps_cons ?o8 (allOps_cons ?o9 (allOps_cons ?o10 (allOps_cons ?o11 (allOps_cons ?o12 (allOps_cons ?o13 (allOps_cons ?o14 (allOps_cons ?o15 (allOps_cons ?o16 (allOps_cons ?o17 allOps_nil)))))))))))))))))
      case o0 =>
        refine opGoal_plain rfl rfl (by simp) fun f w' hr hk => ?_
        have d10 := hr.cell c10
        have d11 := hr.cell c11
        have d12 := hr.cell c12
        have d20 := hr.cell c20
        have d21 := hr.cell c21
        have d30 := hr.cell c30
        have d31 := hr.cell c31
        have HR := Lib.hid hr
        clear hr
        simp [putD, depsO, depsL, phi, Is, KnowAll, Region.binds, put_some, put_none, KRw] at hk ⊢
        try simp only [hk]
        go_wp2
        exact onePost_is _ rfl rfl ⟨Ext.refl _, rfl⟩
      case o1 =>
        refine opGoal_plain rfl rfl (by simp) fun f w' hr hk => ?_
        have d10 := hr.cell c10
        have d11 := hr.cell c11
        have d12 := hr.cell c12
        have d20 := hr.cell c20
        have d21 := hr.cell c21
        have d30 := hr.cell c30
        have d31 := hr.cell c31
        have HR := Lib.hid hr
        clear hr
        simp [putD, depsO, depsL, phi, Is, KnowAll, Region.binds, put_some, put_none, KRw] at hk ⊢
        rw [hk]
        go_wp2_with (go_at_call 13; refine (linear_Tight _ _ _ _ _ _ cs (HC.out.below (Ext.trans YW.out HR.out)) (HU.out.below (Ext.trans YW.out HR.out)) (by omega)).mono ?_; rintro e w2 ⟨v, rfl, h, he⟩)
        exact ⟨rfl, rfl, he, h⟩
      case o2 =>
        refine opGoal_plain rfl rfl (by simp) fun f w' hr hk => ?_
        have d10 := hr.cell c10
        have d11 := hr.cell c11
        have d12 := hr.cell c12
        have d20 := hr.cell c20
        have d21 := hr.cell c21
        have d30 := hr.cell c30
        have d31 := hr.cell c31
        have HR := Lib.hid hr
        clear hr
        simp [putD, depsO, depsL, phi, Is, KnowAll, Region.binds, put_some, put_none, KRw] at hk ⊢
        try simp only [hk]
        go_wp2
        exact onePost_is _ rfl rfl ⟨Ext.refl _, rfl⟩
      case o3 =>
        refine opGoal_plain rfl rfl (by simp) fun f w' hr hk => ?_
        have d10 := hr.cell c10
        have d11 := hr.cell c11
        have d12 := hr.cell c12
        have d20 := hr.cell c20
        have d21 := hr.cell c21
        have d30 := hr.cell c30
        have d31 := hr.cell c31
        have HR := Lib.hid hr
        clear hr
        simp [putD, depsO, depsL, phi, Is, KnowAll, Region.binds, put_some, put_none, KRw] at hk ⊢
        rw [hk.1]
        go_wp2_with (go_at_call 14; refine (R11_Tight _ _ _ _ _ _ cs (HC.out.below (Ext.trans YW.out HR.out)) (HU.out.below (Ext.trans YW.out HR.out)) (by omega)).mono ?_; rintro e w2 ⟨v, rfl, h, he⟩)
        exact ⟨rfl, rfl, he, h⟩
      case o4 =>
        refine opGoal_plain rfl rfl (by simp) fun f w' hr hk => ?_
        have d10 := hr.cell c10
        have d11 := hr.cell c11
        have d12 := hr.cell c12
        have d20 := hr.cell c20
        have d21 := hr.cell c21
        have d30 := hr.cell c30
        have d31 := hr.cell c31
        have HR := Lib.hid hr
        clear hr
        simp [putD, depsO, depsL, phi, Is, KnowAll, Region.binds, put_some, put_none, KRw] at hk ⊢
        go_wp2_with (go_at_call 12; refine (R11_SameRow_rows _ _ _ _ hk.1 hk.2 HLt.out).mono ?_; rintro e w2 ⟨rfl, he⟩)
        exact ⟨rfl, rfl, he, rfl⟩
      case o5 =>
        refine opGoal_plain rfl rfl (by simp) fun f w' hr hk => ?_
        have d10 := hr.cell c10
        have d11 := hr.cell c11
        have d12 := hr.cell c12
        have d20 := hr.cell c20
        have d21 := hr.cell c21
        have d30 := hr.cell c30
        have d31 := hr.cell c31
        have HR := Lib.hid hr
        clear hr
        simp [putD, depsO, depsL, phi, Is, KnowAll, Region.binds, put_some, put_none, KRw] at hk ⊢
        try simp only [hk]
        go_wp2
        exact onePost_is _ rfl rfl ⟨Ext.refl _, rfl⟩
      case o6 =>
        refine opGoal_guard rfl rfl (by simp) fun f w' hr hk => ?_
        have d10 := hr.cell c10
        have d11 := hr.cell c11
        have d12 := hr.cell c12
        have d20 := hr.cell c20
        have d21 := hr.cell c21
        have d30 := hr.cell c30
        have d31 := hr.cell c31
        have HR := Lib.hid hr
        clear hr
        refine ⟨by simp [putD, depsO, depsL, phi, Is, KnowAll, Region.binds, put_some, put_none, KRw] at hk; simp [wantD, hk, putD, depsO, depsL, phi, Is, KnowAll, Region.binds, put_some, put_none, KRw], ?_⟩
        simp [putD, depsO, depsL, phi, Is, KnowAll, Region.binds, put_some, put_none, KRw] at hk ⊢
        try simp only [hk]
        go_wp2
        exact onePost_is _ rfl rfl ⟨Ext.refl _, rfl⟩
      case o7 =>
        refine opGoal_guard rfl rfl (by simp) fun f w' hr hk => ?_
        have d10 := hr.cell c10
        have d11 := hr.cell c11
        have d12 := hr.cell c12
        have d20 := hr.cell c20
        have d21 := hr.cell c21
        have d30 := hr.cell c30
        have d31 := hr.cell c31
        have HR := Lib.hid hr
        clear hr
        refine ⟨by simp [putD, depsO, depsL, phi, Is, KnowAll, Region.binds, put_some, put_none, KRw] at hk; simp [wantD, hk, putD, depsO, depsL, phi, Is, KnowAll, Region.binds, put_some, put_none, KRw], ?_⟩
        simp [putD, depsO, depsL, phi, Is, KnowAll, Region.binds, put_some, put_none, KRw] at hk ⊢
        try simp only [hk]
        go_wp2
        exact onePost_is _ rfl rfl ⟨Ext.refl _, rfl⟩
      case o8 =>
        refine opGoal_guard rfl rfl (by simp) fun f w' hr hk => ?_
        have d10 := hr.cell c10
        have d11 := hr.cell c11
        have d12 := hr.cell c12
        have d20 := hr.cell c20
        have d21 := hr.cell c21
        have d30 := hr.cell c30
        have d31 := hr.cell c31
        have HR := Lib.hid hr
        clear hr
        refine ⟨by simp [putD, depsO, depsL, phi, Is, KnowAll, Region.binds, put_some, put_none, KRw] at hk; simp [wantD, hk, putD, depsO, depsL, phi, Is, KnowAll, Region.binds, put_some, put_none, KRw], ?_⟩
        simp [putD, depsO, depsL, phi, Is, KnowAll, Region.binds, put_some, put_none, KRw] at hk ⊢
        rw [hk.1, hk.2.1]
        go_wp2_with (go_at_call 15; refine (R11_Same_eq _ _ _ _ _ _ _ _ _ (T3.out.below (Ext.trans Y2.out HR.out)) (T5.out.below (Ext.trans Z3.out HR.out)) (by rw [← T3.out.size]; exact HLf.out)).mono ?_; rintro e w2 ⟨rfl, he⟩)
        exact ⟨rfl, rfl, he, rfl⟩
      case o9 =>
        refine opGoal_plain rfl rfl (by simp) fun f w' hr hk => ?_
        have d10 := hr.cell c10
        have d11 := hr.cell c11
        have d12 := hr.cell c12
        have d20 := hr.cell c20
        have d21 := hr.cell c21
        have d30 := hr.cell c30
        have d31 := hr.cell c31
        have HR := Lib.hid hr
        clear hr
        simp [putD, depsO, depsL, phi, Is, KnowAll, Region.binds, put_some, put_none, KRw] at hk ⊢
        try simp only [hk]
        go_wp2
        exact onePost_is _ rfl rfl ⟨Ext.refl _, rfl⟩
      case o10 =>
        refine opGoal_plain rfl rfl (by simp) fun f w' hr hk => ?_
        have d10 := hr.cell c10
        have d11 := hr.cell c11
        have d12 := hr.cell c12
        have d20 := hr.cell c20
        have d21 := hr.cell c21
        have d30 := hr.cell c30
        have d31 := hr.cell c31
        have HR := Lib.hid hr
        clear hr
        simp [putD, depsO, depsL, phi, Is, KnowAll, Region.binds, put_some, put_none, KRw] at hk ⊢
        try simp only [hk]
        go_wp2
        exact onePost_is _ rfl rfl ⟨Ext.refl _, rfl⟩
      case o11 =>
        refine opGoal_guard rfl rfl (by simp) fun f w' hr hk => ?_
        have d10 := hr.cell c10
        have d11 := hr.cell c11
        have d12 := hr.cell c12
        have d20 := hr.cell c20
        have d21 := hr.cell c21
        have d30 := hr.cell c30
        have d31 := hr.cell c31
        have HR := Lib.hid hr
        clear hr
        refine ⟨by simp [putD, depsO, depsL, phi, Is, KnowAll, Region.binds, put_some, put_none, KRw] at hk; simp [wantD, hk, putD, depsO, depsL, phi, Is, KnowAll, Region.binds, put_some, put_none, KRw], ?_⟩
        simp [putD, depsO, depsL, phi, Is, KnowAll, Region.binds, put_some, put_none, KRw] at hk ⊢
        try simp only [hk]
        go_wp2
        exact onePost_is _ rfl rfl ⟨Ext.refl _, rfl⟩
      case o12 =>
        refine opGoal_guard rfl rfl (by simp) fun f w' hr hk => ?_
        have d10 := hr.cell c10
        have d11 := hr.cell c11
        have d12 := hr.cell c12
        have d20 := hr.cell c20
        have d21 := hr.cell c21
        have d30 := hr.cell c30
        have d31 := hr.cell c31
        have HR := Lib.hid hr
        clear hr
        refine ⟨by simp [putD, depsO, depsL, phi, Is, KnowAll, Region.binds, put_some, put_none, KRw] at hk; simp [wantD, hk, putD, depsO, depsL, phi, Is, KnowAll, Region.binds, put_some, put_none, KRw], ?_⟩
        simp [putD, depsO, depsL, phi, Is, KnowAll, Region.binds, put_some, put_none, KRw] at hk ⊢
        try simp only [hk]
        go_wp2
        exact onePost_is _ rfl rfl ⟨Ext.refl _, rfl⟩
      case o13 =>
        refine opGoal_guard rfl rfl (by simp) fun f w' hr hk => ?_
        have d10 := hr.cell c10
        have d11 := hr.cell c11
        have d12 := hr.cell c12
        have d20 := hr.cell c20
        have d21 := hr.cell c21
        have d30 := hr.cell c30
        have d31 := hr.cell c31
        have HR := Lib.hid hr
        clear hr
        refine ⟨by simp [putD, depsO, depsL, phi, Is, KnowAll, Region.binds, put_some, put_none, KRw] at hk; simp [wantD, hk, putD, depsO, depsL, phi, Is, KnowAll, Region.binds, put_some, put_none, KRw], ?_⟩
        simp [putD, depsO, depsL, phi, Is, KnowAll, Region.binds, put_some, put_none, KRw] at hk ⊢
        try simp only [hk]
        go_wp2
        exact onePost_is _ rfl rfl ⟨Ext.refl _, rfl⟩
      case o14 =>
        refine opGoal_plain rfl rfl (by simp) fun f w' hr hk => ?_
        have d10 := hr.cell c10
        have d11 := hr.cell c11
        have d12 := hr.cell c12
        have d20 := hr.cell c20
        have d21 := hr.cell c21
        have d30 := hr.cell c30
        have d31 := hr.cell c31
        have HR := Lib.hid hr
        clear hr
        simp [putD, depsO, depsL, phi, Is, KnowAll, Region.binds, put_some, put_none, KRw] at hk ⊢
        try simp only [hk]
        go_wp2
        exact onePost_is _ rfl rfl ⟨Ext.refl _, rfl⟩
      case o15 =>
        refine opGoal_plain rfl rfl (by simp) fun f w' hr hk => ?_
        have d10 := hr.cell c10
        have d11 := hr.cell c11
        have d12 := hr.cell c12
        have d20 := hr.cell c20
        have d21 := hr.cell c21
        have d30 := hr.cell c30
        have d31 := hr.cell c31
        have HR := Lib.hid hr
        clear hr
        simp [putD, depsO, depsL, phi, Is, KnowAll, Region.binds, put_some, put_none, KRw] at hk ⊢
        try simp only [hk]
        go_wp2
        exact onePost_is _ rfl rfl ⟨Ext.refl _, rfl⟩
      case o16 =>
        refine opGoal_guard rfl rfl (by simp) fun f w' hr hk => ?_
        have d10 := hr.cell c10
        have d11 := hr.cell c11
        have d12 := hr.cell c12
        have d20 := hr.cell c20
        have d21 := hr.cell c21
        have d30 := hr.cell c30
        have d31 := hr.cell c31
        have HR := Lib.hid hr
        clear hr
        refine ⟨by simp [putD, depsO, depsL, phi, Is, KnowAll, Region.binds, put_some, put_none, KRw] at hk; simp [wantD, hk, putD, depsO, depsL, phi, Is, KnowAll, Region.binds, put_some, put_none, KRw], ?_⟩
        simp [putD, depsO, depsL, phi, Is, KnowAll, Region.binds, put_some, put_none, KRw] at hk ⊢
        go_wp2_with (go_at_call 9; refine (L11_awake _).mono ?_; rintro e w2 ⟨rfl, he⟩)
        exact ⟨rfl, rfl, he, rfl⟩
      case o17 =>
        refine opGoal_plain rfl rfl (by simp) fun f w' hr hk => ?_
        have d10 := hr.cell c10
        have d11 := hr.cell c11
        have d12 := hr.cell c12
        have d20 := hr.cell c20
        have d21 := hr.cell c21
        have d30 := hr.cell c30
        have d31 := hr.cell c31
        have HR := Lib.hid hr
        clear hr
        simp [putD, depsO, depsL, phi, Is, KnowAll, Region.binds, put_some, put_none, KRw] at hk ⊢
        try simp only [hk]
        go_wp2
        exact onePost_is _ rfl rfl ⟨Ext.refl _, rfl⟩
    case hend =>
      intro f w' hr hk
      simp [putD, phi, Is, KRw, KnowAll, List.range, List.range.loop, put_some, put_none] at hk ⊢
      obtain ⟨-, -, -, -, -, -, -, -, -, -, -, -, -, -, -, -, -, e⟩ := hk
      have HE := Lib.hid (Ext.trans YW.out hr)
      clear hr
      rw [e]
      go_wp2
      go_ret
      exact ⟨rfl, HE.out⟩
  · have hs' : smallS cs = false := by simpa using hs
    have HS := Lib.hid hs'
    clear hs hs'
    go_enter Try.func3, Try.ntmps3
    go_wp2_with fail
    refine (L11_small _ _ _ _ _ cs (HC.out.below (Ext.alloc _ _)) (by omega)).mono ?_
    rw [HS.out]
    rintro e w1 ⟨rfl, he⟩
    have E1 := Lib.hid (Ext.trans (Ext.alloc w (Obj.cells #[.slice a len cap, .int .i64 k, .bool eq] 26)) he)
    clear he
    go_wp2_with (go_at_call 9; refine (L11_awake _).mono ?_; rintro e w2 ⟨rfl, he⟩)
    go_ret
    exact ⟨rfl, Ext.trans E1.out he⟩

end Go.Proofs.Ytkghgdkkholieaa
