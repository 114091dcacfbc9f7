/-
  Walks: the witness of the statements.
-/
import Derived.Test.YtkghgdkkholieaaLaw1
import Derived.Test.YtkghgdkkholieaaAdd2
namespace Go.Proofs.Ytkghgdkkholieaa
open Go.RowKit

theorem aw1 : tightS (formC 2 (-4)) 3 false = (formC 1 (-2), 2, false) := by decide +kernel
theorem aw2 : tightS (formC 2 0) 1 true = (formC 0 0, 1, false) := by decide +kernel
theorem aw3 : formS (formC (-6) 0) 4 = (formC 3 0, -2, -1) := by decide +kernel
theorem aw4 : formS (formC 0 0) (-7) = (formC 0 0, 1, -1) := by decide +kernel
theorem aw5 : sumS (formC 1 2) 3 (formC (-1) 1) 0 = ((formC 0 3, 3), true) := by decide +kernel
theorem aw6 : checkS [(⟨#[120]⟩, 0)] 0 = 2 := by decide +kernel
theorem aw7 : checkS (formC 1 2) 3 = 0 := by decide +kernel
theorem aw8 : checkS (formC (-1) 1) 0 = 0 := by decide +kernel
theorem formC_len (x y : Int) : (formC x y).length ≤ 2 := by unfold formC; split <;> split <;> simp
theorem form_len {L : List Nat} {w : World} {a : Option Addr} {len cap : Nat} {x y : Int} (h : IsCoefs L w a len cap (formC x y)) : len ≤ 1000000 := by
  have h1 := h.size
  have h2 := formC_len x y
  omega
theorem coefs_one {w : World} {b : Nat} {s : ByteArray} {k : Int} {t : TypeId} (h : w.heap[b]? = some (.cells #[.string s, .int .i64 k] t (0, 0))) : IsCoefs [] w (some ⟨b, 0, none⟩) 1 1 [(s, k)] := by
  refine ⟨rfl, Nat.le_refl _, by simp, fun i hi => ⟨b, 0, rfl, ⟨blk_lt h, by simp⟩, ?_⟩⟩
  have : i = 0 := by simp at hi; exact hi
  subst this
  exact ⟨blk_cell h 0 _ rfl, blk_cell h 1 _ rfl⟩
theorem R11_Same_eq {L L' : List Nat} (w : World) (a1 a2 : Option Addr) (l1 l2 c1 c2 : Nat) (k : Int) (x : List (ByteArray × Int)) (h1 : IsCoefs L w a1 l1 c1 x) (h2 : IsCoefs L' w a2 l2 c2 x) (hm : l1 ≤ 1000000) :
    Calls Try.prog 15 #[.agg #[.slice a1 l1 c1, .int .i64 k], .agg #[.slice a2 l2 c2, .int .i64 k]] w fun e w' => e = .returned (.bool true) ∧ Ext w w' := by
  have := R11_Same w a1 a2 l1 l2 c1 c2 k k x x h1 h2 (by omega) (by have := h1.size; have := h2.size; omega)
  rw [sameS_refl] at this
  exact this
theorem R11_SameRow_eq {L L' : List Nat} (w : World) (a1 a2 : Option Addr) (l1 l2 c1 c2 : Nat) (k : Int) (e : Bool) (x : List (ByteArray × Int)) (h1 : IsCoefs L w a1 l1 c1 x) (h2 : IsCoefs L' w a2 l2 c2 x) (hm : l1 ≤ 1000000) :
    Calls Try.prog 12 #[.agg #[.slice a1 l1 c1, .int .i64 k, .bool e], .agg #[.slice a2 l2 c2, .int .i64 k, .bool e]] w fun e w' => e = .returned (.bool true) ∧ Ext w w' := by
  have := R11_SameRow w a1 a2 l1 l2 c1 c2 k k e e x x h1 h2 (by omega) (by have := h1.size; have := h2.size; omega)
  rw [sameS_refl, show (e == e) = true by simp] at this
  exact this

set_option maxHeartbeats 4000000 in
theorem L11_awake (w : World) : Calls Try.prog 9 #[] w fun e w' => e = .returned (.bool true) ∧ Ext w w' := by
  go_enter Try.func9, Try.ntmps9
  go_wp2_with fail
  refine (L11_form _ 2 (-4) 3).mono ?_
  rintro e w10 ⟨⟨v, rfl, a10, l10, c10, rfl, h⟩, he⟩
  have H10 := Lib.hid h
  have X10 := Lib.hid he
  clear h he
  go_wp2_with fail
  refine (linear_Tight _ a10 l10 c10 3 false _ H10.out (under_nil _) (form_len H10.out)).mono ?_
  rw [aw1]
  rintro e u1 ⟨v, rfl, ⟨b1, m1, r1, rfl, h⟩, he⟩
  have T1 := Lib.hid h
  have X1 := Lib.hid (Ext.trans X10.out he)
  clear h he
  go_wp2_with fail
  refine (L11_form _ 2 0 1).mono ?_
  rintro e w20 ⟨⟨v, rfl, a20, l20, c20, rfl, h⟩, he⟩
  have H20 := Lib.hid h
  have X20 := Lib.hid he
  clear h he
  go_wp2_with fail
  refine (linear_Tight _ a20 l20 c20 1 true _ H20.out (under_nil _) (form_len H20.out)).mono ?_
  rw [aw2]
  rintro e u2 ⟨v, rfl, ⟨b2, m2, r2, rfl, h⟩, he⟩
  have T2 := Lib.hid h
  have X2 := Lib.hid (Ext.trans X20.out he)
  clear h he
  go_wp2_with fail
  refine (L11_form _ (-6) 0 4).mono ?_
  rintro e w30 ⟨⟨v, rfl, a30, l30, c30, rfl, h⟩, he⟩
  have H30 := Lib.hid h
  have X30 := Lib.hid he
  clear h he
  go_wp2_with fail
  refine (linear_Form _ a30 l30 c30 4 _ H30.out (under_nil _) (form_len H30.out)).mono ?_
  rw [aw3]
  rintro e u3 ⟨⟨v, rfl, ⟨b3, m3, r3, rfl, h⟩⟩, he⟩
  have T3 := Lib.hid h
  have X3 := Lib.hid (Ext.trans X30.out he)
  clear h he
  go_wp2_with fail
  refine (L11_form _ 0 0 (-7)).mono ?_
  rintro e w40 ⟨⟨v, rfl, a40, l40, c40, rfl, h⟩, he⟩
  have H40 := Lib.hid h
  have X40 := Lib.hid he
  clear h he
  go_wp2_with fail
  refine (linear_Form _ a40 l40 c40 (-7) _ H40.out (under_nil _) (form_len H40.out)).mono ?_
  rw [aw4]
  rintro e u4 ⟨⟨v, rfl, ⟨b4, m4, r4, rfl, h⟩⟩, he⟩
  have T4 := Lib.hid h
  have X4 := Lib.hid (Ext.trans X40.out he)
  clear h he
  go_wp2_with fail
  refine (L11_form _ 1 2 3).mono ?_
  rintro e w50 ⟨⟨v, rfl, a50, l50, c50, rfl, h⟩, he⟩
  have H50 := Lib.hid h
  have X50 := Lib.hid he
  clear h he
  go_wp2_with fail
  refine (L11_form _ (-1) 1 0).mono ?_
  rintro e w51 ⟨⟨v, rfl, a51, l51, c51, rfl, h⟩, he⟩
  have H51 := Lib.hid h
  have X51 := Lib.hid he
  clear h he
  go_wp2_with fail
  refine (linear_Add_main _ a50 a51 l50 c50 l51 c51 3 0 _ _ (H50.out.below X51.out) H51.out (under_nil _) aw7 aw8).mono ?_
  rw [aw5]
  rintro e u5 ⟨⟨v, rfl, ⟨b5, m5, r5, rfl, h⟩⟩, he⟩
  have T5 := Lib.hid h
  have X5 := Lib.hid (Ext.trans X50.out (Ext.trans X51.out he))
  clear h he
  replace T5 : Hid (IsCoefs [] u5 b5 m5 r5 (formC 0 3)) := T5
  go_wp2_with fail
  have Z5 : Hid (Ext (u5.alloc (Obj.cells #[.slice b5 m5 r5, .int .i64 3] 24)) (u5.alloc (Obj.cells #[.slice b5 m5 r5, .int .i64 3] 24))) := Lib.hid (Ext.refl _)
  have Y5 : Hid (Ext u5 (u5.alloc (Obj.cells #[.slice b5 m5 r5, .int .i64 3] 24))) := Lib.hid (Ext.trans (Ext.alloc _ _) Z5.out)
  have Z4 : Hid (Ext (u4.alloc (Obj.cells #[.slice b4 m4 r4, .int .i64 1] 24)) (u5.alloc (Obj.cells #[.slice b5 m5 r5, .int .i64 3] 24))) := Lib.hid (Ext.trans X5.out Y5.out)
  have Y4 : Hid (Ext u4 (u5.alloc (Obj.cells #[.slice b5 m5 r5, .int .i64 3] 24))) := Lib.hid (Ext.trans (Ext.alloc _ _) Z4.out)
  have Z3 : Hid (Ext (u3.alloc (Obj.cells #[.slice b3 m3 r3, .int .i64 (-2)] 24)) (u5.alloc (Obj.cells #[.slice b5 m5 r5, .int .i64 3] 24))) := Lib.hid (Ext.trans X4.out Y4.out)
  have Y3 : Hid (Ext u3 (u5.alloc (Obj.cells #[.slice b5 m5 r5, .int .i64 3] 24))) := Lib.hid (Ext.trans (Ext.alloc _ _) Z3.out)
  have Z2 : Hid (Ext (u2.alloc (Obj.cells #[.slice b2 m2 r2, .int .i64 1, .bool false] 26)) (u5.alloc (Obj.cells #[.slice b5 m5 r5, .int .i64 3] 24))) := Lib.hid (Ext.trans X3.out Y3.out)
  have Y2 : Hid (Ext u2 (u5.alloc (Obj.cells #[.slice b5 m5 r5, .int .i64 3] 24))) := Lib.hid (Ext.trans (Ext.alloc _ _) Z2.out)
  have Z1 : Hid (Ext (u1.alloc (Obj.cells #[.slice b1 m1 r1, .int .i64 2, .bool false] 26)) (u5.alloc (Obj.cells #[.slice b5 m5 r5, .int .i64 3] 24))) := Lib.hid (Ext.trans X2.out Y2.out)
  have Y1 : Hid (Ext u1 (u5.alloc (Obj.cells #[.slice b5 m5 r5, .int .i64 3] 24))) := Lib.hid (Ext.trans (Ext.alloc _ _) Z1.out)
  have YW : Hid (Ext w (u5.alloc (Obj.cells #[.slice b5 m5 r5, .int .i64 3] 24))) := Lib.hid (Ext.trans X1.out Y1.out)
  have B1 := blk_ext (heap_new u1 (Obj.cells #[.slice b1 m1 r1, .int .i64 2, .bool false] 26)) Z1.out
  have c10 := blk_cell B1 0 _ rfl
  have c11 := blk_cell B1 1 _ rfl
  have c12 := blk_cell B1 2 _ rfl
  have B2 := blk_ext (heap_new u2 (Obj.cells #[.slice b2 m2 r2, .int .i64 1, .bool false] 26)) Z2.out
  have c20 := blk_cell B2 0 _ rfl
  have c21 := blk_cell B2 1 _ rfl
  have c22 := blk_cell B2 2 _ rfl
  have B3 := blk_ext (heap_new u3 (Obj.cells #[.slice b3 m3 r3, .int .i64 (-2)] 24)) Z3.out
  have c30 := blk_cell B3 0 _ rfl
  have c31 := blk_cell B3 1 _ rfl
  have B4 := blk_ext (heap_new u4 (Obj.cells #[.slice b4 m4 r4, .int .i64 1] 24)) Z4.out
  have c40 := blk_cell B4 0 _ rfl
  have c41 := blk_cell B4 1 _ rfl
  have B5 := blk_ext (heap_new u5 (Obj.cells #[.slice b5 m5 r5, .int .i64 3] 24)) Z5.out
  have c50 := blk_cell B5 0 _ rfl
  have c51 := blk_cell B5 1 _ rfl
  clear B1 B2 B3 B4 B5
  apply wp_region_ext [some 31, some 32, some 33, some 34, some 35, some 36, some 37, some 38, some 39, some 40, some 41, some 42, some 43, some 44, some 45, some 46, some 47, some 48, some 49, some 50, some 51, some 52, some 53, some 54, some 55, some 56, some 57, some 58, some 59, some 60, some 61, some 62, some 63, some 64, some 65, some 66, some 67, some 68, some 69, some 70, some 71, some 72, some 73, some 0] 44 43 [Is _, KLin [] (formC 1 (-2)) 2, KRw [] (formC 1 (-2), 2, false), Is _, Is _, Is _, KLin [] (formC 0 0) 1, KRw [] (formC 0 0, 1, false), Is _, Is _, Is _, Is _, KLin [] (formC 3 0) (-2), Is _, Is _, Is _, Is _, Is _, Is _, Is _, Is _, KLin [] (formC 0 0) 1, Is _, Is _, Is _, Is _, Is _, Is _, Is _, Is _, KLin [] (formC 0 3) 3, Is _, Is _, Is _, Is _, Is _, Is _, Is _, KL [] [(⟨#[120]⟩, 0)], KLin [] [(⟨#[120]⟩, 0)] 0, Is _, Is _, Is _] mixed rfl rfl (by decide) (by kernel_rfl)
  case hop =>
    refine allOps_cons ?o0 (allOps_cons ?o1 (allOps_cons ?o2 (allOps_cons ?o3 (allOps_cons ?o4 (allOps_cons ?o5 (allOps_cons ?o6 (allOps_cons ?o7 (allOps_cons ?o8 (allOps_cons ?o9 (allOps_cons ?o10 (allOps_cons ?o11 (allOps_cons ?o12 (allOps_cons ?o13 (allOps_cons ?o14 (allOps_cons ?o15 (allOps_cons ?o16 (allOps_cons ?o17 (allOps_cons ?o18 (allOps_cons ?o19 (allOps_cons ?o20 (allOps_cons ?o21 (allOps_cons ?o22 (allOps_cons ?o23 (allOps_cons ?o24 (allOps_cons ?o25 (allOps_cons ?o26 (allOps_cons ?o27 (allOps_cons ?o28 (allOps_cons ?o29 (allOps_cons ?o30 (allOps_cons ?o31 (allOps_cons ?o32 (allOps_cons ?o33 (allOps_cons ?o34 (allOps_cons ?o35 (allOps_cons ?o36 (allOps_cons ?o37 (allOps_cons ?o38 (allOps_cons ?o39 (allOps_cons ?o40 (allOps_cons ?o41 (allOps_cons ?o42 allOps_nil))))))))))))))))))))))))))))))))))))))))))
    case o0 =>
      refine opGoal_plain rfl rfl (by simp) fun f w' hr hk => ?_
      have d10 := hr.cell c10
      have d11 := hr.cell c11
      have d12 := hr.cell c12
      have d20 := hr.cell c20
      have d21 := hr.cell c21
      have d22 := hr.cell c22
      have d30 := hr.cell c30
      have d31 := hr.cell c31
      have d40 := hr.cell c40
      have d41 := hr.cell c41
      have d50 := hr.cell c50
      have d51 := hr.cell c51
      have HR := Lib.hid hr
      clear hr
      simp [putD, depsO, depsL, phi, Is, KnowAll, Region.binds, put_some, put_none, KLin, KRw, KL] at hk ⊢
      try simp only [hk]
      go_wp2
      exact onePost_is _ rfl rfl ⟨Ext.refl _, rfl⟩
    case o1 =>
      refine opGoal_plain rfl rfl (by simp) fun f w' hr hk => ?_
      have d10 := hr.cell c10
      have d11 := hr.cell c11
      have d12 := hr.cell c12
      have d20 := hr.cell c20
      have d21 := hr.cell c21
      have d22 := hr.cell c22
      have d30 := hr.cell c30
      have d31 := hr.cell c31
      have d40 := hr.cell c40
      have d41 := hr.cell c41
      have d50 := hr.cell c50
      have d51 := hr.cell c51
      have HR := Lib.hid hr
      clear hr
      simp [putD, depsO, depsL, phi, Is, KnowAll, Region.binds, put_some, put_none, KLin, KRw, KL] at hk ⊢
      go_wp2_with (go_at_call 28; refine (L11_form _ _ _ _).mono ?_; rintro e w2 ⟨⟨v, rfl, h⟩, he⟩)
      exact ⟨rfl, rfl, he, h⟩
    case o2 =>
      refine opGoal_plain rfl rfl (by simp) fun f w' hr hk => ?_
      have d10 := hr.cell c10
      have d11 := hr.cell c11
      have d12 := hr.cell c12
      have d20 := hr.cell c20
      have d21 := hr.cell c21
      have d22 := hr.cell c22
      have d30 := hr.cell c30
      have d31 := hr.cell c31
      have d40 := hr.cell c40
      have d41 := hr.cell c41
      have d50 := hr.cell c50
      have d51 := hr.cell c51
      have HR := Lib.hid hr
      clear hr
      simp [putD, depsO, depsL, phi, Is, KnowAll, Region.binds, put_some, put_none, KLin, KRw, KL] at hk ⊢
      obtain ⟨a, l, c, e, h⟩ := hk
      rw [e]
      go_wp2
      exact ⟨rfl, rfl, Ext.refl _, a, l, c, rfl, h⟩
    case o3 =>
      refine opGoal_plain rfl rfl (by simp) fun f w' hr hk => ?_
      have d10 := hr.cell c10
      have d11 := hr.cell c11
      have d12 := hr.cell c12
      have d20 := hr.cell c20
      have d21 := hr.cell c21
      have d22 := hr.cell c22
      have d30 := hr.cell c30
      have d31 := hr.cell c31
      have d40 := hr.cell c40
      have d41 := hr.cell c41
      have d50 := hr.cell c50
      have d51 := hr.cell c51
      have HR := Lib.hid hr
      clear hr
      simp [putD, depsO, depsL, phi, Is, KnowAll, Region.binds, put_some, put_none, KLin, KRw, KL] at hk ⊢
      obtain ⟨e0, ⟨a, l, c, e, h⟩, -⟩ := hk
      rw [e0, e]
      go_wp2_with (go_at_call 12; refine (R11_SameRow_eq _ _ _ _ _ _ _ _ _ _ (T1.out.below (Ext.trans Y1.out HR.out)) h (form_len T1.out)).mono ?_; rintro e w2 ⟨rfl, he⟩)
      exact ⟨rfl, rfl, he, rfl⟩
    case o4 =>
      refine opGoal_plain rfl rfl (by simp) fun f w' hr hk => ?_
      have d10 := hr.cell c10
      have d11 := hr.cell c11
      have d12 := hr.cell c12
      have d20 := hr.cell c20
      have d21 := hr.cell c21
      have d22 := hr.cell c22
      have d30 := hr.cell c30
      have d31 := hr.cell c31
      have d40 := hr.cell c40
      have d41 := hr.cell c41
      have d50 := hr.cell c50
      have d51 := hr.cell c51
      have HR := Lib.hid hr
      clear hr
      simp [putD, depsO, depsL, phi, Is, KnowAll, Region.binds, put_some, put_none, KLin, KRw, KL] at hk ⊢
      try simp only [hk]
      go_wp2
      exact onePost_is _ rfl rfl ⟨Ext.refl _, rfl⟩
    case o5 =>
      refine opGoal_guard rfl rfl (by simp) fun f w' hr hk => ?_
      have d10 := hr.cell c10
      have d11 := hr.cell c11
      have d12 := hr.cell c12
      have d20 := hr.cell c20
      have d21 := hr.cell c21
      have d22 := hr.cell c22
      have d30 := hr.cell c30
      have d31 := hr.cell c31
      have d40 := hr.cell c40
      have d41 := hr.cell c41
      have d50 := hr.cell c50
      have d51 := hr.cell c51
      have HR := Lib.hid hr
      clear hr
      refine ⟨by simp [putD, depsO, depsL, phi, Is, KnowAll, Region.binds, put_some, put_none, KLin, KRw, KL] at hk; simp [wantD, hk, putD, depsO, depsL, phi, Is, KnowAll, Region.binds, put_some, put_none, KLin, KRw, KL], ?_⟩
      simp [putD, depsO, depsL, phi, Is, KnowAll, Region.binds, put_some, put_none, KLin, KRw, KL] at hk ⊢
      try simp only [hk]
      go_wp2
      exact onePost_is _ rfl rfl ⟨Ext.refl _, rfl⟩
    case o6 =>
      refine opGoal_guard rfl rfl (by simp) fun f w' hr hk => ?_
      have d10 := hr.cell c10
      have d11 := hr.cell c11
      have d12 := hr.cell c12
      have d20 := hr.cell c20
      have d21 := hr.cell c21
      have d22 := hr.cell c22
      have d30 := hr.cell c30
      have d31 := hr.cell c31
      have d40 := hr.cell c40
      have d41 := hr.cell c41
      have d50 := hr.cell c50
      have d51 := hr.cell c51
      have HR := Lib.hid hr
      clear hr
      refine ⟨by simp [putD, depsO, depsL, phi, Is, KnowAll, Region.binds, put_some, put_none, KLin, KRw, KL] at hk; simp [wantD, hk, putD, depsO, depsL, phi, Is, KnowAll, Region.binds, put_some, put_none, KLin, KRw, KL], ?_⟩
      simp [putD, depsO, depsL, phi, Is, KnowAll, Region.binds, put_some, put_none, KLin, KRw, KL] at hk ⊢
      go_wp2_with (go_at_call 28; refine (L11_form _ _ _ _).mono ?_; rintro e w2 ⟨⟨v, rfl, h⟩, he⟩)
      exact ⟨rfl, rfl, he, h⟩
    case o7 =>
      refine opGoal_guard rfl rfl (by simp) fun f w' hr hk => ?_
      have d10 := hr.cell c10
      have d11 := hr.cell c11
      have d12 := hr.cell c12
      have d20 := hr.cell c20
      have d21 := hr.cell c21
      have d22 := hr.cell c22
      have d30 := hr.cell c30
      have d31 := hr.cell c31
      have d40 := hr.cell c40
      have d41 := hr.cell c41
      have d50 := hr.cell c50
      have d51 := hr.cell c51
      have HR := Lib.hid hr
      clear hr
      refine ⟨by simp [putD, depsO, depsL, phi, Is, KnowAll, Region.binds, put_some, put_none, KLin, KRw, KL] at hk; simp [wantD, hk, putD, depsO, depsL, phi, Is, KnowAll, Region.binds, put_some, put_none, KLin, KRw, KL], ?_⟩
      simp [putD, depsO, depsL, phi, Is, KnowAll, Region.binds, put_some, put_none, KLin, KRw, KL] at hk ⊢
      obtain ⟨⟨a, l, c, e, h⟩, -⟩ := hk
      rw [e]
      go_wp2
      exact ⟨rfl, rfl, Ext.refl _, a, l, c, rfl, h⟩
    case o8 =>
      refine opGoal_guard rfl rfl (by simp) fun f w' hr hk => ?_
      have d10 := hr.cell c10
      have d11 := hr.cell c11
      have d12 := hr.cell c12
      have d20 := hr.cell c20
      have d21 := hr.cell c21
      have d22 := hr.cell c22
      have d30 := hr.cell c30
      have d31 := hr.cell c31
      have d40 := hr.cell c40
      have d41 := hr.cell c41
      have d50 := hr.cell c50
      have d51 := hr.cell c51
      have HR := Lib.hid hr
      clear hr
      refine ⟨by simp [putD, depsO, depsL, phi, Is, KnowAll, Region.binds, put_some, put_none, KLin, KRw, KL] at hk; simp [wantD, hk, putD, depsO, depsL, phi, Is, KnowAll, Region.binds, put_some, put_none, KLin, KRw, KL], ?_⟩
      simp [putD, depsO, depsL, phi, Is, KnowAll, Region.binds, put_some, put_none, KLin, KRw, KL] at hk ⊢
      obtain ⟨e0, ⟨a, l, c, e, h⟩, -⟩ := hk
      rw [e0, e]
      go_wp2_with (go_at_call 12; refine (R11_SameRow_eq _ _ _ _ _ _ _ _ _ _ (T2.out.below (Ext.trans Y2.out HR.out)) h (form_len T2.out)).mono ?_; rintro e w2 ⟨rfl, he⟩)
      exact ⟨rfl, rfl, he, rfl⟩
    case o9 =>
      refine opGoal_plain rfl rfl (by simp) fun f w' hr hk => ?_
      have d10 := hr.cell c10
      have d11 := hr.cell c11
      have d12 := hr.cell c12
      have d20 := hr.cell c20
      have d21 := hr.cell c21
      have d22 := hr.cell c22
      have d30 := hr.cell c30
      have d31 := hr.cell c31
      have d40 := hr.cell c40
      have d41 := hr.cell c41
      have d50 := hr.cell c50
      have d51 := hr.cell c51
      have HR := Lib.hid hr
      clear hr
      simp [putD, depsO, depsL, phi, Is, KnowAll, Region.binds, put_some, put_none, KLin, KRw, KL] at hk ⊢
      try simp only [hk]
      go_wp2
      exact onePost_is _ rfl rfl ⟨Ext.refl _, rfl⟩
    case o10 =>
      refine opGoal_plain rfl rfl (by simp) fun f w' hr hk => ?_
      have d10 := hr.cell c10
      have d11 := hr.cell c11
      have d12 := hr.cell c12
      have d20 := hr.cell c20
      have d21 := hr.cell c21
      have d22 := hr.cell c22
      have d30 := hr.cell c30
      have d31 := hr.cell c31
      have d40 := hr.cell c40
      have d41 := hr.cell c41
      have d50 := hr.cell c50
      have d51 := hr.cell c51
      have HR := Lib.hid hr
      clear hr
      simp [putD, depsO, depsL, phi, Is, KnowAll, Region.binds, put_some, put_none, KLin, KRw, KL] at hk ⊢
      try simp only [hk]
      go_wp2
      exact onePost_is _ rfl rfl ⟨Ext.refl _, rfl⟩
    case o11 =>
      refine opGoal_guard rfl rfl (by simp) fun f w' hr hk => ?_
      have d10 := hr.cell c10
      have d11 := hr.cell c11
      have d12 := hr.cell c12
      have d20 := hr.cell c20
      have d21 := hr.cell c21
      have d22 := hr.cell c22
      have d30 := hr.cell c30
      have d31 := hr.cell c31
      have d40 := hr.cell c40
      have d41 := hr.cell c41
      have d50 := hr.cell c50
      have d51 := hr.cell c51
      have HR := Lib.hid hr
      clear hr
      refine ⟨by simp [putD, depsO, depsL, phi, Is, KnowAll, Region.binds, put_some, put_none, KLin, KRw, KL] at hk; simp [wantD, hk, putD, depsO, depsL, phi, Is, KnowAll, Region.binds, put_some, put_none, KLin, KRw, KL], ?_⟩
      simp [putD, depsO, depsL, phi, Is, KnowAll, Region.binds, put_some, put_none, KLin, KRw, KL] at hk ⊢
      try simp only [hk]
      go_wp2
      exact onePost_is _ rfl rfl ⟨Ext.refl _, rfl⟩
    case o12 =>
      refine opGoal_guard rfl rfl (by simp) fun f w' hr hk => ?_
      have d10 := hr.cell c10
      have d11 := hr.cell c11
      have d12 := hr.cell c12
      have d20 := hr.cell c20
      have d21 := hr.cell c21
      have d22 := hr.cell c22
      have d30 := hr.cell c30
      have d31 := hr.cell c31
      have d40 := hr.cell c40
      have d41 := hr.cell c41
      have d50 := hr.cell c50
      have d51 := hr.cell c51
      have HR := Lib.hid hr
      clear hr
      refine ⟨by simp [putD, depsO, depsL, phi, Is, KnowAll, Region.binds, put_some, put_none, KLin, KRw, KL] at hk; simp [wantD, hk, putD, depsO, depsL, phi, Is, KnowAll, Region.binds, put_some, put_none, KLin, KRw, KL], ?_⟩
      simp [putD, depsO, depsL, phi, Is, KnowAll, Region.binds, put_some, put_none, KLin, KRw, KL] at hk ⊢
      go_wp2_with (go_at_call 28; refine (L11_form _ _ _ _).mono ?_; rintro e w2 ⟨⟨v, rfl, h⟩, he⟩)
      exact ⟨rfl, rfl, he, h⟩
    case o13 =>
      refine opGoal_guard rfl rfl (by simp) fun f w' hr hk => ?_
      have d10 := hr.cell c10
      have d11 := hr.cell c11
      have d12 := hr.cell c12
      have d20 := hr.cell c20
      have d21 := hr.cell c21
      have d22 := hr.cell c22
      have d30 := hr.cell c30
      have d31 := hr.cell c31
      have d40 := hr.cell c40
      have d41 := hr.cell c41
      have d50 := hr.cell c50
      have d51 := hr.cell c51
      have HR := Lib.hid hr
      clear hr
      refine ⟨by simp [putD, depsO, depsL, phi, Is, KnowAll, Region.binds, put_some, put_none, KLin, KRw, KL] at hk; simp [wantD, hk, putD, depsO, depsL, phi, Is, KnowAll, Region.binds, put_some, put_none, KLin, KRw, KL], ?_⟩
      simp [putD, depsO, depsL, phi, Is, KnowAll, Region.binds, put_some, put_none, KLin, KRw, KL] at hk ⊢
      obtain ⟨e0, ⟨a, l, c, e, h⟩, -⟩ := hk
      rw [e0, e]
      go_wp2_with (go_at_call 15; refine (R11_Same_eq _ _ _ _ _ _ _ _ _ (T3.out.below (Ext.trans Y3.out HR.out)) h (form_len T3.out)).mono ?_; rintro e w2 ⟨rfl, he⟩)
      exact ⟨rfl, rfl, he, rfl⟩
    case o14 =>
      refine opGoal_plain rfl rfl (by simp) fun f w' hr hk => ?_
      have d10 := hr.cell c10
      have d11 := hr.cell c11
      have d12 := hr.cell c12
      have d20 := hr.cell c20
      have d21 := hr.cell c21
      have d22 := hr.cell c22
      have d30 := hr.cell c30
      have d31 := hr.cell c31
      have d40 := hr.cell c40
      have d41 := hr.cell c41
      have d50 := hr.cell c50
      have d51 := hr.cell c51
      have HR := Lib.hid hr
      clear hr
      simp [putD, depsO, depsL, phi, Is, KnowAll, Region.binds, put_some, put_none, KLin, KRw, KL] at hk ⊢
      try simp only [hk]
      go_wp2
      exact onePost_is _ rfl rfl ⟨Ext.refl _, rfl⟩
    case o15 =>
      refine opGoal_plain rfl rfl (by simp) fun f w' hr hk => ?_
      have d10 := hr.cell c10
      have d11 := hr.cell c11
      have d12 := hr.cell c12
      have d20 := hr.cell c20
      have d21 := hr.cell c21
      have d22 := hr.cell c22
      have d30 := hr.cell c30
      have d31 := hr.cell c31
      have d40 := hr.cell c40
      have d41 := hr.cell c41
      have d50 := hr.cell c50
      have d51 := hr.cell c51
      have HR := Lib.hid hr
      clear hr
      simp [putD, depsO, depsL, phi, Is, KnowAll, Region.binds, put_some, put_none, KLin, KRw, KL] at hk ⊢
      try simp only [hk]
      go_wp2
      exact onePost_is _ rfl rfl ⟨Ext.refl _, rfl⟩
    case o16 =>
      refine opGoal_guard rfl rfl (by simp) fun f w' hr hk => ?_
      have d10 := hr.cell c10
      have d11 := hr.cell c11
      have d12 := hr.cell c12
      have d20 := hr.cell c20
      have d21 := hr.cell c21
      have d22 := hr.cell c22
      have d30 := hr.cell c30
      have d31 := hr.cell c31
      have d40 := hr.cell c40
      have d41 := hr.cell c41
      have d50 := hr.cell c50
      have d51 := hr.cell c51
      have HR := Lib.hid hr
      clear hr
      refine ⟨by simp [putD, depsO, depsL, phi, Is, KnowAll, Region.binds, put_some, put_none, KLin, KRw, KL] at hk; simp [wantD, hk, putD, depsO, depsL, phi, Is, KnowAll, Region.binds, put_some, put_none, KLin, KRw, KL], ?_⟩
      simp [putD, depsO, depsL, phi, Is, KnowAll, Region.binds, put_some, put_none, KLin, KRw, KL] at hk ⊢
      try simp only [hk]
      go_wp2
      exact onePost_is _ rfl rfl ⟨Ext.refl _, rfl⟩
    case o17 =>
      refine opGoal_guard rfl rfl (by simp) fun f w' hr hk => ?_
      have d10 := hr.cell c10
      have d11 := hr.cell c11
      have d12 := hr.cell c12
      have d20 := hr.cell c20
      have d21 := hr.cell c21
      have d22 := hr.cell c22
      have d30 := hr.cell c30
      have d31 := hr.cell c31
      have d40 := hr.cell c40
      have d41 := hr.cell c41
      have d50 := hr.cell c50
      have d51 := hr.cell c51
      have HR := Lib.hid hr
      clear hr
      refine ⟨by simp [putD, depsO, depsL, phi, Is, KnowAll, Region.binds, put_some, put_none, KLin, KRw, KL] at hk; simp [wantD, hk, putD, depsO, depsL, phi, Is, KnowAll, Region.binds, put_some, put_none, KLin, KRw, KL], ?_⟩
      simp [putD, depsO, depsL, phi, Is, KnowAll, Region.binds, put_some, put_none, KLin, KRw, KL] at hk ⊢
      try simp only [hk]
      go_wp2
      exact onePost_is _ rfl rfl ⟨Ext.refl _, rfl⟩
    case o18 =>
      refine opGoal_plain rfl rfl (by simp) fun f w' hr hk => ?_
      have d10 := hr.cell c10
      have d11 := hr.cell c11
      have d12 := hr.cell c12
      have d20 := hr.cell c20
      have d21 := hr.cell c21
      have d22 := hr.cell c22
      have d30 := hr.cell c30
      have d31 := hr.cell c31
      have d40 := hr.cell c40
      have d41 := hr.cell c41
      have d50 := hr.cell c50
      have d51 := hr.cell c51
      have HR := Lib.hid hr
      clear hr
      simp [putD, depsO, depsL, phi, Is, KnowAll, Region.binds, put_some, put_none, KLin, KRw, KL] at hk ⊢
      try simp only [hk]
      go_wp2
      exact onePost_is _ rfl rfl ⟨Ext.refl _, rfl⟩
    case o19 =>
      refine opGoal_plain rfl rfl (by simp) fun f w' hr hk => ?_
      have d10 := hr.cell c10
      have d11 := hr.cell c11
      have d12 := hr.cell c12
      have d20 := hr.cell c20
      have d21 := hr.cell c21
      have d22 := hr.cell c22
      have d30 := hr.cell c30
      have d31 := hr.cell c31
      have d40 := hr.cell c40
      have d41 := hr.cell c41
      have d50 := hr.cell c50
      have d51 := hr.cell c51
      have HR := Lib.hid hr
      clear hr
      simp [putD, depsO, depsL, phi, Is, KnowAll, Region.binds, put_some, put_none, KLin, KRw, KL] at hk ⊢
      try simp only [hk]
      go_wp2
      exact onePost_is _ rfl rfl ⟨Ext.refl _, rfl⟩
    case o20 =>
      refine opGoal_guard rfl rfl (by simp) fun f w' hr hk => ?_
      have d10 := hr.cell c10
      have d11 := hr.cell c11
      have d12 := hr.cell c12
      have d20 := hr.cell c20
      have d21 := hr.cell c21
      have d22 := hr.cell c22
      have d30 := hr.cell c30
      have d31 := hr.cell c31
      have d40 := hr.cell c40
      have d41 := hr.cell c41
      have d50 := hr.cell c50
      have d51 := hr.cell c51
      have HR := Lib.hid hr
      clear hr
      refine ⟨by simp [putD, depsO, depsL, phi, Is, KnowAll, Region.binds, put_some, put_none, KLin, KRw, KL] at hk; simp [wantD, hk, putD, depsO, depsL, phi, Is, KnowAll, Region.binds, put_some, put_none, KLin, KRw, KL], ?_⟩
      simp [putD, depsO, depsL, phi, Is, KnowAll, Region.binds, put_some, put_none, KLin, KRw, KL] at hk ⊢
      try simp only [hk]
      go_wp2
      exact onePost_is _ rfl rfl ⟨Ext.refl _, rfl⟩
    case o21 =>
      refine opGoal_guard rfl rfl (by simp) fun f w' hr hk => ?_
      have d10 := hr.cell c10
      have d11 := hr.cell c11
      have d12 := hr.cell c12
      have d20 := hr.cell c20
      have d21 := hr.cell c21
      have d22 := hr.cell c22
      have d30 := hr.cell c30
      have d31 := hr.cell c31
      have d40 := hr.cell c40
      have d41 := hr.cell c41
      have d50 := hr.cell c50
      have d51 := hr.cell c51
      have HR := Lib.hid hr
      clear hr
      refine ⟨by simp [putD, depsO, depsL, phi, Is, KnowAll, Region.binds, put_some, put_none, KLin, KRw, KL] at hk; simp [wantD, hk, putD, depsO, depsL, phi, Is, KnowAll, Region.binds, put_some, put_none, KLin, KRw, KL], ?_⟩
      simp [putD, depsO, depsL, phi, Is, KnowAll, Region.binds, put_some, put_none, KLin, KRw, KL] at hk ⊢
      go_wp2_with (go_at_call 28; refine (L11_form _ _ _ _).mono ?_; rintro e w2 ⟨⟨v, rfl, h⟩, he⟩)
      exact ⟨rfl, rfl, he, h⟩
    case o22 =>
      refine opGoal_guard rfl rfl (by simp) fun f w' hr hk => ?_
      have d10 := hr.cell c10
      have d11 := hr.cell c11
      have d12 := hr.cell c12
      have d20 := hr.cell c20
      have d21 := hr.cell c21
      have d22 := hr.cell c22
      have d30 := hr.cell c30
      have d31 := hr.cell c31
      have d40 := hr.cell c40
      have d41 := hr.cell c41
      have d50 := hr.cell c50
      have d51 := hr.cell c51
      have HR := Lib.hid hr
      clear hr
      refine ⟨by simp [putD, depsO, depsL, phi, Is, KnowAll, Region.binds, put_some, put_none, KLin, KRw, KL] at hk; simp [wantD, hk, putD, depsO, depsL, phi, Is, KnowAll, Region.binds, put_some, put_none, KLin, KRw, KL], ?_⟩
      simp [putD, depsO, depsL, phi, Is, KnowAll, Region.binds, put_some, put_none, KLin, KRw, KL] at hk ⊢
      obtain ⟨e0, ⟨a, l, c, e, h⟩, -⟩ := hk
      rw [e0, e]
      go_wp2_with (go_at_call 15; refine (R11_Same_eq _ _ _ _ _ _ _ _ _ (T4.out.below (Ext.trans Y4.out HR.out)) h (form_len T4.out)).mono ?_; rintro e w2 ⟨rfl, he⟩)
      exact ⟨rfl, rfl, he, rfl⟩
    case o23 =>
      refine opGoal_plain rfl rfl (by simp) fun f w' hr hk => ?_
      have d10 := hr.cell c10
      have d11 := hr.cell c11
      have d12 := hr.cell c12
      have d20 := hr.cell c20
      have d21 := hr.cell c21
      have d22 := hr.cell c22
      have d30 := hr.cell c30
      have d31 := hr.cell c31
      have d40 := hr.cell c40
      have d41 := hr.cell c41
      have d50 := hr.cell c50
      have d51 := hr.cell c51
      have HR := Lib.hid hr
      clear hr
      simp [putD, depsO, depsL, phi, Is, KnowAll, Region.binds, put_some, put_none, KLin, KRw, KL] at hk ⊢
      try simp only [hk]
      go_wp2
      exact onePost_is _ rfl rfl ⟨Ext.refl _, rfl⟩
    case o24 =>
      refine opGoal_plain rfl rfl (by simp) fun f w' hr hk => ?_
      have d10 := hr.cell c10
      have d11 := hr.cell c11
      have d12 := hr.cell c12
      have d20 := hr.cell c20
      have d21 := hr.cell c21
      have d22 := hr.cell c22
      have d30 := hr.cell c30
      have d31 := hr.cell c31
      have d40 := hr.cell c40
      have d41 := hr.cell c41
      have d50 := hr.cell c50
      have d51 := hr.cell c51
      have HR := Lib.hid hr
      clear hr
      simp [putD, depsO, depsL, phi, Is, KnowAll, Region.binds, put_some, put_none, KLin, KRw, KL] at hk ⊢
      try simp only [hk]
      go_wp2
      exact onePost_is _ rfl rfl ⟨Ext.refl _, rfl⟩
    case o25 =>
      refine opGoal_guard rfl rfl (by simp) fun f w' hr hk => ?_
      have d10 := hr.cell c10
      have d11 := hr.cell c11
      have d12 := hr.cell c12
      have d20 := hr.cell c20
      have d21 := hr.cell c21
      have d22 := hr.cell c22
      have d30 := hr.cell c30
      have d31 := hr.cell c31
      have d40 := hr.cell c40
      have d41 := hr.cell c41
      have d50 := hr.cell c50
      have d51 := hr.cell c51
      have HR := Lib.hid hr
      clear hr
      refine ⟨by simp [putD, depsO, depsL, phi, Is, KnowAll, Region.binds, put_some, put_none, KLin, KRw, KL] at hk; simp [wantD, hk, putD, depsO, depsL, phi, Is, KnowAll, Region.binds, put_some, put_none, KLin, KRw, KL], ?_⟩
      simp [putD, depsO, depsL, phi, Is, KnowAll, Region.binds, put_some, put_none, KLin, KRw, KL] at hk ⊢
      try simp only [hk]
      go_wp2
      exact onePost_is _ rfl rfl ⟨Ext.refl _, rfl⟩
    case o26 =>
      refine opGoal_guard rfl rfl (by simp) fun f w' hr hk => ?_
      have d10 := hr.cell c10
      have d11 := hr.cell c11
      have d12 := hr.cell c12
      have d20 := hr.cell c20
      have d21 := hr.cell c21
      have d22 := hr.cell c22
      have d30 := hr.cell c30
      have d31 := hr.cell c31
      have d40 := hr.cell c40
      have d41 := hr.cell c41
      have d50 := hr.cell c50
      have d51 := hr.cell c51
      have HR := Lib.hid hr
      clear hr
      refine ⟨by simp [putD, depsO, depsL, phi, Is, KnowAll, Region.binds, put_some, put_none, KLin, KRw, KL] at hk; simp [wantD, hk, putD, depsO, depsL, phi, Is, KnowAll, Region.binds, put_some, put_none, KLin, KRw, KL], ?_⟩
      simp [putD, depsO, depsL, phi, Is, KnowAll, Region.binds, put_some, put_none, KLin, KRw, KL] at hk ⊢
      try simp only [hk]
      go_wp2
      exact onePost_is _ rfl rfl ⟨Ext.refl _, rfl⟩
    case o27 =>
      refine opGoal_plain rfl rfl (by simp) fun f w' hr hk => ?_
      have d10 := hr.cell c10
      have d11 := hr.cell c11
      have d12 := hr.cell c12
      have d20 := hr.cell c20
      have d21 := hr.cell c21
      have d22 := hr.cell c22
      have d30 := hr.cell c30
      have d31 := hr.cell c31
      have d40 := hr.cell c40
      have d41 := hr.cell c41
      have d50 := hr.cell c50
      have d51 := hr.cell c51
      have HR := Lib.hid hr
      clear hr
      simp [putD, depsO, depsL, phi, Is, KnowAll, Region.binds, put_some, put_none, KLin, KRw, KL] at hk ⊢
      try simp only [hk]
      go_wp2
      exact onePost_is _ rfl rfl ⟨Ext.refl _, rfl⟩
    case o28 =>
      refine opGoal_plain rfl rfl (by simp) fun f w' hr hk => ?_
      have d10 := hr.cell c10
      have d11 := hr.cell c11
      have d12 := hr.cell c12
      have d20 := hr.cell c20
      have d21 := hr.cell c21
      have d22 := hr.cell c22
      have d30 := hr.cell c30
      have d31 := hr.cell c31
      have d40 := hr.cell c40
      have d41 := hr.cell c41
      have d50 := hr.cell c50
      have d51 := hr.cell c51
      have HR := Lib.hid hr
      clear hr
      simp [putD, depsO, depsL, phi, Is, KnowAll, Region.binds, put_some, put_none, KLin, KRw, KL] at hk ⊢
      try simp only [hk]
      go_wp2
      exact onePost_is _ rfl rfl ⟨Ext.refl _, rfl⟩
    case o29 =>
      refine opGoal_guard rfl rfl (by simp) fun f w' hr hk => ?_
      have d10 := hr.cell c10
      have d11 := hr.cell c11
      have d12 := hr.cell c12
      have d20 := hr.cell c20
      have d21 := hr.cell c21
      have d22 := hr.cell c22
      have d30 := hr.cell c30
      have d31 := hr.cell c31
      have d40 := hr.cell c40
      have d41 := hr.cell c41
      have d50 := hr.cell c50
      have d51 := hr.cell c51
      have HR := Lib.hid hr
      clear hr
      refine ⟨by simp [putD, depsO, depsL, phi, Is, KnowAll, Region.binds, put_some, put_none, KLin, KRw, KL] at hk; simp [wantD, hk, putD, depsO, depsL, phi, Is, KnowAll, Region.binds, put_some, put_none, KLin, KRw, KL], ?_⟩
      simp [putD, depsO, depsL, phi, Is, KnowAll, Region.binds, put_some, put_none, KLin, KRw, KL] at hk ⊢
      try simp only [hk]
      go_wp2
      exact onePost_is _ rfl rfl ⟨Ext.refl _, rfl⟩
    case o30 =>
      refine opGoal_guard rfl rfl (by simp) fun f w' hr hk => ?_
      have d10 := hr.cell c10
      have d11 := hr.cell c11
      have d12 := hr.cell c12
      have d20 := hr.cell c20
      have d21 := hr.cell c21
      have d22 := hr.cell c22
      have d30 := hr.cell c30
      have d31 := hr.cell c31
      have d40 := hr.cell c40
      have d41 := hr.cell c41
      have d50 := hr.cell c50
      have d51 := hr.cell c51
      have HR := Lib.hid hr
      clear hr
      refine ⟨by simp [putD, depsO, depsL, phi, Is, KnowAll, Region.binds, put_some, put_none, KLin, KRw, KL] at hk; simp [wantD, hk, putD, depsO, depsL, phi, Is, KnowAll, Region.binds, put_some, put_none, KLin, KRw, KL], ?_⟩
      simp [putD, depsO, depsL, phi, Is, KnowAll, Region.binds, put_some, put_none, KLin, KRw, KL] at hk ⊢
      go_wp2_with (go_at_call 28; refine (L11_form _ _ _ _).mono ?_; rintro e w2 ⟨⟨v, rfl, h⟩, he⟩)
      exact ⟨rfl, rfl, he, h⟩
    case o31 =>
      refine opGoal_guard rfl rfl (by simp) fun f w' hr hk => ?_
      have d10 := hr.cell c10
      have d11 := hr.cell c11
      have d12 := hr.cell c12
      have d20 := hr.cell c20
      have d21 := hr.cell c21
      have d22 := hr.cell c22
      have d30 := hr.cell c30
      have d31 := hr.cell c31
      have d40 := hr.cell c40
      have d41 := hr.cell c41
      have d50 := hr.cell c50
      have d51 := hr.cell c51
      have HR := Lib.hid hr
      clear hr
      refine ⟨by simp [putD, depsO, depsL, phi, Is, KnowAll, Region.binds, put_some, put_none, KLin, KRw, KL] at hk; simp [wantD, hk, putD, depsO, depsL, phi, Is, KnowAll, Region.binds, put_some, put_none, KLin, KRw, KL], ?_⟩
      simp [putD, depsO, depsL, phi, Is, KnowAll, Region.binds, put_some, put_none, KLin, KRw, KL] at hk ⊢
      obtain ⟨e0, ⟨a, l, c, e, h⟩, -⟩ := hk
      rw [e0, e]
      go_wp2_with (go_at_call 15; refine (R11_Same_eq _ _ _ _ _ _ _ _ _ (T5.out.below (Ext.trans Y5.out HR.out)) h (form_len T5.out)).mono ?_; rintro e w2 ⟨rfl, he⟩)
      exact ⟨rfl, rfl, he, rfl⟩
    case o32 =>
      refine opGoal_plain rfl rfl (by simp) fun f w' hr hk => ?_
      have d10 := hr.cell c10
      have d11 := hr.cell c11
      have d12 := hr.cell c12
      have d20 := hr.cell c20
      have d21 := hr.cell c21
      have d22 := hr.cell c22
      have d30 := hr.cell c30
      have d31 := hr.cell c31
      have d40 := hr.cell c40
      have d41 := hr.cell c41
      have d50 := hr.cell c50
      have d51 := hr.cell c51
      have HR := Lib.hid hr
      clear hr
      simp [putD, depsO, depsL, phi, Is, KnowAll, Region.binds, put_some, put_none, KLin, KRw, KL] at hk ⊢
      try simp only [hk]
      go_wp2
      exact onePost_is _ rfl rfl ⟨Ext.refl _, rfl⟩
    case o33 =>
      refine opGoal_plain rfl rfl (by simp) fun f w' hr hk => ?_
      have d10 := hr.cell c10
      have d11 := hr.cell c11
      have d12 := hr.cell c12
      have d20 := hr.cell c20
      have d21 := hr.cell c21
      have d22 := hr.cell c22
      have d30 := hr.cell c30
      have d31 := hr.cell c31
      have d40 := hr.cell c40
      have d41 := hr.cell c41
      have d50 := hr.cell c50
      have d51 := hr.cell c51
      have HR := Lib.hid hr
      clear hr
      simp [putD, depsO, depsL, phi, Is, KnowAll, Region.binds, put_some, put_none, KLin, KRw, KL] at hk ⊢
      try simp only [hk]
      go_wp2
      exact onePost_is _ rfl rfl ⟨Ext.refl _, rfl⟩
    case o34 =>
      refine opGoal_guard rfl rfl (by simp) fun f w' hr hk => ?_
      have d10 := hr.cell c10
      have d11 := hr.cell c11
      have d12 := hr.cell c12
      have d20 := hr.cell c20
      have d21 := hr.cell c21
      have d22 := hr.cell c22
      have d30 := hr.cell c30
      have d31 := hr.cell c31
      have d40 := hr.cell c40
      have d41 := hr.cell c41
      have d50 := hr.cell c50
      have d51 := hr.cell c51
      have HR := Lib.hid hr
      clear hr
      refine ⟨by simp [putD, depsO, depsL, phi, Is, KnowAll, Region.binds, put_some, put_none, KLin, KRw, KL] at hk; simp [wantD, hk, putD, depsO, depsL, phi, Is, KnowAll, Region.binds, put_some, put_none, KLin, KRw, KL], ?_⟩
      simp [putD, depsO, depsL, phi, Is, KnowAll, Region.binds, put_some, put_none, KLin, KRw, KL] at hk ⊢
      try simp only [hk]
      go_wp2
      exact onePost_is _ rfl rfl ⟨Ext.refl _, rfl⟩
    case o35 =>
      refine opGoal_plain rfl rfl (by simp) fun f w' hr hk => ?_
      have d10 := hr.cell c10
      have d11 := hr.cell c11
      have d12 := hr.cell c12
      have d20 := hr.cell c20
      have d21 := hr.cell c21
      have d22 := hr.cell c22
      have d30 := hr.cell c30
      have d31 := hr.cell c31
      have d40 := hr.cell c40
      have d41 := hr.cell c41
      have d50 := hr.cell c50
      have d51 := hr.cell c51
      have HR := Lib.hid hr
      clear hr
      simp [putD, depsO, depsL, phi, Is, KnowAll, Region.binds, put_some, put_none, KLin, KRw, KL] at hk ⊢
      try simp only [hk]
      go_wp2
      exact onePost_is _ rfl rfl ⟨Ext.refl _, rfl⟩
    case o36 =>
      refine opGoal_plain rfl rfl (by simp) fun f w' hr hk => ?_
      have d10 := hr.cell c10
      have d11 := hr.cell c11
      have d12 := hr.cell c12
      have d20 := hr.cell c20
      have d21 := hr.cell c21
      have d22 := hr.cell c22
      have d30 := hr.cell c30
      have d31 := hr.cell c31
      have d40 := hr.cell c40
      have d41 := hr.cell c41
      have d50 := hr.cell c50
      have d51 := hr.cell c51
      have HR := Lib.hid hr
      clear hr
      simp [putD, depsO, depsL, phi, Is, KnowAll, Region.binds, put_some, put_none, KLin, KRw, KL] at hk ⊢
      try simp only [hk]
      go_wp2
      exact onePost_is _ rfl rfl ⟨Ext.refl _, rfl⟩
    case o37 =>
      refine opGoal_guard rfl rfl (by simp) fun f w' hr hk => ?_
      have d10 := hr.cell c10
      have d11 := hr.cell c11
      have d12 := hr.cell c12
      have d20 := hr.cell c20
      have d21 := hr.cell c21
      have d22 := hr.cell c22
      have d30 := hr.cell c30
      have d31 := hr.cell c31
      have d40 := hr.cell c40
      have d41 := hr.cell c41
      have d50 := hr.cell c50
      have d51 := hr.cell c51
      have HR := Lib.hid hr
      clear hr
      refine ⟨by simp [putD, depsO, depsL, phi, Is, KnowAll, Region.binds, put_some, put_none, KLin, KRw, KL] at hk; simp [wantD, hk, putD, depsO, depsL, phi, Is, KnowAll, Region.binds, put_some, put_none, KLin, KRw, KL], ?_⟩
      simp [putD, depsO, depsL, phi, Is, KnowAll, Region.binds, put_some, put_none, KLin, KRw, KL] at hk ⊢
      try simp only [hk]
      go_wp2
      exact onePost_is _ rfl rfl ⟨Ext.refl _, rfl⟩
    case o38 =>
      refine opGoal_guard rfl rfl (by simp) fun f w' hr hk => ?_
      have d10 := hr.cell c10
      have d11 := hr.cell c11
      have d12 := hr.cell c12
      have d20 := hr.cell c20
      have d21 := hr.cell c21
      have d22 := hr.cell c22
      have d30 := hr.cell c30
      have d31 := hr.cell c31
      have d40 := hr.cell c40
      have d41 := hr.cell c41
      have d50 := hr.cell c50
      have d51 := hr.cell c51
      have HR := Lib.hid hr
      clear hr
      refine ⟨by simp [putD, depsO, depsL, phi, Is, KnowAll, Region.binds, put_some, put_none, KLin, KRw, KL] at hk; simp [wantD, hk, putD, depsO, depsL, phi, Is, KnowAll, Region.binds, put_some, put_none, KLin, KRw, KL], ?_⟩
      simp [putD, depsO, depsL, phi, Is, KnowAll, Region.binds, put_some, put_none, KLin, KRw, KL] at hk ⊢
      simp only [hk]
      go_wp2
      exact ⟨rfl, rfl, Ext.alloc _ _, _, _, _, rfl, coefs_one (heap_new _ _)⟩
    case o39 =>
      refine opGoal_guard rfl rfl (by simp) fun f w' hr hk => ?_
      have d10 := hr.cell c10
      have d11 := hr.cell c11
      have d12 := hr.cell c12
      have d20 := hr.cell c20
      have d21 := hr.cell c21
      have d22 := hr.cell c22
      have d30 := hr.cell c30
      have d31 := hr.cell c31
      have d40 := hr.cell c40
      have d41 := hr.cell c41
      have d50 := hr.cell c50
      have d51 := hr.cell c51
      have HR := Lib.hid hr
      clear hr
      refine ⟨by simp [putD, depsO, depsL, phi, Is, KnowAll, Region.binds, put_some, put_none, KLin, KRw, KL] at hk; simp [wantD, hk, putD, depsO, depsL, phi, Is, KnowAll, Region.binds, put_some, put_none, KLin, KRw, KL], ?_⟩
      simp [putD, depsO, depsL, phi, Is, KnowAll, Region.binds, put_some, put_none, KLin, KRw, KL] at hk ⊢
      obtain ⟨⟨a, l, c, e, h⟩, -⟩ := hk
      rw [e]
      go_wp2
      exact ⟨rfl, rfl, Ext.refl _, a, l, c, rfl, h⟩
    case o40 =>
      refine opGoal_guard rfl rfl (by simp) fun f w' hr hk => ?_
      have d10 := hr.cell c10
      have d11 := hr.cell c11
      have d12 := hr.cell c12
      have d20 := hr.cell c20
      have d21 := hr.cell c21
      have d22 := hr.cell c22
      have d30 := hr.cell c30
      have d31 := hr.cell c31
      have d40 := hr.cell c40
      have d41 := hr.cell c41
      have d50 := hr.cell c50
      have d51 := hr.cell c51
      have HR := Lib.hid hr
      clear hr
      refine ⟨by simp [putD, depsO, depsL, phi, Is, KnowAll, Region.binds, put_some, put_none, KLin, KRw, KL] at hk; simp [wantD, hk, putD, depsO, depsL, phi, Is, KnowAll, Region.binds, put_some, put_none, KLin, KRw, KL], ?_⟩
      simp [putD, depsO, depsL, phi, Is, KnowAll, Region.binds, put_some, put_none, KLin, KRw, KL] at hk ⊢
      obtain ⟨⟨a, l, c, e, h⟩, -⟩ := hk
      rw [e]
      go_wp2_with (go_at_call 23; refine (linear_Check _ _ _ _ _ _ h).mono ?_; rw [aw6]; rintro e w2 ⟨rfl, he⟩)
      exact ⟨rfl, rfl, he, rfl⟩
    case o41 =>
      refine opGoal_guard rfl rfl (by simp) fun f w' hr hk => ?_
      have d10 := hr.cell c10
      have d11 := hr.cell c11
      have d12 := hr.cell c12
      have d20 := hr.cell c20
      have d21 := hr.cell c21
      have d22 := hr.cell c22
      have d30 := hr.cell c30
      have d31 := hr.cell c31
      have d40 := hr.cell c40
      have d41 := hr.cell c41
      have d50 := hr.cell c50
      have d51 := hr.cell c51
      have HR := Lib.hid hr
      clear hr
      refine ⟨by simp [putD, depsO, depsL, phi, Is, KnowAll, Region.binds, put_some, put_none, KLin, KRw, KL] at hk; simp [wantD, hk, putD, depsO, depsL, phi, Is, KnowAll, Region.binds, put_some, put_none, KLin, KRw, KL], ?_⟩
      simp [putD, depsO, depsL, phi, Is, KnowAll, Region.binds, put_some, put_none, KLin, KRw, KL] at hk ⊢
      try simp only [hk]
      go_wp2
      exact onePost_is _ rfl rfl ⟨Ext.refl _, rfl⟩
    case o42 =>
      refine opGoal_plain rfl rfl (by simp) fun f w' hr hk => ?_
      have d10 := hr.cell c10
      have d11 := hr.cell c11
      have d12 := hr.cell c12
      have d20 := hr.cell c20
      have d21 := hr.cell c21
      have d22 := hr.cell c22
      have d30 := hr.cell c30
      have d31 := hr.cell c31
      have d40 := hr.cell c40
      have d41 := hr.cell c41
      have d50 := hr.cell c50
      have d51 := hr.cell c51
      have HR := Lib.hid hr
      clear hr
      simp [putD, depsO, depsL, phi, Is, KnowAll, Region.binds, put_some, put_none, KLin, KRw, KL] at hk ⊢
      try simp only [hk]
      go_wp2
      exact onePost_is _ rfl rfl ⟨Ext.refl _, rfl⟩
  case hend =>
    intro f w' hr hk
    simp [putD, phi, Is, KLin, KRw, KL, KnowAll, List.range, List.range.loop, put_some, put_none] at hk ⊢
    obtain ⟨-, -, -, -, -, -, -, -, -, -, -, -, -, -, -, -, -, -, -, -, -, -, -, -, -, -, -, -, -, -, -, -, -, -, -, -, -, -, -, -, -, -, e⟩ := hk
    have HE := Lib.hid (Ext.trans YW.out hr)
    clear hr
    rw [e]
    go_wp2
    go_ret
    exact ⟨rfl, HE.out⟩

end Go.Proofs.Ytkghgdkkholieaa
