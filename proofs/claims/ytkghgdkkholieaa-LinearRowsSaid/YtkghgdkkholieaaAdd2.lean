/-
  Walks: sums of forms: the loop.
-/
import Derived.Test.YtkghgdkkholieaaAdd
namespace Go.Proofs.Ytkghgdkkholieaa
open Go.RowKit

set_option maxRecDepth 100000 in
set_option maxHeartbeats 4000000 in
theorem linear_Add_main {L L' : List Nat} (w : World) (a a2 : Option Addr) (len cap len2 cap2 : Nat) (p q : Int) (xs ys : List (ByteArray × Int)) (hc : IsCoefs L w a len cap xs) (hc2 : IsCoefs L' w a2 len2 cap2 ys) (hL : Under L w.heap.size) (hz : checkS xs p = 0) (hz2 : checkS ys q = 0) :
    Calls Try.prog 19 #[.agg #[.slice a len cap, .int .i64 p], .agg #[.slice a2 len2 cap2, .int .i64 q]] w fun e w' => (∃ v, e = .returned (.tuple #[v, .bool (sumS xs p ys q).2]) ∧ IsLin L w' v (sumS xs p ys q).1.1 (sumS xs p ys q).1.2) ∧ Ext w w' := by
  obtain ⟨i0, hi, hz0, hz1, hz2'⟩ := info_parts Try.info37
  have HC := Lib.hid hc
  have HD := Lib.hid hc2
  have HU := Lib.hid hL
  have HZ := Lib.hid hz
  have HZ2 := Lib.hid hz2
  have HRx := Lib.hid (checkS_zero hz)
  have HRy := Lib.hid (checkS_zero hz2)
  have hlx : len ≤ 24 := by rw [← hc.size]; exact HRx.out.len
  have hly : len2 ≤ 24 := by rw [← hc2.size]; exact HRy.out.len
  obtain ⟨p0, p1⟩ := HRx.out.const
  obtain ⟨q0, q1⟩ := HRy.out.const
  clear hc hc2 hL hz hz2
  go_enter Try.func19, Try.ntmps19
  go_wp2_with fail
  refine (linear_Check _ _ _ _ _ xs (HC.out.below (((Ext.alloc _ _).trans (Ext.alloc _ _)).trans (Ext.alloc _ _)))).mono ?_
  rw [HZ.out]
  rintro e w1 ⟨rfl, he⟩
  have HA := Lib.hid (Ext.trans (((Ext.alloc w _).trans (Ext.alloc _ _)).trans (Ext.alloc _ _)) he)
  have b0 := blk_ext (blk_ext (heap_new w (Obj.cells #[.slice a len cap, .int .i64 p] 24)) ((Ext.alloc _ (Obj.cells #[.slice a2 len2 cap2, .int .i64 q] 24)).trans (Ext.alloc _ (Obj.cells #[.slice none 0 0, .int .i64 0] 24)))) he
  have b1 : w1.heap[w.heap.size + 1]? = _ := blk_ext (blk_ext (heap_new' (by simp) : ((w.alloc (Obj.cells #[.slice a len cap, .int .i64 p] 24)).alloc (Obj.cells #[.slice a2 len2 cap2, .int .i64 q] 24)).heap[w.heap.size + 1]? = _) (Ext.alloc _ (Obj.cells #[.slice none 0 0, .int .i64 0] 24))) he
  have b2 : w1.heap[w.heap.size + 2]? = _ := blk_ext (heap_new' (by simp) : (((w.alloc (Obj.cells #[.slice a len cap, .int .i64 p] 24)).alloc (Obj.cells #[.slice a2 len2 cap2, .int .i64 q] 24)).alloc (Obj.cells #[.slice none 0 0, .int .i64 0] 24)).heap[w.heap.size + 2]? = _) he
  have c10 := blk_cell b1 0 _ rfl
  have c11 := blk_cell b1 1 _ rfl
  have B0 := Lib.hid b0
  have B1 := Lib.hid b1
  have B2 := Lib.hid b2
  clear he b0 b1 b2
  go_wp2_with fail
  refine (linear_Check _ _ _ _ _ ys (HD.out.below HA.out)).mono ?_
  rw [HZ2.out]
  rintro e w2 ⟨rfl, he⟩
  have HA2 := Lib.hid (Ext.trans HA.out he)
  have b0 := blk_ext B0.out he
  have b1 := blk_ext B1.out he
  have b2 := blk_ext B2.out he
  have c00 := blk_cell b0 0 _ rfl
  have c01 := blk_cell b0 1 _ rfl
  have d10 := blk_cell b1 0 _ rfl
  have d11 := blk_cell b1 1 _ rfl
  have hsz := blk_lt b2
  have E0 := Lib.hid b0
  have E1 := Lib.hid b1
  have E2 := Lib.hid b2
  clear he b0 b1 b2
  go_wp2
  have HE2 := HA2
  have HS2 := Lib.hid hsz
  go_loopw [7, 8] (fun si sk wr => ∃ (i k n : Nat) (v : Value) (acc : List (ByteArray × Int)), si = .int .i64 i ∧ sk = .int .i64 k ∧ i ≤ len ∧ k ≤ len2 ∧ n ≤ i + k ∧ wr.ownsRow (w2.heap.size + 1) 37 2 v n (flatC acc) ∧ Hid (acc ++ addL (xs.drop i) (ys.drop k) = addL xs ys) ∧ Ext w wr ∧
    wr.heap[w.heap.size]? = some (.cells #[.slice a len cap, .int .i64 p] 24 (0, 0)) ∧ wr.heap[w.heap.size + 1]? = some (.cells #[.slice a2 len2 cap2, .int .i64 q] 24 (0, 0)) ∧ wr.heap[w.heap.size + 2]? = some (.cells #[.slice none 0 0, .int .i64 0] 24 (0, 0)) ∧ wr.heap[w2.heap.size]? = some (.cells #[v, .int .i64 (p + q)] 24 (0, 0)))
    (fun si sk _ => (len - (intOf si).toNat) + (len2 - (intOf sk).toNat))
  case atStart => exact ⟨0, 0, 0, .slice none 0 0, [], rfl, rfl, by omega, by omega, by omega, owns_nil _ _ _ _, Lib.hid rfl, HA2.out.trans (Ext.alloc _ _), blk_ext E0.out (Ext.alloc _ _), blk_ext E1.out (Ext.alloc _ _), blk_ext E2.out (Ext.alloc _ _), heap_new _ _⟩
  case round =>
    obtain ⟨i, k, n, v, acc, rfl, rfl, hil, hkl, hnl, hown, HR, hbe, b0, b1, b2, b3⟩ := hrel
    have c0 := blk_cell b0 0 _ rfl
    have c1 := blk_cell b1 0 _ rfl
    have cO := blk_cell b3 0 _ rfl
    have HE := Lib.hid hbe
    have HO := Lib.hid hown
    have E0' := Lib.hid b0
    have E1' := Lib.hid b1
    have E2' := Lib.hid b2
    have E3' := Lib.hid b3
    have hV := blk_lt b3
    have HRr := HR
    clear hbe hown b0 b1 b2 b3 HR
    by_cases hiL : i < len
    · have hcx : i < xs.length := by rw [HC.out.size]; exact hiL
      obtain ⟨b, off, ha, ⟨hb, -⟩, hs, hm⟩ := HC.out.cells i hcx
      subst ha
      rw [← HE.out.cell' (by simpa using hb)] at hs hm
      have hqx := HRx.out.nums xs[i] (List.getElem_mem hcx)
      generalize hcn : xs[i]'hcx = x at hs hm hqx
      obtain ⟨s, m⟩ := x
      have HXi : Hid (xs[i]? = some (s, m)) := Lib.hid (by rw [List.getElem?_eq_getElem hcx, hcn])
      clear hcn
      obtain ⟨m0, m1⟩ := hqx
      have iL' : decide ((i : Int) < len) = true := by simpa using hiL
      have iL2 : ((i : Int) == len) = false := by simp; omega
      have hbw : b < wr.heap.size := Nat.lt_of_lt_of_le hb HE.out.size
      have iL3 : (i : Int) < len := by omega
      by_cases hkL : k < len2
      · have hcy : k < ys.length := by rw [HD.out.size]; exact hkL
        obtain ⟨by', oy, ha2, ⟨hb2, -⟩, hs2, hm2⟩ := HD.out.cells k hcy
        subst ha2
        rw [← HE.out.cell' (by simpa using hb2)] at hs2 hm2
        have hqy := HRy.out.nums ys[k] (List.getElem_mem hcy)
        generalize hcn2 : ys[k]'hcy = y at hs2 hm2 hqy
        obtain ⟨s2, m2⟩ := y
        have HYk : Hid (ys[k]? = some (s2, m2)) := Lib.hid (by rw [List.getElem?_eq_getElem hcy, hcn2])
        clear hcn2
        obtain ⟨n0, n1⟩ := hqy
        have hbw2 : by' < wr.heap.size := Nat.lt_of_lt_of_le hb2 HE.out.size
        have kL1 : ((k : Int) == len2) = false := by simp; omega
        have kL2 : decide ((k : Int) < len2) = true := by simpa using hkL
        have kL3 : (k : Int) < len2 := by omega
        cases hlt : lessB s s2
        case true =>
          have HLt := Lib.hid hlt
          have hlt' : Op.bytesLess s.toList s2.toList = true := hlt
          clear hlt
          go_wp2
          go_quiet (fail)
          go_wp2
          apply wp_region_ext [some 97, some 98, some 99, some 100, some 101, some 102, some 103, some 104, some 105, some 106, none] 11 8 [Is _, Is _, Is _, Is _, Is _, Is _, Is _, KNew 0 [.string s, .int .i64 (m)] 37] mixed rfl rfl (by decide) (by kernel_rfl)
          case hop =>
            refine allOps_cons ?o0 (allOps_cons ?o1 (allOps_cons ?o2 (allOps_cons ?o3 (allOps_cons ?o4 (allOps_cons ?o5 (allOps_cons ?o6 (allOps_cons ?o7 allOps_nil)))))))
            case o0 =>
              refine opGoal_plain rfl rfl (by simp) fun f w' hr hk => ?_
              have d0 := hr.cell cO
              have d1 := hr.cell c0
              have d2 := hr.cell c1
              have d3 := hr.cell hs
              have d4 := hr.cell hm
              have HR := Lib.hid hr
              clear hr
              simp [putD, depsO, depsL, phi, Is, KnowAll, Region.binds, put_some, put_none, KNew] at hk ⊢
              try simp only [hk]
              go_wp2
              exact onePost_is _ rfl rfl ⟨Ext.refl _, rfl⟩
            case o1 =>
              refine opGoal_plain rfl rfl (by simp) fun f w' hr hk => ?_
              have d0 := hr.cell cO
              have d1 := hr.cell c0
              have d2 := hr.cell c1
              have d3 := hr.cell hs
              have d4 := hr.cell hm
              have HR := Lib.hid hr
              clear hr
              simp [putD, depsO, depsL, phi, Is, KnowAll, Region.binds, put_some, put_none, KNew] at hk ⊢
              try simp only [hk]
              go_wp2
              exact onePost_is _ rfl rfl ⟨Ext.refl _, rfl⟩
            case o2 =>
              refine opGoal_plain rfl rfl (by simp) fun f w' hr hk => ?_
              have d0 := hr.cell cO
              have d1 := hr.cell c0
              have d2 := hr.cell c1
              have d3 := hr.cell hs
              have d4 := hr.cell hm
              have HR := Lib.hid hr
              clear hr
              simp [putD, depsO, depsL, phi, Is, KnowAll, Region.binds, put_some, put_none, KNew] at hk ⊢
              try simp only [hk]
              go_wp2
              exact onePost_is _ rfl rfl ⟨Ext.refl _, rfl⟩
            case o3 =>
              refine opGoal_plain rfl rfl (by simp) fun f w' hr hk => ?_
              have d0 := hr.cell cO
              have d1 := hr.cell c0
              have d2 := hr.cell c1
              have d3 := hr.cell hs
              have d4 := hr.cell hm
              have HR := Lib.hid hr
              clear hr
              simp [putD, depsO, depsL, phi, Is, KnowAll, Region.binds, put_some, put_none, KNew] at hk ⊢
              try simp only [hk]
              go_wp2
              exact onePost_is _ rfl rfl ⟨Ext.refl _, rfl⟩
            case o4 =>
              refine opGoal_plain rfl rfl (by simp) fun f w' hr hk => ?_
              have d0 := hr.cell cO
              have d1 := hr.cell c0
              have d2 := hr.cell c1
              have d3 := hr.cell hs
              have d4 := hr.cell hm
              have HR := Lib.hid hr
              clear hr
              simp [putD, depsO, depsL, phi, Is, KnowAll, Region.binds, put_some, put_none, KNew] at hk ⊢
              try simp only [hk]
              go_wp2
              exact onePost_is _ rfl rfl ⟨Ext.refl _, rfl⟩
            case o5 =>
              refine opGoal_plain rfl rfl (by simp) fun f w' hr hk => ?_
              have d0 := hr.cell cO
              have d1 := hr.cell c0
              have d2 := hr.cell c1
              have d3 := hr.cell hs
              have d4 := hr.cell hm
              have HR := Lib.hid hr
              clear hr
              simp [putD, depsO, depsL, phi, Is, KnowAll, Region.binds, put_some, put_none, KNew] at hk ⊢
              try simp only [hk]
              go_wp2
              exact onePost_is _ rfl rfl ⟨Ext.refl _, rfl⟩
            case o6 =>
              refine opGoal_plain rfl rfl (by simp) fun f w' hr hk => ?_
              have d0 := hr.cell cO
              have d1 := hr.cell c0
              have d2 := hr.cell c1
              have d3 := hr.cell hs
              have d4 := hr.cell hm
              have HR := Lib.hid hr
              clear hr
              simp [putD, depsO, depsL, phi, Is, KnowAll, Region.binds, put_some, put_none, KNew] at hk ⊢
              try simp only [hk]
              go_wp2
              exact onePost_is _ rfl rfl ⟨Ext.refl _, rfl⟩
            case o7 =>
              refine opGoal_plain rfl rfl (by simp) fun f w' hr hk => ?_
              have d0 := hr.cell cO
              have d1 := hr.cell c0
              have d2 := hr.cell c1
              have d3 := hr.cell hs
              have d4 := hr.cell hm
              have HR := Lib.hid hr
              clear hr
              simp [putD, depsO, depsL, phi, Is, KnowAll, Region.binds, put_some, put_none, KNew] at hk ⊢
              simp only [hk]
              go_wp2
              exact ⟨rfl, rfl, Ext.alloc _ _, _, rfl, heap_new _ _⟩
          case hend =>
            intro f w' hr hk
            simp [putD, phi, Is, KNew, KnowAll, List.range, List.range.loop, put_some, put_none] at hk ⊢
            obtain ⟨-, e1, -, -, -, -, -, ⟨b', e7, hb'⟩⟩ := hk
            replace hr : Ext wr w' := ⟨hr.os, hr.tape, hr.output, hr.size, hr.block⟩
            have HO' := Lib.hid (owns_ext HO.out hr)
            have F0 := Lib.hid (blk_ext E0'.out hr)
            have F1 := Lib.hid (blk_ext E1'.out hr)
            have F2 := Lib.hid (blk_ext E2'.out hr)
            have F3 := Lib.hid (blk_ext E3'.out hr)
            have HE' := Lib.hid (Ext.trans HE.out hr)
            have C3 := Lib.hid (show n + 1 ≤ maxLen by unfold maxLen; omega)
            have C4 := Lib.hid (show (n + 1) * 24 ≤ 140737488355328 by omega)
            have C5 := Lib.hid (show w2.heap.size + 1 ≤ w'.heap.size by have := blk_lt F3.out; omega)
            have HB' := Lib.hid hb'
            clear hr hb'
            simp only [e1, e7]
            go_wp2_with (at_builtin; refine wpList_append_own _ rfl _ _ 22 rfl (w2.heap.size + 1) 37 i0 _ 2 24 Try.underlying22 hi hz0 hz1 hz2' rfl (by decide) v n (flatC acc) rfl HO'.out ⟨b', 0, none⟩ 1 1 [.string s, .int .i64 (m)] rfl rfl (news_at HB'.out) (by simp [Value.oneCell']) C3.out C4.out C5.out ?_; intro v' w3 hown hgrow _; obtain ⟨a', cap', hv'⟩ := owns_slice hown; subst hv'; have HL := Lib.hid (ExtL.of_grown hgrow (row_list v)); have HW := Lib.hid hown; have g3 := blk_extL F3.out HL.out (not_row HO'.out (by omega)); have gc := blk_cell g3 0 _ rfl; have gf := blk_free g3 0; have G3 := Lib.hid g3; clear g3 hown hgrow)
            go_roundw
            case rel => exact ⟨i + 1, k, n + 1, _, acc ++ [(s, m)], by go_num, by go_num, by omega, by omega, by omega, by rw [flatC_app]; exact ownsRow_setCell_below HW.out (by simp) _, Lib.hid (addL_left HRr.out HXi.out (.inr ⟨_, HYk.out, HLt.out⟩)), (ext_extL HE'.out HL.out (row_from HO'.out (by have := HE2.out.size; omega))).set (by have := HE2.out.size; simp; omega) _, blk_other (blk_extL F0.out HL.out (not_row HO'.out (by have := HE2.out.size; omega))) (by have := HS2.out; simp; omega) _, blk_other (blk_extL F1.out HL.out (not_row HO'.out (by have := HS2.out; omega))) (by have := HS2.out; simp; omega) _, blk_other (blk_extL F2.out HL.out (not_row HO'.out (by have := HS2.out; omega))) (by have := HS2.out; simp; omega) _, blk_set G3.out 0 _⟩
            case measure => simp [intOf]; omega
        case false =>
        have HLt := Lib.hid hlt
        have hlt' : Op.bytesLess s.toList s2.toList = false := hlt
        clear hlt
        cases hgt : lessB s2 s
        case true =>
          have HGt := Lib.hid hgt
          have hgt' : Op.bytesLess s2.toList s.toList = true := hgt
          clear hgt
          go_wp2
          go_quiet (fail)
          go_wp2
          go_quiet (fail)
          go_wp2
          apply wp_region_ext [some 130, some 131, some 132, some 133, some 134, some 135, some 136, some 137, some 138, some 139, none] 11 8 [Is _, Is _, Is _, Is _, Is _, Is _, Is _, KNew 0 [.string s2, .int .i64 (m2)] 37] mixed rfl rfl (by decide) (by kernel_rfl)
          case hop =>
            refine allOps_cons ?o0 (allOps_cons ?o1 (allOps_cons ?o2 (allOps_cons ?o3 (allOps_cons ?o4 (allOps_cons ?o5 (allOps_cons ?o6 (allOps_cons ?o7 allOps_nil)))))))
            case o0 =>
              refine opGoal_plain rfl rfl (by simp) fun f w' hr hk => ?_
              have d0 := hr.cell cO
              have d1 := hr.cell c0
              have d2 := hr.cell c1
              have d5 := hr.cell hs2
              have d6 := hr.cell hm2
              have HR := Lib.hid hr
              clear hr
              simp [putD, depsO, depsL, phi, Is, KnowAll, Region.binds, put_some, put_none, KNew] at hk ⊢
              try simp only [hk]
              go_wp2
              exact onePost_is _ rfl rfl ⟨Ext.refl _, rfl⟩
            case o1 =>
              refine opGoal_plain rfl rfl (by simp) fun f w' hr hk => ?_
              have d0 := hr.cell cO
              have d1 := hr.cell c0
              have d2 := hr.cell c1
              have d5 := hr.cell hs2
              have d6 := hr.cell hm2
              have HR := Lib.hid hr
              clear hr
              simp [putD, depsO, depsL, phi, Is, KnowAll, Region.binds, put_some, put_none, KNew] at hk ⊢
              try simp only [hk]
              go_wp2
              exact onePost_is _ rfl rfl ⟨Ext.refl _, rfl⟩
            case o2 =>
              refine opGoal_plain rfl rfl (by simp) fun f w' hr hk => ?_
              have d0 := hr.cell cO
              have d1 := hr.cell c0
              have d2 := hr.cell c1
              have d5 := hr.cell hs2
              have d6 := hr.cell hm2
              have HR := Lib.hid hr
              clear hr
              simp [putD, depsO, depsL, phi, Is, KnowAll, Region.binds, put_some, put_none, KNew] at hk ⊢
              try simp only [hk]
              go_wp2
              exact onePost_is _ rfl rfl ⟨Ext.refl _, rfl⟩
            case o3 =>
              refine opGoal_plain rfl rfl (by simp) fun f w' hr hk => ?_
              have d0 := hr.cell cO
              have d1 := hr.cell c0
              have d2 := hr.cell c1
              have d5 := hr.cell hs2
              have d6 := hr.cell hm2
              have HR := Lib.hid hr
              clear hr
              simp [putD, depsO, depsL, phi, Is, KnowAll, Region.binds, put_some, put_none, KNew] at hk ⊢
              try simp only [hk]
              go_wp2
              exact onePost_is _ rfl rfl ⟨Ext.refl _, rfl⟩
            case o4 =>
              refine opGoal_plain rfl rfl (by simp) fun f w' hr hk => ?_
              have d0 := hr.cell cO
              have d1 := hr.cell c0
              have d2 := hr.cell c1
              have d5 := hr.cell hs2
              have d6 := hr.cell hm2
              have HR := Lib.hid hr
              clear hr
              simp [putD, depsO, depsL, phi, Is, KnowAll, Region.binds, put_some, put_none, KNew] at hk ⊢
              try simp only [hk]
              go_wp2
              exact onePost_is _ rfl rfl ⟨Ext.refl _, rfl⟩
            case o5 =>
              refine opGoal_plain rfl rfl (by simp) fun f w' hr hk => ?_
              have d0 := hr.cell cO
              have d1 := hr.cell c0
              have d2 := hr.cell c1
              have d5 := hr.cell hs2
              have d6 := hr.cell hm2
              have HR := Lib.hid hr
              clear hr
              simp [putD, depsO, depsL, phi, Is, KnowAll, Region.binds, put_some, put_none, KNew] at hk ⊢
              try simp only [hk]
              go_wp2
              exact onePost_is _ rfl rfl ⟨Ext.refl _, rfl⟩
            case o6 =>
              refine opGoal_plain rfl rfl (by simp) fun f w' hr hk => ?_
              have d0 := hr.cell cO
              have d1 := hr.cell c0
              have d2 := hr.cell c1
              have d5 := hr.cell hs2
              have d6 := hr.cell hm2
              have HR := Lib.hid hr
              clear hr
              simp [putD, depsO, depsL, phi, Is, KnowAll, Region.binds, put_some, put_none, KNew] at hk ⊢
              try simp only [hk]
              go_wp2
              exact onePost_is _ rfl rfl ⟨Ext.refl _, rfl⟩
            case o7 =>
              refine opGoal_plain rfl rfl (by simp) fun f w' hr hk => ?_
              have d0 := hr.cell cO
              have d1 := hr.cell c0
              have d2 := hr.cell c1
              have d5 := hr.cell hs2
              have d6 := hr.cell hm2
              have HR := Lib.hid hr
              clear hr
              simp [putD, depsO, depsL, phi, Is, KnowAll, Region.binds, put_some, put_none, KNew] at hk ⊢
              simp only [hk]
              go_wp2
              exact ⟨rfl, rfl, Ext.alloc _ _, _, rfl, heap_new _ _⟩
          case hend =>
            intro f w' hr hk
            simp [putD, phi, Is, KNew, KnowAll, List.range, List.range.loop, put_some, put_none] at hk ⊢
            obtain ⟨-, e1, -, -, -, -, -, ⟨b', e7, hb'⟩⟩ := hk
            replace hr : Ext wr w' := ⟨hr.os, hr.tape, hr.output, hr.size, hr.block⟩
            have HO' := Lib.hid (owns_ext HO.out hr)
            have F0 := Lib.hid (blk_ext E0'.out hr)
            have F1 := Lib.hid (blk_ext E1'.out hr)
            have F2 := Lib.hid (blk_ext E2'.out hr)
            have F3 := Lib.hid (blk_ext E3'.out hr)
            have HE' := Lib.hid (Ext.trans HE.out hr)
            have C3 := Lib.hid (show n + 1 ≤ maxLen by unfold maxLen; omega)
            have C4 := Lib.hid (show (n + 1) * 24 ≤ 140737488355328 by omega)
            have C5 := Lib.hid (show w2.heap.size + 1 ≤ w'.heap.size by have := blk_lt F3.out; omega)
            have HB' := Lib.hid hb'
            clear hr hb'
            simp only [e1, e7]
            go_wp2_with (at_builtin; refine wpList_append_own _ rfl _ _ 22 rfl (w2.heap.size + 1) 37 i0 _ 2 24 Try.underlying22 hi hz0 hz1 hz2' rfl (by decide) v n (flatC acc) rfl HO'.out ⟨b', 0, none⟩ 1 1 [.string s2, .int .i64 (m2)] rfl rfl (news_at HB'.out) (by simp [Value.oneCell']) C3.out C4.out C5.out ?_; intro v' w3 hown hgrow _; obtain ⟨a', cap', hv'⟩ := owns_slice hown; subst hv'; have HL := Lib.hid (ExtL.of_grown hgrow (row_list v)); have HW := Lib.hid hown; have g3 := blk_extL F3.out HL.out (not_row HO'.out (by omega)); have gc := blk_cell g3 0 _ rfl; have gf := blk_free g3 0; have G3 := Lib.hid g3; clear g3 hown hgrow)
            go_roundw
            case rel => exact ⟨i, k + 1, n + 1, _, acc ++ [(s2, m2)], by go_num, by go_num, by omega, by omega, by omega, by rw [flatC_app]; exact ownsRow_setCell_below HW.out (by simp) _, Lib.hid (addL_right HRr.out HYk.out (.inr ⟨_, HXi.out, HLt.out, HGt.out⟩)), (ext_extL HE'.out HL.out (row_from HO'.out (by have := HE2.out.size; omega))).set (by have := HE2.out.size; simp; omega) _, blk_other (blk_extL F0.out HL.out (not_row HO'.out (by have := HE2.out.size; omega))) (by have := HS2.out; simp; omega) _, blk_other (blk_extL F1.out HL.out (not_row HO'.out (by have := HS2.out; omega))) (by have := HS2.out; simp; omega) _, blk_other (blk_extL F2.out HL.out (not_row HO'.out (by have := HS2.out; omega))) (by have := HS2.out; simp; omega) _, blk_set G3.out 0 _⟩
            case measure => simp [intOf]; omega
        case false =>
        have HGt := Lib.hid hgt
        have hgt' : Op.bytesLess s2.toList s.toList = false := hgt
        clear hgt
        by_cases hsum : m + m2 = 0
        · have HSum := Lib.hid hsum
          have hs0 : (m + m2 != 0) = false := by simpa using hsum
          clear hsum
          go_wp2
          go_quiet (fail)
          go_wp2
          go_quiet (fail)
          go_wp2
          go_quiet (fail)
          go_wp2
          go_roundw
          case rel => exact ⟨i + 1, k + 1, n, v, acc, by go_num, by go_num, by omega, by omega, by omega, owns_ext HO.out (bl_drewN (Ext.refl _) _), Lib.hid (addL_skip HRr.out HXi.out HYk.out HLt.out HGt.out HSum.out), bl_drewN HE.out _, E0'.out, E1'.out, E2'.out, E3'.out⟩
          case measure => simp [intOf]; omega
        · have HSum := Lib.hid hsum
          have hs0 : (m + m2 != 0) = true := by simpa using hsum
          clear hsum
          go_wp2
          go_quiet (fail)
          go_wp2
          go_quiet (fail)
          go_wp2
          go_quiet (fail)
          go_wp2
          apply wp_region_ext [some 52, some 53, some 54, some 55, some 56, some 57, some 58, some 59, some 60, some 61, some 62, some 63, some 64, none] 14 11 [Is _, Is _, Is _, Is _, Is _, Is _, Is _, Is _, Is _, Is _, KNew 0 [.string s, .int .i64 (m + m2)] 37] mixed rfl rfl (by decide) (by kernel_rfl)
          case hop =>
            refine allOps_cons ?o0 (allOps_cons ?o1 (allOps_cons ?o2 (allOps_cons ?o3 (allOps_cons ?o4 (allOps_cons ?o5 (allOps_cons ?o6 (allOps_cons ?o7 (allOps_cons ?o8 (allOps_cons ?o9 (allOps_cons ?o10 allOps_nil))))))))))
            case o0 =>
              refine opGoal_plain rfl rfl (by simp) fun f w' hr hk => ?_
              have d0 := hr.cell cO
              have d1 := hr.cell c0
              have d2 := hr.cell c1
              have d3 := hr.cell hs
              have d4 := hr.cell hm
              have HR := Lib.hid hr
              clear hr
              simp [putD, depsO, depsL, phi, Is, KnowAll, Region.binds, put_some, put_none, KNew] at hk ⊢
              try simp only [hk]
              go_wp2
              exact onePost_is _ rfl rfl ⟨Ext.refl _, rfl⟩
            case o1 =>
              refine opGoal_plain rfl rfl (by simp) fun f w' hr hk => ?_
              have d0 := hr.cell cO
              have d1 := hr.cell c0
              have d2 := hr.cell c1
              have d3 := hr.cell hs
              have d4 := hr.cell hm
              have HR := Lib.hid hr
              clear hr
              simp [putD, depsO, depsL, phi, Is, KnowAll, Region.binds, put_some, put_none, KNew] at hk ⊢
              try simp only [hk]
              go_wp2
              exact onePost_is _ rfl rfl ⟨Ext.refl _, rfl⟩
            case o2 =>
              refine opGoal_plain rfl rfl (by simp) fun f w' hr hk => ?_
              have d0 := hr.cell cO
              have d1 := hr.cell c0
              have d2 := hr.cell c1
              have d3 := hr.cell hs
              have d4 := hr.cell hm
              have HR := Lib.hid hr
              clear hr
              simp [putD, depsO, depsL, phi, Is, KnowAll, Region.binds, put_some, put_none, KNew] at hk ⊢
              try simp only [hk]
              go_wp2
              exact onePost_is _ rfl rfl ⟨Ext.refl _, rfl⟩
            case o3 =>
              refine opGoal_plain rfl rfl (by simp) fun f w' hr hk => ?_
              have d0 := hr.cell cO
              have d1 := hr.cell c0
              have d2 := hr.cell c1
              have d3 := hr.cell hs
              have d4 := hr.cell hm
              have HR := Lib.hid hr
              clear hr
              simp [putD, depsO, depsL, phi, Is, KnowAll, Region.binds, put_some, put_none, KNew] at hk ⊢
              try simp only [hk]
              go_wp2
              exact onePost_is _ rfl rfl ⟨Ext.refl _, rfl⟩
            case o4 =>
              refine opGoal_plain rfl rfl (by simp) fun f w' hr hk => ?_
              have d0 := hr.cell cO
              have d1 := hr.cell c0
              have d2 := hr.cell c1
              have d3 := hr.cell hs
              have d4 := hr.cell hm
              have HR := Lib.hid hr
              clear hr
              simp [putD, depsO, depsL, phi, Is, KnowAll, Region.binds, put_some, put_none, KNew] at hk ⊢
              try simp only [hk]
              go_wp2
              exact onePost_is _ rfl rfl ⟨Ext.refl _, rfl⟩
            case o5 =>
              refine opGoal_plain rfl rfl (by simp) fun f w' hr hk => ?_
              have d0 := hr.cell cO
              have d1 := hr.cell c0
              have d2 := hr.cell c1
              have d3 := hr.cell hs
              have d4 := hr.cell hm
              have HR := Lib.hid hr
              clear hr
              simp [putD, depsO, depsL, phi, Is, KnowAll, Region.binds, put_some, put_none, KNew] at hk ⊢
              try simp only [hk]
              go_wp2
              exact onePost_is _ rfl rfl ⟨Ext.refl _, rfl⟩
            case o6 =>
              refine opGoal_plain rfl rfl (by simp) fun f w' hr hk => ?_
              have d0 := hr.cell cO
              have d1 := hr.cell c0
              have d2 := hr.cell c1
              have d3 := hr.cell hs
              have d4 := hr.cell hm
              have HR := Lib.hid hr
              clear hr
              simp [putD, depsO, depsL, phi, Is, KnowAll, Region.binds, put_some, put_none, KNew] at hk ⊢
              try simp only [hk]
              go_wp2
              exact onePost_is _ rfl rfl ⟨Ext.refl _, rfl⟩
            case o7 =>
              refine opGoal_plain rfl rfl (by simp) fun f w' hr hk => ?_
              have d0 := hr.cell cO
              have d1 := hr.cell c0
              have d2 := hr.cell c1
              have d3 := hr.cell hs
              have d4 := hr.cell hm
              have HR := Lib.hid hr
              clear hr
              simp [putD, depsO, depsL, phi, Is, KnowAll, Region.binds, put_some, put_none, KNew] at hk ⊢
              try simp only [hk]
              go_wp2
              exact onePost_is _ rfl rfl ⟨Ext.refl _, rfl⟩
            case o8 =>
              refine opGoal_plain rfl rfl (by simp) fun f w' hr hk => ?_
              have d0 := hr.cell cO
              have d1 := hr.cell c0
              have d2 := hr.cell c1
              have d3 := hr.cell hs
              have d4 := hr.cell hm
              have HR := Lib.hid hr
              clear hr
              simp [putD, depsO, depsL, phi, Is, KnowAll, Region.binds, put_some, put_none, KNew] at hk ⊢
              try simp only [hk]
              go_wp2
              exact onePost_is _ rfl rfl ⟨Ext.refl _, rfl⟩
            case o9 =>
              refine opGoal_plain rfl rfl (by simp) fun f w' hr hk => ?_
              have d0 := hr.cell cO
              have d1 := hr.cell c0
              have d2 := hr.cell c1
              have d3 := hr.cell hs
              have d4 := hr.cell hm
              have HR := Lib.hid hr
              clear hr
              simp [putD, depsO, depsL, phi, Is, KnowAll, Region.binds, put_some, put_none, KNew] at hk ⊢
              try simp only [hk]
              go_wp2
              exact onePost_is _ rfl rfl ⟨Ext.refl _, rfl⟩
            case o10 =>
              refine opGoal_plain rfl rfl (by simp) fun f w' hr hk => ?_
              have d0 := hr.cell cO
              have d1 := hr.cell c0
              have d2 := hr.cell c1
              have d3 := hr.cell hs
              have d4 := hr.cell hm
              have HR := Lib.hid hr
              clear hr
              simp [putD, depsO, depsL, phi, Is, KnowAll, Region.binds, put_some, put_none, KNew] at hk ⊢
              simp only [hk]
              go_wp2
              exact ⟨rfl, rfl, Ext.alloc _ _, _, rfl, heap_new _ _⟩
          case hend =>
            intro f w' hr hk
            simp [putD, phi, Is, KNew, KnowAll, List.range, List.range.loop, put_some, put_none] at hk ⊢
            obtain ⟨-, e1, -, -, -, -, -, -, -, -, ⟨b', e10, hb'⟩⟩ := hk
            replace hr : Ext wr w' := ⟨hr.os, hr.tape, hr.output, hr.size, hr.block⟩
            have HO' := Lib.hid (owns_ext HO.out hr)
            have F0 := Lib.hid (blk_ext E0'.out hr)
            have F1 := Lib.hid (blk_ext E1'.out hr)
            have F2 := Lib.hid (blk_ext E2'.out hr)
            have F3 := Lib.hid (blk_ext E3'.out hr)
            have HE' := Lib.hid (Ext.trans HE.out hr)
            have C3 := Lib.hid (show n + 1 ≤ maxLen by unfold maxLen; omega)
            have C4 := Lib.hid (show (n + 1) * 24 ≤ 140737488355328 by omega)
            have C5 := Lib.hid (show w2.heap.size + 1 ≤ w'.heap.size by have := blk_lt F3.out; omega)
            have HB' := Lib.hid hb'
            clear hr hb'
            simp only [e1, e10]
            go_wp2_with (at_builtin; refine wpList_append_own _ rfl _ _ 22 rfl (w2.heap.size + 1) 37 i0 _ 2 24 Try.underlying22 hi hz0 hz1 hz2' rfl (by decide) v n (flatC acc) rfl HO'.out ⟨b', 0, none⟩ 1 1 [.string s, .int .i64 (m + m2)] rfl rfl (news_at HB'.out) (by simp [Value.oneCell']) C3.out C4.out C5.out ?_; intro v' w3 hown hgrow _; obtain ⟨a', cap', hv'⟩ := owns_slice hown; subst hv'; have HL := Lib.hid (ExtL.of_grown hgrow (row_list v)); have HW := Lib.hid hown; have g3 := blk_extL F3.out HL.out (not_row HO'.out (by omega)); have gc := blk_cell g3 0 _ rfl; have gf := blk_free g3 0; have G3 := Lib.hid g3; clear g3 hown hgrow)
            go_roundw
            case rel => exact ⟨i + 1, k + 1, n + 1, _, acc ++ [(s, m + m2)], by go_num, by go_num, by omega, by omega, by omega, by rw [flatC_app]; exact ownsRow_setCell_below HW.out (by simp) _, Lib.hid (addL_both HRr.out HXi.out HYk.out HLt.out HGt.out HSum.out), (ext_extL HE'.out HL.out (row_from HO'.out (by have := HE2.out.size; omega))).set (by have := HE2.out.size; simp; omega) _, blk_other (blk_extL F0.out HL.out (not_row HO'.out (by have := HE2.out.size; omega))) (by have := HS2.out; simp; omega) _, blk_other (blk_extL F1.out HL.out (not_row HO'.out (by have := HS2.out; omega))) (by have := HS2.out; simp; omega) _, blk_other (blk_extL F2.out HL.out (not_row HO'.out (by have := HS2.out; omega))) (by have := HS2.out; simp; omega) _, blk_set G3.out 0 _⟩
            case measure => simp [intOf]; omega
      · -- nothing is left of the second one
        have kL2 : ((k : Int) == len2) = true := by simp; omega
        have HKL := Lib.hid hkL
        go_wp2
        go_quiet (fail)
        go_wp2
        apply wp_region_ext [some 97, some 98, some 99, some 100, some 101, some 102, some 103, some 104, some 105, some 106, none] 11 8 [Is _, Is _, Is _, Is _, Is _, Is _, Is _, KNew 0 [.string s, .int .i64 (m)] 37] mixed rfl rfl (by decide) (by kernel_rfl)
        case hop =>
          refine allOps_cons ?o0 (allOps_cons ?o1 (allOps_cons ?o2 (allOps_cons ?o3 (allOps_cons ?o4 (allOps_cons ?o5 (allOps_cons ?o6 (allOps_cons ?o7 allOps_nil)))))))
          case o0 =>
            refine opGoal_plain rfl rfl (by simp) fun f w' hr hk => ?_
            have d0 := hr.cell cO
            have d1 := hr.cell c0
            have d2 := hr.cell c1
            have d3 := hr.cell hs
            have d4 := hr.cell hm
            have HR := Lib.hid hr
            clear hr
            simp [putD, depsO, depsL, phi, Is, KnowAll, Region.binds, put_some, put_none, KNew] at hk ⊢
            try simp only [hk]
            go_wp2
            exact onePost_is _ rfl rfl ⟨Ext.refl _, rfl⟩
          case o1 =>
            refine opGoal_plain rfl rfl (by simp) fun f w' hr hk => ?_
            have d0 := hr.cell cO
            have d1 := hr.cell c0
            have d2 := hr.cell c1
            have d3 := hr.cell hs
            have d4 := hr.cell hm
            have HR := Lib.hid hr
            clear hr
            simp [putD, depsO, depsL, phi, Is, KnowAll, Region.binds, put_some, put_none, KNew] at hk ⊢
            try simp only [hk]
            go_wp2
            exact onePost_is _ rfl rfl ⟨Ext.refl _, rfl⟩
          case o2 =>
            refine opGoal_plain rfl rfl (by simp) fun f w' hr hk => ?_
            have d0 := hr.cell cO
            have d1 := hr.cell c0
            have d2 := hr.cell c1
            have d3 := hr.cell hs
            have d4 := hr.cell hm
            have HR := Lib.hid hr
            clear hr
            simp [putD, depsO, depsL, phi, Is, KnowAll, Region.binds, put_some, put_none, KNew] at hk ⊢
            try simp only [hk]
            go_wp2
            exact onePost_is _ rfl rfl ⟨Ext.refl _, rfl⟩
          case o3 =>
            refine opGoal_plain rfl rfl (by simp) fun f w' hr hk => ?_
            have d0 := hr.cell cO
            have d1 := hr.cell c0
            have d2 := hr.cell c1
            have d3 := hr.cell hs
            have d4 := hr.cell hm
            have HR := Lib.hid hr
            clear hr
            simp [putD, depsO, depsL, phi, Is, KnowAll, Region.binds, put_some, put_none, KNew] at hk ⊢
            try simp only [hk]
            go_wp2
            exact onePost_is _ rfl rfl ⟨Ext.refl _, rfl⟩
          case o4 =>
            refine opGoal_plain rfl rfl (by simp) fun f w' hr hk => ?_
            have d0 := hr.cell cO
            have d1 := hr.cell c0
            have d2 := hr.cell c1
            have d3 := hr.cell hs
            have d4 := hr.cell hm
            have HR := Lib.hid hr
            clear hr
            simp [putD, depsO, depsL, phi, Is, KnowAll, Region.binds, put_some, put_none, KNew] at hk ⊢
            try simp only [hk]
            go_wp2
            exact onePost_is _ rfl rfl ⟨Ext.refl _, rfl⟩
          case o5 =>
            refine opGoal_plain rfl rfl (by simp) fun f w' hr hk => ?_
            have d0 := hr.cell cO
            have d1 := hr.cell c0
            have d2 := hr.cell c1
            have d3 := hr.cell hs
            have d4 := hr.cell hm
            have HR := Lib.hid hr
            clear hr
            simp [putD, depsO, depsL, phi, Is, KnowAll, Region.binds, put_some, put_none, KNew] at hk ⊢
            try simp only [hk]
            go_wp2
            exact onePost_is _ rfl rfl ⟨Ext.refl _, rfl⟩
          case o6 =>
            refine opGoal_plain rfl rfl (by simp) fun f w' hr hk => ?_
            have d0 := hr.cell cO
            have d1 := hr.cell c0
            have d2 := hr.cell c1
            have d3 := hr.cell hs
            have d4 := hr.cell hm
            have HR := Lib.hid hr
            clear hr
            simp [putD, depsO, depsL, phi, Is, KnowAll, Region.binds, put_some, put_none, KNew] at hk ⊢
            try simp only [hk]
            go_wp2
            exact onePost_is _ rfl rfl ⟨Ext.refl _, rfl⟩
          case o7 =>
            refine opGoal_plain rfl rfl (by simp) fun f w' hr hk => ?_
            have d0 := hr.cell cO
            have d1 := hr.cell c0
            have d2 := hr.cell c1
            have d3 := hr.cell hs
            have d4 := hr.cell hm
            have HR := Lib.hid hr
            clear hr
            simp [putD, depsO, depsL, phi, Is, KnowAll, Region.binds, put_some, put_none, KNew] at hk ⊢
            simp only [hk]
            go_wp2
            exact ⟨rfl, rfl, Ext.alloc _ _, _, rfl, heap_new _ _⟩
        case hend =>
          intro f w' hr hk
          simp [putD, phi, Is, KNew, KnowAll, List.range, List.range.loop, put_some, put_none] at hk ⊢
          obtain ⟨-, e1, -, -, -, -, -, ⟨b', e7, hb'⟩⟩ := hk
          replace hr : Ext wr w' := ⟨hr.os, hr.tape, hr.output, hr.size, hr.block⟩
          have HO' := Lib.hid (owns_ext HO.out hr)
          have F0 := Lib.hid (blk_ext E0'.out hr)
          have F1 := Lib.hid (blk_ext E1'.out hr)
          have F2 := Lib.hid (blk_ext E2'.out hr)
          have F3 := Lib.hid (blk_ext E3'.out hr)
          have HE' := Lib.hid (Ext.trans HE.out hr)
          have C3 := Lib.hid (show n + 1 ≤ maxLen by unfold maxLen; omega)
          have C4 := Lib.hid (show (n + 1) * 24 ≤ 140737488355328 by omega)
          have C5 := Lib.hid (show w2.heap.size + 1 ≤ w'.heap.size by have := blk_lt F3.out; omega)
          have HB' := Lib.hid hb'
          clear hr hb'
          simp only [e1, e7]
          go_wp2_with (at_builtin; refine wpList_append_own _ rfl _ _ 22 rfl (w2.heap.size + 1) 37 i0 _ 2 24 Try.underlying22 hi hz0 hz1 hz2' rfl (by decide) v n (flatC acc) rfl HO'.out ⟨b', 0, none⟩ 1 1 [.string s, .int .i64 (m)] rfl rfl (news_at HB'.out) (by simp [Value.oneCell']) C3.out C4.out C5.out ?_; intro v' w3 hown hgrow _; obtain ⟨a', cap', hv'⟩ := owns_slice hown; subst hv'; have HL := Lib.hid (ExtL.of_grown hgrow (row_list v)); have HW := Lib.hid hown; have g3 := blk_extL F3.out HL.out (not_row HO'.out (by omega)); have gc := blk_cell g3 0 _ rfl; have gf := blk_free g3 0; have G3 := Lib.hid g3; clear g3 hown hgrow)
          go_roundw
          case rel => exact ⟨i + 1, k, n + 1, _, acc ++ [(s, m)], by go_num, by go_num, by omega, by omega, by omega, by rw [flatC_app]; exact ownsRow_setCell_below HW.out (by simp) _, Lib.hid (addL_left HRr.out HXi.out (.inl (by rw [HD.out.size]; have := HKL.out; omega))), (ext_extL HE'.out HL.out (row_from HO'.out (by have := HE2.out.size; omega))).set (by have := HE2.out.size; simp; omega) _, blk_other (blk_extL F0.out HL.out (not_row HO'.out (by have := HE2.out.size; omega))) (by have := HS2.out; simp; omega) _, blk_other (blk_extL F1.out HL.out (not_row HO'.out (by have := HS2.out; omega))) (by have := HS2.out; simp; omega) _, blk_other (blk_extL F2.out HL.out (not_row HO'.out (by have := HS2.out; omega))) (by have := HS2.out; simp; omega) _, blk_set G3.out 0 _⟩
          case measure => simp [intOf]; omega
    · have iL1 : decide ((i : Int) < len) = false := by simpa using hiL
      have iL2 : ((i : Int) == len) = true := by simp; omega
      have HIL := Lib.hid hiL
      by_cases hkL : k < len2
      · have hcy : k < ys.length := by rw [HD.out.size]; exact hkL
        obtain ⟨by', oy, ha2, ⟨hb2, -⟩, hs2, hm2⟩ := HD.out.cells k hcy
        subst ha2
        rw [← HE.out.cell' (by simpa using hb2)] at hs2 hm2
        have hqy := HRy.out.nums ys[k] (List.getElem_mem hcy)
        generalize hcn2 : ys[k]'hcy = y at hs2 hm2 hqy
        obtain ⟨s2, m2⟩ := y
        have HYk : Hid (ys[k]? = some (s2, m2)) := Lib.hid (by rw [List.getElem?_eq_getElem hcy, hcn2])
        clear hcn2
        obtain ⟨n0, n1⟩ := hqy
        have hbw2 : by' < wr.heap.size := Nat.lt_of_lt_of_le hb2 HE.out.size
        have kL1 : ((k : Int) == len2) = false := by simp; omega
        have kL2 : decide ((k : Int) < len2) = true := by simpa using hkL
        have kL3 : (k : Int) < len2 := by omega
        go_wp2
        go_quiet (fail)
        go_wp2
        go_quiet (fail)
        go_wp2
        apply wp_region_ext [some 130, some 131, some 132, some 133, some 134, some 135, some 136, some 137, some 138, some 139, none] 11 8 [Is _, Is _, Is _, Is _, Is _, Is _, Is _, KNew 0 [.string s2, .int .i64 (m2)] 37] mixed rfl rfl (by decide) (by kernel_rfl)
        case hop =>
          refine allOps_cons ?o0 (allOps_cons ?o1 (allOps_cons ?o2 (allOps_cons ?o3 (allOps_cons ?o4 (allOps_cons ?o5 (allOps_cons ?o6 (allOps_cons ?o7 allOps_nil)))))))
          case o0 =>
            refine opGoal_plain rfl rfl (by simp) fun f w' hr hk => ?_
            have d0 := hr.cell cO
            have d1 := hr.cell c0
            have d2 := hr.cell c1
            have d5 := hr.cell hs2
            have d6 := hr.cell hm2
            have HR := Lib.hid hr
            clear hr
            simp [putD, depsO, depsL, phi, Is, KnowAll, Region.binds, put_some, put_none, KNew] at hk ⊢
            try simp only [hk]
            go_wp2
            exact onePost_is _ rfl rfl ⟨Ext.refl _, rfl⟩
          case o1 =>
            refine opGoal_plain rfl rfl (by simp) fun f w' hr hk => ?_
            have d0 := hr.cell cO
            have d1 := hr.cell c0
            have d2 := hr.cell c1
            have d5 := hr.cell hs2
            have d6 := hr.cell hm2
            have HR := Lib.hid hr
            clear hr
            simp [putD, depsO, depsL, phi, Is, KnowAll, Region.binds, put_some, put_none, KNew] at hk ⊢
            try simp only [hk]
            go_wp2
            exact onePost_is _ rfl rfl ⟨Ext.refl _, rfl⟩
          case o2 =>
            refine opGoal_plain rfl rfl (by simp) fun f w' hr hk => ?_
            have d0 := hr.cell cO
            have d1 := hr.cell c0
            have d2 := hr.cell c1
            have d5 := hr.cell hs2
            have d6 := hr.cell hm2
            have HR := Lib.hid hr
            clear hr
            simp [putD, depsO, depsL, phi, Is, KnowAll, Region.binds, put_some, put_none, KNew] at hk ⊢
            try simp only [hk]
            go_wp2
            exact onePost_is _ rfl rfl ⟨Ext.refl _, rfl⟩
          case o3 =>
            refine opGoal_plain rfl rfl (by simp) fun f w' hr hk => ?_
            have d0 := hr.cell cO
            have d1 := hr.cell c0
            have d2 := hr.cell c1
            have d5 := hr.cell hs2
            have d6 := hr.cell hm2
            have HR := Lib.hid hr
            clear hr
            simp [putD, depsO, depsL, phi, Is, KnowAll, Region.binds, put_some, put_none, KNew] at hk ⊢
            try simp only [hk]
            go_wp2
            exact onePost_is _ rfl rfl ⟨Ext.refl _, rfl⟩
          case o4 =>
            refine opGoal_plain rfl rfl (by simp) fun f w' hr hk => ?_
            have d0 := hr.cell cO
            have d1 := hr.cell c0
            have d2 := hr.cell c1
            have d5 := hr.cell hs2
            have d6 := hr.cell hm2
            have HR := Lib.hid hr
            clear hr
            simp [putD, depsO, depsL, phi, Is, KnowAll, Region.binds, put_some, put_none, KNew] at hk ⊢
            try simp only [hk]
            go_wp2
            exact onePost_is _ rfl rfl ⟨Ext.refl _, rfl⟩
          case o5 =>
            refine opGoal_plain rfl rfl (by simp) fun f w' hr hk => ?_
            have d0 := hr.cell cO
            have d1 := hr.cell c0
            have d2 := hr.cell c1
            have d5 := hr.cell hs2
            have d6 := hr.cell hm2
            have HR := Lib.hid hr
            clear hr
            simp [putD, depsO, depsL, phi, Is, KnowAll, Region.binds, put_some, put_none, KNew] at hk ⊢
            try simp only [hk]
            go_wp2
            exact onePost_is _ rfl rfl ⟨Ext.refl _, rfl⟩
          case o6 =>
            refine opGoal_plain rfl rfl (by simp) fun f w' hr hk => ?_
            have d0 := hr.cell cO
            have d1 := hr.cell c0
            have d2 := hr.cell c1
            have d5 := hr.cell hs2
            have d6 := hr.cell hm2
            have HR := Lib.hid hr
            clear hr
            simp [putD, depsO, depsL, phi, Is, KnowAll, Region.binds, put_some, put_none, KNew] at hk ⊢
            try simp only [hk]
            go_wp2
            exact onePost_is _ rfl rfl ⟨Ext.refl _, rfl⟩
          case o7 =>
            refine opGoal_plain rfl rfl (by simp) fun f w' hr hk => ?_
            have d0 := hr.cell cO
            have d1 := hr.cell c0
            have d2 := hr.cell c1
            have d5 := hr.cell hs2
            have d6 := hr.cell hm2
            have HR := Lib.hid hr
            clear hr
            simp [putD, depsO, depsL, phi, Is, KnowAll, Region.binds, put_some, put_none, KNew] at hk ⊢
            simp only [hk]
            go_wp2
            exact ⟨rfl, rfl, Ext.alloc _ _, _, rfl, heap_new _ _⟩
        case hend =>
          intro f w' hr hk
          simp [putD, phi, Is, KNew, KnowAll, List.range, List.range.loop, put_some, put_none] at hk ⊢
          obtain ⟨-, e1, -, -, -, -, -, ⟨b', e7, hb'⟩⟩ := hk
          replace hr : Ext wr w' := ⟨hr.os, hr.tape, hr.output, hr.size, hr.block⟩
          have HO' := Lib.hid (owns_ext HO.out hr)
          have F0 := Lib.hid (blk_ext E0'.out hr)
          have F1 := Lib.hid (blk_ext E1'.out hr)
          have F2 := Lib.hid (blk_ext E2'.out hr)
          have F3 := Lib.hid (blk_ext E3'.out hr)
          have HE' := Lib.hid (Ext.trans HE.out hr)
          have C3 := Lib.hid (show n + 1 ≤ maxLen by unfold maxLen; omega)
          have C4 := Lib.hid (show (n + 1) * 24 ≤ 140737488355328 by omega)
          have C5 := Lib.hid (show w2.heap.size + 1 ≤ w'.heap.size by have := blk_lt F3.out; omega)
          have HB' := Lib.hid hb'
          clear hr hb'
          simp only [e1, e7]
          go_wp2_with (at_builtin; refine wpList_append_own _ rfl _ _ 22 rfl (w2.heap.size + 1) 37 i0 _ 2 24 Try.underlying22 hi hz0 hz1 hz2' rfl (by decide) v n (flatC acc) rfl HO'.out ⟨b', 0, none⟩ 1 1 [.string s2, .int .i64 (m2)] rfl rfl (news_at HB'.out) (by simp [Value.oneCell']) C3.out C4.out C5.out ?_; intro v' w3 hown hgrow _; obtain ⟨a', cap', hv'⟩ := owns_slice hown; subst hv'; have HL := Lib.hid (ExtL.of_grown hgrow (row_list v)); have HW := Lib.hid hown; have g3 := blk_extL F3.out HL.out (not_row HO'.out (by omega)); have gc := blk_cell g3 0 _ rfl; have gf := blk_free g3 0; have G3 := Lib.hid g3; clear g3 hown hgrow)
          go_roundw
          case rel => exact ⟨i, k + 1, n + 1, _, acc ++ [(s2, m2)], by go_num, by go_num, by omega, by omega, by omega, by rw [flatC_app]; exact ownsRow_setCell_below HW.out (by simp) _, Lib.hid (addL_right HRr.out HYk.out (.inl (by rw [HC.out.size]; have := HIL.out; omega))), (ext_extL HE'.out HL.out (row_from HO'.out (by have := HE2.out.size; omega))).set (by have := HE2.out.size; simp; omega) _, blk_other (blk_extL F0.out HL.out (not_row HO'.out (by have := HE2.out.size; omega))) (by have := HS2.out; simp; omega) _, blk_other (blk_extL F1.out HL.out (not_row HO'.out (by have := HS2.out; omega))) (by have := HS2.out; simp; omega) _, blk_other (blk_extL F2.out HL.out (not_row HO'.out (by have := HS2.out; omega))) (by have := HS2.out; simp; omega) _, blk_set G3.out 0 _⟩
          case measure => simp [intOf]; omega
      · have kL1 : decide ((k : Int) < len2) = false := by simpa using hkL
        have hacc := addL_end HRr.out (by rw [HC.out.size]; omega) (by rw [HD.out.size]; omega)
        subst hacc
        obtain ⟨av, cv, hv'⟩ := owns_slice HO.out
        subst hv'
        have g0 := blk_cell E3'.out 1 _ rfl
        have HV := Lib.hid (isL_of_row (L := (w.heap.size + 2) :: L) HO.out ((HU.out.mono (by have := HE2.out.size; omega)).cons (by have := HS2.out; omega)))
        obtain ⟨av2, lv2, cv2, hve, hcoef⟩ := HV.out
        cases hve
        have HCo := Lib.hid hcoef
        have HU2 := Lib.hid ((HU.out.mono (by have := HE2.out.size; omega : w.heap.size ≤ wr.heap.size)).cons (blk_lt E2'.out))
        clear hcoef
        by_cases hck : checkS (addL xs ys) (p + q) = 0
        · have HS : Hid (sumS xs p ys q = ((addL xs ys, p + q), true)) := Lib.hid (by unfold sumS; rw [if_neg (by rw [HZ.out]; decide), if_neg (by rw [HZ2.out]; decide), if_neg (by rw [hck]; decide)])
          have HCk := Lib.hid hck
          clear hck
          go_wp2_with (go_at_call 46; refine (linear_right_ok _ _ _ _ _ _ HCo.out HU2.out (by omega) HCk.out).mono ?_; rintro e w3 ⟨⟨r, rfl, ⟨ra, rl, rc, rfl, hrc⟩⟩, he⟩; have HRc := Lib.hid hrc; have HEr := Lib.hid (Ext.trans HE.out he); have g2 := blk_ext E2'.out he; have z0 := blk_cell g2 0 _ rfl; have z1 := blk_cell g2 1 _ rfl; have f0 := blk_free g2 0; have f1 := blk_free g2 1; have G2 := Lib.hid g2; clear he hrc g2)
          refine bodyPost_ret (res_FormB2 rfl rfl G2.out) rfl ?_
          rw [HS.out]
          exact ⟨⟨_, rfl, _, _, _, rfl, ((HRc.out.set (by simp) _).set (by simp) _).tail⟩, (HEr.out.set (by simp; omega) _).set (by simp; omega) _⟩
        · have HS : Hid (sumS xs p ys q = (([], 0), false)) := Lib.hid (by unfold sumS; rw [if_neg (by rw [HZ.out]; decide), if_neg (by rw [HZ2.out]; decide), if_pos hck])
          have HCk := Lib.hid hck
          clear hck
          go_wp2_with (go_at_call 46; refine (linear_right_bad _ _ _ _ _ _ HCo.out HU2.out (by omega) HCk.out).mono ?_; rintro e w3 ⟨⟨r, rfl, ⟨ra, rl, rc, rfl, hrc⟩⟩, he⟩; have HRc := Lib.hid hrc; have HEr := Lib.hid (Ext.trans HE.out he); have g2 := blk_ext E2'.out he; have z0 := blk_cell g2 0 _ rfl; have z1 := blk_cell g2 1 _ rfl; have f0 := blk_free g2 0; have f1 := blk_free g2 1; have G2 := Lib.hid g2; clear he hrc g2)
          refine bodyPost_ret (res_FormB2 rfl rfl G2.out) rfl ?_
          rw [HS.out]
          exact ⟨⟨_, rfl, _, _, _, rfl, ((HRc.out.set (by simp) _).set (by simp) _).tail⟩, (HEr.out.set (by simp; omega) _).set (by simp; omega) _⟩
end Go.Proofs.Ytkghgdkkholieaa
