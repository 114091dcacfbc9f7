/-
  Walks: copied forms.
-/
import Derived.Test.YtkghgdkkholieaaLin3
namespace Go.Proofs.Ytkghgdkkholieaa
open Go.RowKit

theorem mixed : Try.prog.follows .mixedOrders = true := by kernel_rfl

/-- a form -/
def IsLin (L : List Nat) (w : World) (v : Value) (cs : List (ByteArray × Int)) (k : Int) : Prop := ∃ a len cap, v = .agg #[.slice a len cap, .int .i64 k] ∧ IsCoefs L w a len cap cs
def KL (L : List Nat) (cs : List (ByteArray × Int)) : Know := ⟨fun w v => IsL L w v cs, fun _ _ _ h k => k.below h⟩
def KLin (L : List Nat) (cs : List (ByteArray × Int)) (k : Int) : Know := ⟨fun w v => IsLin L w v cs k, fun _ _ _ h ⟨a, len, cap, e, x⟩ => ⟨a, len, cap, e, x.below h⟩⟩
theorem Under.below {L : List Nat} {w w' : World} (h : Under L w.heap.size) (hb : Ext w w') : Under L w'.heap.size := h.mono hb.size

set_option maxHeartbeats 1000000 in
theorem linear_copied {L : List Nat} (w : World) (a : Option Addr) (len cap : Nat) (k : Int) (cs : List (ByteArray × Int)) (hc : IsCoefs L w a len cap cs) (hL : Under L w.heap.size) (hm : len ≤ 1000000) :
    Calls Try.prog 35 #[.agg #[.slice a len cap, .int .i64 k]] w fun e w' => ∃ v, e = .returned v ∧ IsLin L w' v cs k ∧ Ext w w' := by
  have HC := Lib.hid (hc.cons (Nat.le_add_right _ 1))
  have HU := Lib.hid hL
  clear hc hL
  go_enter Try.func35, Try.ntmps35
  go_wp2
  apply wp_region_ext [some 3, some 4, some 5, some 6, some 7, some 8, none] 7 6 [Is _, Is _, KL ((w.heap.size + 1) :: L) cs, Is _, Is _, KLin ((w.heap.size + 1) :: L) cs k] mixed rfl rfl (by decide) (by kernel_rfl)
  case hop =>
    refine allOps_cons ?o0 (allOps_cons ?o1 (allOps_cons ?o2 (allOps_cons ?o3 (allOps_cons ?o4 (allOps_cons ?o5 allOps_nil)))))
    case o0 =>
      refine opGoal_plain rfl rfl (by simp) fun f w' hr hk => ?_
      have c0 : w'.cell? ⟨w.heap.size, 0, none⟩ = some (.slice a len cap) := hr.cell (by simp)
      have c1 : w'.cell? ⟨w.heap.size, 1, none⟩ = some (.int .i64 k) := hr.cell (by simp)
      have HR := Lib.hid hr
      clear hr
      simp [putD, depsO, depsL, phi, Is, KnowAll, Region.binds, put_some, put_none, KL, KLin] at hk ⊢
      try simp only [hk]
      go_wp2
      exact onePost_is _ rfl rfl ⟨Ext.refl _, rfl⟩
    case o1 =>
      refine opGoal_plain rfl rfl (by simp) fun f w' hr hk => ?_
      have c0 : w'.cell? ⟨w.heap.size, 0, none⟩ = some (.slice a len cap) := hr.cell (by simp)
      have c1 : w'.cell? ⟨w.heap.size, 1, none⟩ = some (.int .i64 k) := hr.cell (by simp)
      have HR := Lib.hid hr
      clear hr
      simp [putD, depsO, depsL, phi, Is, KnowAll, Region.binds, put_some, put_none, KL, KLin] at hk ⊢
      try simp only [hk]
      go_wp2
      exact onePost_is _ rfl rfl ⟨Ext.refl _, rfl⟩
    case o2 =>
      refine opGoal_plain rfl rfl (by simp) fun f w' hr hk => ?_
      have c0 : w'.cell? ⟨w.heap.size, 0, none⟩ = some (.slice a len cap) := hr.cell (by simp)
      have c1 : w'.cell? ⟨w.heap.size, 1, none⟩ = some (.int .i64 k) := hr.cell (by simp)
      have HR := Lib.hid hr
      clear hr
      simp [putD, depsO, depsL, phi, Is, KnowAll, Region.binds, put_some, put_none, KL, KLin] at hk ⊢
      go_wp2_with (go_at_call 58; refine (Clone_Coef _ a len cap cs (HC.out.below ((Ext.alloc _ _).trans ((Ext.alloc _ _).trans HR.out))) (((HU.out.below ((Ext.alloc _ _).trans (Ext.alloc _ _))).cons (by simp)).below HR.out) hm).mono ?_; rintro e w' ⟨v, rfl, hv, he⟩)
      exact ⟨rfl, rfl, he, hv⟩
    case o3 =>
      refine opGoal_plain rfl rfl (by simp) fun f w' hr hk => ?_
      have c0 : w'.cell? ⟨w.heap.size, 0, none⟩ = some (.slice a len cap) := hr.cell (by simp)
      have c1 : w'.cell? ⟨w.heap.size, 1, none⟩ = some (.int .i64 k) := hr.cell (by simp)
      have HR := Lib.hid hr
      clear hr
      simp [putD, depsO, depsL, phi, Is, KnowAll, Region.binds, put_some, put_none, KL, KLin] at hk ⊢
      try simp only [hk]
      go_wp2
      exact onePost_is _ rfl rfl ⟨Ext.refl _, rfl⟩
    case o4 =>
      refine opGoal_plain rfl rfl (by simp) fun f w' hr hk => ?_
      have c0 : w'.cell? ⟨w.heap.size, 0, none⟩ = some (.slice a len cap) := hr.cell (by simp)
      have c1 : w'.cell? ⟨w.heap.size, 1, none⟩ = some (.int .i64 k) := hr.cell (by simp)
      have HR := Lib.hid hr
      clear hr
      simp [putD, depsO, depsL, phi, Is, KnowAll, Region.binds, put_some, put_none, KL, KLin] at hk ⊢
      try simp only [hk]
      go_wp2
      exact onePost_is _ rfl rfl ⟨Ext.refl _, rfl⟩
    case o5 =>
      refine opGoal_plain rfl rfl (by simp) fun f w' hr hk => ?_
      have c0 : w'.cell? ⟨w.heap.size, 0, none⟩ = some (.slice a len cap) := hr.cell (by simp)
      have c1 : w'.cell? ⟨w.heap.size, 1, none⟩ = some (.int .i64 k) := hr.cell (by simp)
      have HR := Lib.hid hr
      clear hr
      simp [putD, depsO, depsL, phi, Is, KnowAll, Region.binds, put_some, put_none, KL, KLin] at hk ⊢
      obtain ⟨⟨b, l, c, e, h⟩, e2⟩ := hk
      rw [e, e2]
      go_wp2
      exact ⟨rfl, rfl, Ext.refl _, b, l, c, rfl, h⟩
  case hend =>
    intro f w' hr hk
    simp [putD, phi, Is, KnowAll, KL, KLin, List.range, List.range.loop, put_some, put_none] at hk ⊢
    obtain ⟨e0, e1, -, e3, e4, b, l, c, e, h⟩ := hk
    have c0 : w'.cell? ⟨w.heap.size + 1, 0, none⟩ = some (.slice none 0 0) := hr.cell (by simp)
    have c1 : w'.cell? ⟨w.heap.size + 1, 1, none⟩ = some (.int .i64 0) := hr.cell (by simp)
    have z0 : w'.frozen? ⟨w.heap.size + 1, 0, none⟩ = false := hr.frozen (v := .slice none 0 0) (by simp) (by simp)
    have z1 : w'.frozen? ⟨w.heap.size + 1, 1, none⟩ = false := hr.frozen (v := .int .i64 0) (by simp) (by simp)
    have HR := Lib.hid (Ext.trans ((Ext.alloc w _).trans (Ext.alloc _ _)) hr)
    clear hr
    rw [e0, e1, e3, e4, e]
    go_wp2
    have s0 : ((w'.setCell ⟨w.heap.size + 1, 0, none⟩ (.slice b l c)).setCell ⟨w.heap.size + 1, 1, none⟩ (.int .i64 k)).cell? ⟨w.heap.size + 1, 0, none⟩ = some (.slice b l c) := set_other (set_same c0) (by simp)
    have s1 : ((w'.setCell ⟨w.heap.size + 1, 0, none⟩ (.slice b l c)).setCell ⟨w.heap.size + 1, 1, none⟩ (.int .i64 k)).cell? ⟨w.heap.size + 1, 1, none⟩ = some (.int .i64 k) := set_same (set_other c1 (by simp))
    refine bodyPost_ret (v := .agg #[.slice b l c, .int .i64 k]) (by simp [results, Try.results35, go_sem, s0, s1]) rfl ?_
    exact ⟨_, rfl, ⟨b, l, c, rfl, ((h.set (by simp) _).set (by simp) _).tail⟩, (HR.out.set (by simp) _).set (by simp) _⟩
end Go.Proofs.Ytkghgdkkholieaa
