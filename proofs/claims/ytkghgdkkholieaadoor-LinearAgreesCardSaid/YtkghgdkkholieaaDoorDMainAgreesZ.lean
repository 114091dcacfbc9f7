/-
  Proved: whatever forms and numbers it is given, the law LinearAgrees returns true, and they read afterwards as they did before.
  Conditions: none beyond the row's own.
-/
import Derived.Test.YtkghgdkkholieaaDoorZA12
import Derived.Test.YtkghgdkkholieaaDoorZA13
import Derived.Test.YtkghgdkkholieaaDoorZA11
import Derived.Test.YtkghgdkkholieaaDoorZA15
import Derived.Test.YtkghgdkkholieaaDoorZA18
namespace Go.Proofs.YtkghgdkkholieaaDoor
open Go Go.ChangeShapes Go.WideShapes Go.ChangeAt Go.RowKit Go.Deep

set_option maxRecDepth 100000 in
theorem linearAgrees_lifted (os : Os) (started : os.Started) (H : Type) (enc : TypeId × Value → H) :
    ReturnsInHanded {} Tryd.checked os 4 .any (fun w args => (Rows.linearAgreesSpec.pre enc Tryd.prog Tryd.f4 [] false w args ∧ laidMet Tryd.prog laid3 w) ∧ sizedMet enc Tryd.prog Tryd.f4 (OpenSpec.ofChange Rows.linearAgreesSpec) false w args) (Rows.linearAgreesSpec.post enc Tryd.prog Tryd.f4 false true false false) := by
  refine returnsInHanded_of_change_and (C := Tryd.checked) (X := fun w _ => laidMet Tryd.prog laid3 w) (fun _ _ _ hh h => h.of_heap hh) Try.own started (by kernel_rfl) Tryd.func4
    (ChangeSpec.witness_at (enc := enc) (C := Tryd.checked) (os := os) (X := fun w _ => laidMet Tryd.prog laid3 w) false (laidWorld os) #[.agg #[.slice none 0 0, .int .i64 0], .agg #[.slice none 0 0, .int .i64 0], .agg #[.int .i8 0, .int .i8 0, .int .i8 0]] 8 rfl (by kernel_rfl) (by kernel_rfl) (by kernel_rfl) (by kernel_rfl) (by kernel_rfl) (laid_met os _)) ?_
  intro W base args ds gs before hval0 hW hcnd hsz0 hL0 _
  have htab : Tab W := tab_of_laid hL0
  have hval : ∀ (j : Nat) t v, Tryd.f4.params[j]? = some t → args[j]? = some v → Value.okWide Tryd.prog W .any base t v := hval0
  have hW' := hW
  obtain ⟨p, q, hA0, hV, rfl, hfz, hnd⟩ := hW
  have hA : DataW.TrodAll enc Tryd.prog W 0 (fun _ => true) true Tryd.f4.params.toList args.toList ds p := hA0
  rw [Tryd.params4] at hA hval
  obtain ⟨v0, v1, v2, d0, d1, d2, p0, p1, p2, rfl, rfl, rfl, h0, h1, h2⟩ := trodAll_three hA
  obtain ⟨rfl, rfl⟩ := trodVars_none hV
  obtain ⟨a, n, q0⟩ := open_lin htab (hval 0 28 v0 rfl rfl) h0
  obtain ⟨b, m, q1⟩ := open_lin htab (hval 1 28 v1 rfl rfl) h1
  obtain ⟨q, x, y, q2, hq, hx, hy⟩ := open_i8x3 h2
  clear hA0 hval0
  simp only [List.append_nil] at hW'
  refine (law_of htab (L11_LinearAgrees [] [] 0 a n b m q x y hq hx hy) (vs := #[v0, v1, v2]) (by simp only [VRs]; exact ⟨q0, q1, q2, trivial⟩)).mono fun e W' ⟨he, hw⟩ => ?_
  subst he
  have hlt : ∀ x ∈ p0 ++ p1 ++ p2, x.block < W.heap.size := fun x hx => hW'.lt x hx
  have st : ∀ {sp : Nat → Bool} {t : TypeId} {v : Value} {d : DataW H} {p' : List MemPlace}, Tryd.prog.readableRec t = true → t < Tryd.prog.types.size → (∀ x ∈ p', x ∈ p0 ++ p1 ++ p2) → (∀ x ∈ p0 ++ p1 ++ p2, sp x.block = true) → DataW.Trod enc Tryd.prog W 0 (fun _ => true) true t v d p' → DataW.Trod enc Tryd.prog W' 0 sp true t v d p' := fun hr hl hp hs h =>
    WideElems.Trod_stays Try.laidOut hr hl h (fun x hx => hw.same (hlt x (hp x hx))) fun x hx => hs x (hp x hx)
  exact ⟨_, rfl, post_of_below (pa := p0 ++ (p1 ++ p2)) (pv := []) hW' (fun _ _ _ => trodAll_mk1 (shut_Bool true))
    (fun sp hs => trodAll_mk3 (st (by kernel_rfl) (by decide) (by simp +contextual) hs h0) (st (by kernel_rfl) (by decide) (by simp +contextual) hs h1) (st (by kernel_rfl) (by decide) (by simp +contextual) hs h2))
    (fun _ _ => rfl) (by simp) hw (ok_one (by kernel_rfl) rfl (okWide_Bool true))⟩

theorem linearAgrees_holds : Rows.LinearAgreesSaid :=
  OpenClaim.holds_of_wide 4 Tryd.f4 rfl rfl rfl rfl rfl rfl rfl ⟨rfl, rfl, rfl, rfl, rfl⟩ rfl rfl rfl rfl rfl (by kernel_rfl) Tryd.func4 (by kernel_rfl)
    (of_decide_eq_true (by kernel_rfl)) (by unfold Func.isWrapper; first | (rw [if_pos (by decide +kernel)]; kernel_rfl) | (rw [if_neg (by decide +kernel)]; exact ⟨rfl, rfl⟩))
    (fun os started H enc _ => linearAgrees_lifted os started H enc)

theorem linearAgrees_card : Rows.LinearAgreesCardSaid :=
  Claim7.holds_tied_plain_at .later [] [.data] true (true, "aac419b7e6fa456af13715f3d3fae08f1df811207de217740f2bf1089576d5c4") false
    linearAgrees_holds (fun _ h => by cases h) (by kernel_rfl) (fun _ h => by cases h) linearAgrees_row_tie rfl ⟨rfl, rfl⟩ (by kernel_rfl) rfl
    (fun f fn hf hfn => by
      obtain rfl : f = 4 := Option.some.inj ((show Tryd.prog.funcNamed "liquidcheck/liquidchecklaw11.LinearAgrees" = some 4 by kernel_rfl).symm.trans hf) |>.symm
      obtain rfl : fn = Tryd.f4 := (Option.some.inj (Tryd.func4.symm.trans hfn)).symm
      exact ⟨by kernel_rfl, fun j t ht => by
        rw [Tryd.params4] at ht
        have hm : t ∈ [28, 28, 39] := by simpa using Array.mem_of_getElem? ht
        have hall : ([28, 28, 39].all fun u => !Tryd.prog.wantsStandIn u) = true := by kernel_rfl
        exact (show Tryd.prog.wantsStandIn t = false by simpa using List.all_eq_true.1 hall t hm)⟩)
    (by kernel_rfl)
end Go.Proofs.YtkghgdkkholieaaDoor
