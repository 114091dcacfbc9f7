/-
  Proved: whatever form and point it is given, the law LinearValues returns true, and both read afterwards as they did before.
  Conditions: none.
-/
import Derived.Test.YtkghgdkkholieaaELift
import Derived.Test.YtkghgdkkholieaaE4
namespace Go.Proofs.Ytkghgdkkholieaa
open Go.ChangeShapes Go.WideShapes Go.ChangeAt Go.RowKit Go.Deep

set_option maxRecDepth 100000 in
theorem linearValues_lifted (os : Os) (started : os.Started) (H : Type) (enc : TypeId × Value → H) :
    ReturnsInHanded {} Try.checked os 4 .any (Rows.linearValuesSpec.pre6 enc Try.prog Try.f4 Rows.linearValuesRow.domain false) (Rows.linearValuesSpec.post enc Try.prog Try.f4 false true false false) := by
  refine returnsInHanded_of_change (C := Try.checked) Try.own started (by kernel_rfl) Try.func4
    (ChangeSpec.witness6 (enc := enc) (C := Try.checked) false ⟨#[], #[.agg #[.slice none 0 0, .int .i64 0], .slice none 0 0], []⟩ 8 (by kernel_rfl) (by kernel_rfl) (by kernel_rfl) (by kernel_rfl)) ?_
  intro W base args ds gs before hval0 hW hcnd _
  have hval : ∀ (j : Nat) t v, Try.f4.params[j]? = some t → args[j]? = some v → Value.okWide Try.prog W .any base t v := hval0
  have hW' := hW
  obtain ⟨p, q, hA0, hV, rfl, hfz, hnd⟩ := hW
  have hA : DataW.TrodAll enc Try.prog W 0 (fun _ => true) true Try.f4.params.toList args.toList ds p := hA0
  rw [Try.params4] at hA hval
  obtain ⟨v0, v1, d0, d1, p0, p1, rfl, rfl, rfl, h0, h1⟩ := trodAll_two hA
  obtain ⟨rfl, rfl⟩ := trodVars_none hV
  obtain ⟨cs, n, hc⟩ := open_lin (hval 0 24 v0 rfl rfl) h0
  obtain ⟨pt, hp⟩ := open_point (okWide_slice Try.underlying35 (hval 1 35 v1 rfl rfl)) h1
  clear hA0 hval0
  simp only [List.append_nil] at hW'
  refine (law_of (L11_LinearValues [] [] 0 cs n pt) (vs := #[v0, v1]) (by simp only [VRs]; exact ⟨hc, hp, trivial⟩)).mono fun e W' ⟨he, hw⟩ => ?_
  subst he
  have hlt : ∀ x ∈ p0 ++ p1, x.block < W.heap.size := fun x hx => hW'.lt x hx
  exact ⟨_, rfl, post_of_below (pa := p0 ++ p1) (pv := []) hW' (fun _ _ _ => trodAll_mk1 (shut_Bool true))
    (fun sp hs => trodAll_mk2 (WideElems.Trod_stays Try.laidOut (by kernel_rfl) (by decide) h0 (fun x hx => hw.same (hlt x (by simp [hx]))) fun x hx => hs x (by simp [hx])) (WideElems.Trod_stays Try.laidOut (by kernel_rfl) (by decide) h1 (fun x hx => hw.same (hlt x (by simp [hx]))) fun x hx => hs x (by simp [hx])))
    (fun _ _ => rfl) (by simp) hw (ok_one (by kernel_rfl) rfl (okWide_Bool true))⟩

theorem linearValues_holds : Rows.LinearValuesSaid :=
  OpenClaim.holds_of_wide 4 Try.f4 rfl rfl rfl rfl rfl rfl rfl ⟨rfl, rfl, rfl, rfl, rfl⟩ rfl rfl rfl rfl rfl (by kernel_rfl) Try.func4 (by kernel_rfl)
    (of_decide_eq_true (by kernel_rfl)) (by unfold Func.isWrapper; first | (rw [if_pos (by decide +kernel)]; kernel_rfl) | (rw [if_neg (by decide +kernel)]; exact ⟨rfl, rfl⟩))
    (fun os started H enc _ => linearValues_lifted os started H enc)
end Go.Proofs.Ytkghgdkkholieaa
