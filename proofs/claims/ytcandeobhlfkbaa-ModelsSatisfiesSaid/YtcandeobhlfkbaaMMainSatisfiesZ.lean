/-
  Proved: whatever it is given, the law ModelsSatisfies returns true, and its arguments read afterwards as they did before.
  Conditions: none beyond the row's own.
-/
import Derived.Test.YtcandeobhlfkbaaZM18
namespace Go.Proofs.Ytcandeobhlfkbaa
open Go Go.ChangeShapes Go.WideShapes Go.ChangeAt Go.RowKit

set_option maxRecDepth 100000 in
theorem modelsSatisfies_lifted (os : Os) (started : os.Started) (H : Type) (enc : TypeId × Value → H) :
    ReturnsInHanded {} Try.checked os 3 .any (Rows.modelsSatisfiesSpec.pre6 enc Try.prog Try.f3 Rows.modelsSatisfiesRow.domain false) (Rows.modelsSatisfiesSpec.post enc Try.prog Try.f3 false true false false) := by
  refine returnsInHanded_of_change (C := Try.checked) Try.own started (by kernel_rfl) Try.func3
    (ChangeSpec.witness6 (enc := enc) (C := Try.checked) false ⟨#[], #[.slice none 0 0, .slice none 0 0], []⟩ 8 (by kernel_rfl) (by kernel_rfl) (by kernel_rfl) (by kernel_rfl)) ?_
  intro W base args ds gs before hval0 hW hcnd _
  have hval : ∀ (j : Nat) t v, Try.f3.params[j]? = some t → args[j]? = some v → Value.okWide Try.prog W .any base t v := hval0
  have hW' := hW
  obtain ⟨p, q, hA0, hV, rfl, hfz, hnd⟩ := hW
  have hA : DataW.TrodAll enc Try.prog W 0 (fun _ => true) true Try.f3.params.toList args.toList ds p := hA0
  rw [Try.params3] at hA hval
  obtain ⟨v0, v1, d0, d1, p0, p1, rfl, rfl, rfl, h0, h1⟩ := trodAll_two hA
  obtain ⟨rfl, rfl⟩ := trodVars_none hV
  obtain ⟨l, q0, -, -⟩ := open_rows (hval 0 22 v0 rfl rfl) h0
  obtain ⟨p, q1, -⟩ := open_pointI (hval 1 24 v1 rfl rfl) h1
  clear hA0 hval0
  simp only [List.append_nil] at hW'
  refine (law_of (L15_ModelsSatisfies [] [] 0 l p) (vs := #[v0, v1]) (by simp only [VRs]; exact ⟨q0, q1, trivial⟩)).mono fun e W' ⟨he, hw⟩ => ?_
  subst he
  have hlt : ∀ x ∈ p0 ++ p1, x.block < W.heap.size := fun x hx => hW'.lt x hx
  have st : ∀ {sp : Nat → Bool} {t : TypeId} {v : Value} {d : DataW H} {p' : List MemPlace}, Try.prog.readableRec t = true → t < Try.prog.types.size → (∀ x ∈ p', x ∈ p0 ++ p1) → (∀ x ∈ p0 ++ p1, sp x.block = true) → DataW.Trod enc Try.prog W 0 (fun _ => true) true t v d p' → DataW.Trod enc Try.prog W' 0 sp true t v d p' := fun hr hl hp hs h =>
    WideElems.Trod_stays Try.laidOut hr hl h (fun x hx => hw.same (hlt x (hp x hx))) fun x hx => hs x (hp x hx)
  exact ⟨_, rfl, post_of_below (pa := p0 ++ p1) (pv := []) hW' (fun _ _ _ => trodAll_mk1 (shut_Bool true))
    (fun sp hs => trodAll_mk2 (st (by kernel_rfl) (by decide) (by simp +contextual) hs h0) (st (by kernel_rfl) (by decide) (by simp +contextual) hs h1))
    (fun _ _ => rfl) (by simp) hw (ok_one (by kernel_rfl) rfl (okWide_Bool true))⟩

theorem modelsSatisfies_holds : Rows.ModelsSatisfiesSaid :=
  OpenClaim.holds_of_wide 3 Try.f3 rfl rfl rfl rfl rfl rfl rfl ⟨rfl, rfl, rfl, rfl, rfl⟩ rfl rfl rfl rfl rfl (by kernel_rfl) Try.func3 (by kernel_rfl)
    (of_decide_eq_true (by kernel_rfl)) (by unfold Func.isWrapper; first | (rw [if_pos (by decide +kernel)]; kernel_rfl) | (rw [if_neg (by decide +kernel)]; exact ⟨rfl, rfl⟩))
    (fun os started H enc _ => modelsSatisfies_lifted os started H enc)
end Go.Proofs.Ytcandeobhlfkbaa
