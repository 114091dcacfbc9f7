/-
  Proved: whatever forms and name it is given, the law LinearSubsts returns true, and its arguments read afterwards as they did before.
  Conditions: none beyond the row's own.
-/
import Derived.Test.YtkghgdkkholieaaZL15
namespace Go.Proofs.Ytkghgdkkholieaa
open Go Go.ChangeShapes Go.WideShapes Go.ChangeAt Go.RowKit

set_option maxRecDepth 100000 in
theorem linearSubsts_lifted (os : Os) (started : os.Started) (H : Type) (enc : TypeId × Value → H) :
    ReturnsInHanded {} Try.checked os 7 .any (Rows.linearSubstsSpec.pre6 enc Try.prog Try.f7 Rows.linearSubstsRow.domain false) (Rows.linearSubstsSpec.post enc Try.prog Try.f7 false true false false) := by
  refine returnsInHanded_of_change (C := Try.checked) Try.own started (by kernel_rfl) Try.func7
    (ChangeSpec.witness6 (enc := enc) (C := Try.checked) false ⟨#[], #[.agg #[.slice none 0 0, .int .i64 0], .agg #[.slice none 0 0, .int .i64 0], .string ⟨#[]⟩], []⟩ 8 (by kernel_rfl) (by kernel_rfl) (by kernel_rfl) (by kernel_rfl)) ?_
  intro W base args ds gs before hval0 hW hcnd _
  have hval : ∀ (j : Nat) t v, Try.f7.params[j]? = some t → args[j]? = some v → Value.okWide Try.prog W .any base t v := hval0
  have hW' := hW
  obtain ⟨p, q, hA0, hV, rfl, hfz, hnd⟩ := hW
  have hA : DataW.TrodAll enc Try.prog W 0 (fun _ => true) true Try.f7.params.toList args.toList ds p := hA0
  rw [Try.params7] at hA hval
  obtain ⟨v0, v1, v2, d0, d1, d2, p0, p1, p2, rfl, rfl, rfl, h0, h1, h2⟩ := trodAll_three hA
  obtain ⟨rfl, rfl⟩ := trodVars_none hV
  obtain ⟨cs, n, q0⟩ := open_lin (hval 0 24 v0 rfl rfl) h0
  obtain ⟨ds, m, q1⟩ := open_lin (hval 1 24 v1 rfl rfl) h1
  obtain ⟨s, q2⟩ := open_str (hval 2 9 v2 rfl rfl) h2
  clear hA0 hval0
  simp only [List.append_nil] at hW'
  refine (law_of (L11_LinearSubsts [] [] 0 cs n ds m s) (vs := #[v0, v1, v2]) (by simp only [VRs]; exact ⟨q0, q1, q2, trivial⟩)).mono fun e W' ⟨he, hw⟩ => ?_
  subst he
  have hlt : ∀ x ∈ p0 ++ p1 ++ p2, x.block < W.heap.size := fun x hx => hW'.lt x hx
  have st : ∀ {sp : Nat → Bool} {t : TypeId} {v : Value} {d : DataW H} {p' : List MemPlace}, Try.prog.readableRec t = true → t < Try.prog.types.size → (∀ x ∈ p', x ∈ p0 ++ p1 ++ p2) → (∀ x ∈ p0 ++ p1 ++ p2, sp x.block = true) → DataW.Trod enc Try.prog W 0 (fun _ => true) true t v d p' → DataW.Trod enc Try.prog W' 0 sp true t v d p' := fun hr hl hp hs h =>
    WideElems.Trod_stays Try.laidOut hr hl h (fun x hx => hw.same (hlt x (hp x hx))) fun x hx => hs x (hp x hx)
  exact ⟨_, rfl, post_of_below (pa := p0 ++ (p1 ++ p2)) (pv := []) hW' (fun _ _ _ => trodAll_mk1 (shut_Bool true))
    (fun sp hs => trodAll_mk3 (st (by kernel_rfl) (by decide) (by simp +contextual) hs h0) (st (by kernel_rfl) (by decide) (by simp +contextual) hs h1) (st (by kernel_rfl) (by decide) (by simp +contextual) hs h2))
    (fun _ _ => rfl) (by simp) hw (ok_one (by kernel_rfl) rfl (okWide_Bool true))⟩

theorem linearSubsts_holds : Rows.LinearSubstsSaid :=
  OpenClaim.holds_of_wide 7 Try.f7 rfl rfl rfl rfl rfl rfl rfl ⟨rfl, rfl, rfl, rfl, rfl⟩ rfl rfl rfl rfl rfl (by kernel_rfl) Try.func7 (by kernel_rfl)
    (of_decide_eq_true (by kernel_rfl)) (by unfold Func.isWrapper; first | (rw [if_pos (by decide +kernel)]; kernel_rfl) | (rw [if_neg (by decide +kernel)]; exact ⟨rfl, rfl⟩))
    (fun os started H enc _ => linearSubsts_lifted os started H enc)
end Go.Proofs.Ytkghgdkkholieaa
