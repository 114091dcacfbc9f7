/-
  Proved: whatever it is given, the law ModelsFirst returns true, and its arguments read afterwards as they did before.
  Conditions: none beyond the row's own.
-/
import Derived.Test.YtcandeobhlfkbaaZF17
import Derived.Test.YtcandeobhlfkbaaZF19
namespace Go.Proofs.Ytcandeobhlfkbaa
open Go Go.ChangeShapes Go.WideShapes Go.ChangeAt Go.RowKit

set_option maxRecDepth 100000 in
theorem modelsFirst_lifted (os : Os) (started : os.Started) (H : Type) (enc : TypeId × Value → H) :
    ReturnsInHanded {} Try.checked os 5 .any (Rows.modelsFirstSpec.pre6 enc Try.prog Try.f5 Rows.modelsFirstRow.domain false) (Rows.modelsFirstSpec.post enc Try.prog Try.f5 false true false false) := by
  refine returnsInHanded_of_change (C := Try.checked) Try.own started (by kernel_rfl) Try.func5
    (ChangeSpec.witness6 (enc := enc) (C := Try.checked) false ⟨#[], #[.slice none 0 0, .int .i64 0, .slice none 0 0], []⟩ 8 (by kernel_rfl) (by kernel_rfl) (by kernel_rfl) (by kernel_rfl)) ?_
  intro W base args ds gs before hval0 hW hcnd _
  have hval : ∀ (j : Nat) t v, Try.f5.params[j]? = some t → args[j]? = some v → Value.okWide Try.prog W .any base t v := hval0
  have hW' := hW
  obtain ⟨p, q, hA0, hV, rfl, hfz, hnd⟩ := hW
  have hA : DataW.TrodAll enc Try.prog W 0 (fun _ => true) true Try.f5.params.toList args.toList ds p := hA0
  rw [Try.params5] at hA hval
  obtain ⟨v0, v1, v2, d0, d1, d2, p0, p1, p2, rfl, rfl, rfl, h0, h1, h2⟩ := trodAll_three hA
  obtain ⟨rfl, rfl⟩ := trodVars_none hV
  obtain ⟨l, q0, -, -⟩ := open_rows (hval 0 22 v0 rfl rfl) h0
  obtain ⟨most, q1, -⟩ := open_i64 (hval 1 3 v1 rfl rfl) h1
  obtain ⟨p, q2, ip⟩ := open_pointI (hval 2 24 v2 rfl rfl) h2
  clear hA0 hval0
  simp only [List.append_nil] at hW'
  refine (law_of (L15_ModelsFirst [] [] 0 l most p ip) (vs := #[v0, v1, v2]) (by simp only [VRs]; exact ⟨q0, q1, q2, trivial⟩)).mono fun e W' ⟨he, hw⟩ => ?_
  subst he
  have hlt : ∀ x ∈ p0 ++ p1 ++ p2, x.block < W.heap.size := fun x hx => hW'.lt x hx
  have st : ∀ {sp : Nat → Bool} {t : TypeId} {v : Value} {d : DataW H} {p' : List MemPlace}, Try.prog.readableRec t = true → t < Try.prog.types.size → (∀ x ∈ p', x ∈ p0 ++ p1 ++ p2) → (∀ x ∈ p0 ++ p1 ++ p2, sp x.block = true) → DataW.Trod enc Try.prog W 0 (fun _ => true) true t v d p' → DataW.Trod enc Try.prog W' 0 sp true t v d p' := fun hr hl hp hs h =>
    WideElems.Trod_stays Try.laidOut hr hl h (fun x hx => hw.same (hlt x (hp x hx))) fun x hx => hs x (hp x hx)
  exact ⟨_, rfl, post_of_below (pa := p0 ++ (p1 ++ p2)) (pv := []) hW' (fun _ _ _ => trodAll_mk1 (shut_Bool true))
    (fun sp hs => trodAll_mk3 (st (by kernel_rfl) (by decide) (by simp +contextual) hs h0) (st (by kernel_rfl) (by decide) (by simp +contextual) hs h1) (st (by kernel_rfl) (by decide) (by simp +contextual) hs h2))
    (fun _ _ => rfl) (by simp) hw (ok_one (by kernel_rfl) rfl (okWide_Bool true))⟩

theorem modelsFirst_holds : Rows.ModelsFirstSaid :=
  OpenClaim.holds_of_wide 5 Try.f5 rfl rfl rfl rfl rfl rfl rfl ⟨rfl, rfl, rfl, rfl, rfl⟩ rfl rfl rfl rfl rfl (by kernel_rfl) Try.func5 (by kernel_rfl)
    (of_decide_eq_true (by kernel_rfl)) (by unfold Func.isWrapper; first | (rw [if_pos (by decide +kernel)]; kernel_rfl) | (rw [if_neg (by decide +kernel)]; exact ⟨rfl, rfl⟩))
    (fun os started H enc _ => modelsFirst_lifted os started H enc)
end Go.Proofs.Ytcandeobhlfkbaa
