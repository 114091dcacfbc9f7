/-
  Proved: whatever it is given, the law RatWhole returns true, and what it was given reads afterwards as it did before.
  Conditions: none beyond the row's own.
-/
import Derived.Test.YtgadegdhfjnoaaaDoorZR18
import Derived.Test.YtgadegdhfjnoaaaDoorZR21
namespace Go.Proofs.YtgadegdhfjnoaaaDoor
open Go Go.ChangeShapes Go.WideShapes Go.ChangeAt Go.RowKit Go.Deep

set_option maxRecDepth 100000 in
theorem ratWhole_lifted (os : Os) (started : os.Started) (H : Type) (enc : TypeId × Value → H) :
    ReturnsInHanded {} Tryd.checked os 9 .any (fun w args => (Rows.ratWholeSpec.pre enc Tryd.prog Tryd.f9 [] false w args ∧ laidMet Tryd.prog laid3 w) ∧ sizedMet enc Tryd.prog Tryd.f9 (OpenSpec.ofChange Rows.ratWholeSpec) false w args) (Rows.ratWholeSpec.post enc Tryd.prog Tryd.f9 false true false false) := by
  refine returnsInHanded_of_change_and (C := Tryd.checked) (X := fun w _ => laidMet Tryd.prog laid3 w) (fun _ _ _ hh h => h.of_heap hh) Try.own started (by kernel_rfl) Tryd.func9
    (ChangeSpec.witness_at (enc := enc) (C := Tryd.checked) (os := os) (X := fun w _ => laidMet Tryd.prog laid3 w) false (laidWorld os) #[.agg #[.bool false, .slice none 0 0, .bool false, .slice none 0 0]] 8 rfl (by kernel_rfl) (by kernel_rfl) (by kernel_rfl) (by kernel_rfl) (by kernel_rfl) (laid_met os _)) ?_
  intro W base args ds gs before hval0 hW hcnd hsz0 hL0 _
  have htab : Tab W := tab_of_laid hL0
  have hval : ∀ (j : Nat) t v, Tryd.f9.params[j]? = some t → args[j]? = some v → Value.okWide Tryd.prog W .any base t v := hval0
  have hW' := hW
  obtain ⟨p, q, hA0, hV, rfl, hfz, hnd⟩ := hW
  have hA : DataW.TrodAll enc Tryd.prog W 0 (fun _ => true) true Tryd.f9.params.toList args.toList ds p := hA0
  rw [Tryd.params9] at hA hval
  obtain ⟨v0, d0, rfl, rfl, h0⟩ := trodAll_one hA
  obtain ⟨rfl, rfl⟩ := trodVars_none hV
  obtain ⟨x, q0⟩ := open_rat htab (hval 0 28 v0 rfl rfl) h0
  clear hA0 hval0
  simp only [List.append_nil] at hW'
  refine (law_of htab (L03_RatWhole [] [] 0 x) (vs := #[v0]) (by simp only [VRs]; exact ⟨q0, trivial⟩)).mono fun e W' ⟨he, hw⟩ => ?_
  subst he
  have hlt : ∀ x ∈ p, x.block < W.heap.size := fun x hx => hW'.lt x hx
  have st : ∀ {sp : Nat → Bool} {t : TypeId} {v : Value} {d : DataW H} {p' : List MemPlace}, Tryd.prog.readableRec t = true → t < Tryd.prog.types.size → (∀ x ∈ p', x ∈ p) → (∀ x ∈ p, sp x.block = true) → DataW.Trod enc Tryd.prog W 0 (fun _ => true) true t v d p' → DataW.Trod enc Tryd.prog W' 0 sp true t v d p' := fun hr hl hp hs h =>
    WideElems.Trod_stays Try.laidOut hr hl h (fun x hx => hw.same (hlt x (hp x hx))) fun x hx => hs x (hp x hx)
  exact ⟨_, rfl, post_of_below (pa := p) (pv := []) hW' (fun _ _ _ => trodAll_mk1 (shut_Bool true))
    (fun sp hs => trodAll_mk1 (st (by kernel_rfl) (by decide) (by simp +contextual) hs h0))
    (fun _ _ => rfl) (by simp) hw (ok_one (by kernel_rfl) rfl (okWide_Bool true))⟩

theorem ratWhole_holds : Rows.RatWholeSaid :=
  OpenClaim.holds_of_wide 9 Tryd.f9 rfl rfl rfl rfl rfl rfl rfl ⟨rfl, rfl, rfl, rfl, rfl⟩ rfl rfl rfl rfl rfl (by kernel_rfl) Tryd.func9 (by kernel_rfl)
    (of_decide_eq_true (by kernel_rfl)) (by unfold Func.isWrapper; first | (rw [if_pos (by decide +kernel)]; kernel_rfl) | (rw [if_neg (by decide +kernel)]; exact ⟨rfl, rfl⟩))
    (fun os started H enc _ => ratWhole_lifted os started H enc)

theorem ratWhole_card : Rows.RatWholeCardSaid :=
  Claim7.holds_tied_plain_at .later [] [.data, .data, .data] true (true, "53339b8346d7f272879e781abac8b55ab417a0cebcc698cc9b91a95f4bd6c8c8") false
    ratWhole_holds (fun _ h => by cases h) (by kernel_rfl) (fun _ h => by cases h) ratWhole_row_tie rfl ⟨rfl, rfl⟩ (by kernel_rfl) rfl
    (fun f fn hf hfn => by
      obtain rfl : f = 9 := Option.some.inj ((show Tryd.prog.funcNamed "liquidcheck/liquidchecklaw03.RatWhole" = some 9 by kernel_rfl).symm.trans hf) |>.symm
      obtain rfl : fn = Tryd.f9 := (Option.some.inj (Tryd.func9.symm.trans hfn)).symm
      exact ⟨by kernel_rfl, fun j t ht => by
        rw [Tryd.params9] at ht
        have hm : t ∈ [28] := by simpa using Array.mem_of_getElem? ht
        have hall : ([28].all fun u => !Tryd.prog.wantsStandIn u) = true := by kernel_rfl
        exact (show Tryd.prog.wantsStandIn t = false by simpa using List.all_eq_true.1 hall t hm)⟩)
    (by kernel_rfl)
end Go.Proofs.YtgadegdhfjnoaaaDoor
