/-
  Proved: whatever it is given, the law InterpolateWrites returns true, and its arguments read afterwards as they did before.
  Conditions: none beyond the row's own.
-/
import Derived.Test.YthelkgdmgihhiaaGreatZW23
namespace Go.Proofs.YthelkgdmgihhiaaGreat
open Go Go.Proofs.Tryz Go.ChangeShapes Go.WideShapes Go.ChangeAt Go.RowKit
set_option maxRecDepth 100000 in
theorem interpolateWrites_lifted (os:Os) (started:os.Started) (H:Type) (enc:TypeId × Value->H) :
  ReturnsInHanded {} Tryz.checked os 5 .any (Rows.interpolateWritesSpec.pre6 enc prog Tryz.f5 Rows.interpolateWritesRow.domain false) (Rows.interpolateWritesSpec.post enc prog Tryz.f5 false true false false):=by
 refine returnsInHanded_of_change (C:=Tryz.checked) Try.own started (by kernel_rfl) func5
  (ChangeSpec.witness6 (enc:=enc) (C:=Tryz.checked) false ⟨#[],#[.agg #[.slice none 0 0,.int .i64 0,.bool false]],[]⟩ 8 (by kernel_rfl) (by kernel_rfl) (by kernel_rfl) (by kernel_rfl)) ?_
 intro W base args ds gs before iz hW ru _
 have dh:∀ (j:Nat) t v,Tryz.f5.params[j]?=some t->args[j]?=some v->Value.okWide prog W .any base t v:=iz
 have ob:=hW
 obtain ⟨p,q,ph,hV,rfl,n6,hnd⟩:=hW
 have hA:DataW.TrodAll enc prog W 0 (fun _=>true) true Tryz.f5.params.toList args.toList ds p:=ph
 rw [Tryz.params5] at hA dh
 obtain ⟨v0,d0,rfl,rfl,h0⟩:=trodAll_one hA
 obtain ⟨rfl,rfl⟩:=trodVars_none hV
 obtain ⟨r,q0⟩:=Ws (dh 0 30 v0 rfl rfl) h0
 clear ph iz
 simp only [List.append_nil] at ob
 refine (Zr (Es [] [] 0 r) (vs:=#[v0]) (by simp only [VRs]; exact ⟨q0,trivial⟩)).mono fun e W' ⟨he,hw⟩=>?_
 subst he
 have hlt:∀ x ∈ p,x.block<W.heap.size:=fun x hx=>ob.lt x hx
 have st:∀ {sp:Nat->Bool} {t:TypeId} {v:Value} {d:DataW H} {p':List MemPlace},prog.readableRec t=true->t<prog.types.size->(∀ x ∈ p',x ∈ p)->(∀ x ∈ p,sp x.block=true)->DataW.Trod enc prog W 0 (fun _=>true) true t v d p'->DataW.Trod enc prog W' 0 sp true t v d p':=fun hr hl hp hs h =>
  WideElems.Trod_stays Try.laidOut hr hl h (fun x hx=>hw.same (hlt x (hp x hx))) fun x hx=>hs x (hp x hx)
 exact ⟨_,rfl,L3 (pa:=p) (pv:=[]) ob (fun _ _ _=>trodAll_mk1 (U5 true))
  (fun sp hs=>trodAll_mk1 (st (by kernel_rfl) (by decide) (by simp +contextual) hs h0))
  (fun _ _=>rfl) (by simp) hw (ok_one (by kernel_rfl) rfl (Pd true))⟩
theorem interpolateWrites_holds:Rows.InterpolateWritesSaid :=
 OpenClaim.holds_of_wide 5 Tryz.f5 rfl rfl rfl rfl rfl rfl rfl ⟨rfl,rfl,rfl,rfl,rfl⟩ rfl rfl rfl rfl rfl (by kernel_rfl) func5 (by kernel_rfl)
  (of_decide_eq_true (by kernel_rfl)) (by unfold Func.isWrapper; first|(rw [if_pos (by decide +kernel)]; kernel_rfl)|(rw [if_neg (by decide +kernel)]; exact ⟨rfl,rfl⟩))
  (fun os started H enc _=>interpolateWrites_lifted os started H enc)
end Go.Proofs.YthelkgdmgihhiaaGreat
