/-
  Proved: whatever it is given, the law InterpolateBetween returns true, and its arguments read afterwards as they did before.
  Conditions: none beyond the row's own.
-/
import Derived.Test.YthelkgdmgihhiaaGreatZB28
open Go.DataW renaming Trod->iY
open Go.Value renaming okWide->iN
open List renaming append_nil->Fp
namespace Go.Proofs.YthelkgdmgihhiaaGreat
open Go Go.Proofs.Tryz Go.ChangeShapes Go.WideShapes Go.ChangeAt Go.RowKit
set_option maxRecDepth 100000
theorem interpolateBetween_lifted (os:Os) (started:os.Started) (H:Type) (enc:TypeId × Value->H) :
  ReturnsInHanded {} Tryz.checked os 3 .any (Rows.interpolateBetweenSpec.pre6 enc prog Tryz.f3 Rows.interpolateBetweenRow.domain false) (Rows.interpolateBetweenSpec.post enc prog Tryz.f3 false true false false):=by
 refine returnsInHanded_of_change (C:=Tryz.checked) Try.own started aJ func3
  (ChangeSpec.witness6 (enc:=enc) (C:=Tryz.checked) false ⟨#[],#[.slice none 0 0,.slice none 0 0,.slice none 0 0],[]⟩ 8 aJ aJ aJ aJ) ?_
 intro W base args ds gs before a0l hW hcnd _;have d7:∀ (j:Nat) t v,Tryz.f3.params[j]?=some t->args[j]?=some v->iN prog W .any base t v:=a0l;have hW':=hW;obtain ⟨p,q,hA0,hV,rfl,jd,we⟩:=hW;have hA:DataW.TrodAll enc prog W 0 (fun _=>true) true Tryz.f3.params.toList args.toList ds p:=hA0;rw [Tryz.params3] at hA d7;obtain ⟨v0,v1,v2,d0,d1,d2,p0,p1,p2,rfl,rfl,rfl,h0,h1,h2⟩:=trodAll_three hA;obtain ⟨rfl,rfl⟩:=trodVars_none hV;obtain ⟨a,q0,-,-⟩:=Ach (d7 0 22 v0 rfl rfl) h0;obtain ⟨b,q1,-,-⟩:=Ach (d7 1 22 v1 rfl rfl) h1;obtain ⟨p,q2,-⟩:=Aem (d7 2 24 v2 rfl rfl) h2;clear hA0 a0l;simp only [Fp] at hW';refine (Axg (K3 [] [] 0 a b p) (vs:=#[v0,v1,v2]) (by simp only [VRs]; exact ⟨q0,q1,q2,trivial⟩)).mono fun e W' ⟨he,hw⟩=>?_;subst he;have hlt:∀ x ∈ p0++p1++p2,x.block<W.heap.size:=fun x hx=>hW'.lt x hx;have st:∀ {sp:Nat->Bool} {t:TypeId} {v:Value} {d:DataW H} {p':List MemPlace},prog.readableRec t=true->t<prog.types.size->(∀ x ∈ p',x ∈ p0++p1++p2)->(∀ x ∈ p0++p1++p2,sp x.block=true)->iY enc prog W 0 (fun _=>true) true t v d p'->iY enc prog W' 0 sp true t v d p':=fun hr hl hp hs h =>
  WideElems.Trod_stays Try.laidOut hr hl h (fun x hx=>hw.same (hlt x (hp x hx))) fun x hx=>hs x (hp x hx)
 exact ⟨_,rfl,Zd (pa:=p0++(p1++p2)) (pv:=[]) hW' (fun _ _ _=>trodAll_mk1 (An8 true))
  (fun sp hs=>trodAll_mk3 (st aJ aK Za5c hs h0) (st aJ aK Za5c hs h1) (st aJ aK Za5c hs h2))
  (fun _ _=>rfl) (by simp) hw (ok_one aJ rfl (Ael true))⟩
theorem interpolateBetween_holds:Rows.InterpolateBetweenSaid :=
 OpenClaim.holds_of_wide 3 Tryz.f3 rfl rfl rfl rfl rfl rfl rfl ⟨rfl,rfl,rfl,rfl,rfl⟩ rfl rfl rfl rfl rfl aJ func3 aJ
  (of_decide_eq_true aJ) (by unfold Func.isWrapper; first|(rw [if_pos aR]; kernel_rfl)|(rw [if_neg aR]; exact ⟨rfl,rfl⟩))
  (fun os started H enc _=>interpolateBetween_lifted os started H enc)
end Go.Proofs.YthelkgdmgihhiaaGreat
