/-
  Proved: whatever it is given, the law InterpolateFollows returns true, and its arguments read afterwards as they did before.
  Conditions: none beyond the row's own.
-/
import Derived.Test.YthelkgdmgihhiaaGreatZF28
open Go.DataW renaming Trod->jX
open Go.Value renaming okWide->jK
open List renaming append_nil->Fo
namespace Go.Proofs.YthelkgdmgihhiaaGreat
open Go Go.Proofs.Tryz Go.ChangeShapes Go.WideShapes Go.ChangeAt Go.RowKit
set_option maxRecDepth 100000
theorem interpolateFollows_lifted (os:Os) (started:os.Started) (H:Type) (enc:TypeId × Value->H) :
  ReturnsInHanded {} Tryz.checked os 4 .any (Rows.interpolateFollowsSpec.pre6 enc prog Tryz.f4 Rows.interpolateFollowsRow.domain false) (Rows.interpolateFollowsSpec.post enc prog Tryz.f4 false true false false):=by
 refine returnsInHanded_of_change (C:=Tryz.checked) Try.own started aM func4
  (ChangeSpec.witness6 (enc:=enc) (C:=Tryz.checked) false ⟨#[],#[.slice none 0 0,.slice none 0 0,.agg #[.slice none 0 0,.int .i64 0,.bool false]],[]⟩ 8 aM aM aM aM) ?_
 intro W base args ds gs before a0t hW hcnd _;have j8:∀ (j:Nat) t v,Tryz.f4.params[j]?=some t->args[j]?=some v->jK prog W .any base t v:=a0t;have hW':=hW;obtain ⟨p,q,hA0,hV,rfl,wy,w7⟩:=hW;have hA:DataW.TrodAll enc prog W 0 (fun _=>true) true Tryz.f4.params.toList args.toList ds p:=hA0;rw [Tryz.params4] at hA j8;obtain ⟨v0,v1,v2,d0,d1,d2,p0,p1,p2,rfl,rfl,rfl,h0,h1,h2⟩:=trodAll_three hA;obtain ⟨rfl,rfl⟩:=trodVars_none hV;obtain ⟨l,q0,-,-⟩:=Abo (j8 0 22 v0 rfl rfl) h0;obtain ⟨m,q1,-,-⟩:=Abo (j8 1 22 v1 rfl rfl) h1;obtain ⟨r,q2⟩:=Apq (j8 2 30 v2 rfl rfl) h2;clear hA0 a0t;simp only [Fo] at hW';refine (Au1 (K9 [] [] 0 l m r) (vs:=#[v0,v1,v2]) (by simp only [VRs]; exact ⟨q0,q1,q2,trivial⟩)).mono fun e W' ⟨he,hw⟩=>?_;subst he;have hlt:∀ x ∈ p0++p1++p2,x.block<W.heap.size:=fun x hx=>hW'.lt x hx;have st:∀ {sp:Nat->Bool} {t:TypeId} {v:Value} {d:DataW H} {p':List MemPlace},prog.readableRec t=true->t<prog.types.size->(∀ x ∈ p',x ∈ p0++p1++p2)->(∀ x ∈ p0++p1++p2,sp x.block=true)->jX enc prog W 0 (fun _=>true) true t v d p'->jX enc prog W' 0 sp true t v d p':=fun hr hl hp hs h =>
  WideElems.Trod_stays Try.laidOut hr hl h (fun x hx=>hw.same (hlt x (hp x hx))) fun x hx=>hs x (hp x hx)
 exact ⟨_,rfl,Yq (pa:=p0++(p1++p2)) (pv:=[]) hW' (fun _ _ _=>trodAll_mk1 (Amz true))
  (fun sp hs=>trodAll_mk3 (st aM aP Za6g hs h0) (st aM aP Za6g hs h1) (st aM aP Za6g hs h2))
  (fun _ _=>rfl) (by simp) hw (ok_one aM rfl (Adn true))⟩
theorem interpolateFollows_holds:Rows.InterpolateFollowsSaid :=
 OpenClaim.holds_of_wide 4 Tryz.f4 rfl rfl rfl rfl rfl rfl rfl ⟨rfl,rfl,rfl,rfl,rfl⟩ rfl rfl rfl rfl rfl aM func4 aM
  (of_decide_eq_true aM) (by unfold Func.isWrapper; first|(rw [if_pos aX]; kernel_rfl)|(rw [if_neg aX]; exact ⟨rfl,rfl⟩))
  (fun os started H enc _=>interpolateFollows_lifted os started H enc)
end Go.Proofs.YthelkgdmgihhiaaGreat
