/-
  Proved: whatever it is given, the law InterpolateMore returns true, and its arguments read afterwards as they did before.
  Conditions: none beyond the row's own.
-/
import Derived.Test.YthelkgdmgihhiaaGreatZM28
open Go.DataW renaming Trod->gJ
open Go.Value renaming okWide->fW
open List renaming append_nil->Fu
namespace Go.Proofs.YthelkgdmgihhiaaGreat
open Go Go.Proofs.Tryz Go.ChangeShapes Go.WideShapes Go.ChangeAt Go.RowKit
set_option maxRecDepth 100000
theorem interpolateMore_lifted (os:Os) (started:os.Started) (H:Type) (enc:TypeId × Value->H) :
  ReturnsInHanded {} Tryz.checked os 6 .any (Rows.interpolateMoreSpec.pre6 enc prog Tryz.f6 Rows.interpolateMoreRow.domain false) (Rows.interpolateMoreSpec.post enc prog Tryz.f6 false true false false):=by
 refine returnsInHanded_of_change (C:=Tryz.checked) Try.own started aK func6
  (ChangeSpec.witness6 (enc:=enc) (C:=Tryz.checked) false ⟨#[],#[.slice none 0 0,.slice none 0 0,.agg #[.slice none 0 0,.int .i64 0,.bool false]],[]⟩ 8 aK aK aK aK) ?_
 intro W base args ds gs before ze hW hcnd _;have iw:∀ (j:Nat) t v,Tryz.f6.params[j]?=some t->args[j]?=some v->fW prog W .any base t v:=ze;have hW':=hW;obtain ⟨p,q,hA0,hV,rfl,z8,t8⟩:=hW;have hA:DataW.TrodAll enc prog W 0 (fun _=>true) true Tryz.f6.params.toList args.toList ds p:=hA0;rw [Tryz.params6] at hA iw;obtain ⟨v0,v1,v2,d0,d1,d2,p0,p1,p2,rfl,rfl,rfl,h0,h1,h2⟩:=trodAll_three hA;obtain ⟨rfl,rfl⟩:=trodVars_none hV;obtain ⟨l,q0,-,-⟩:=Yj (iw 0 22 v0 rfl rfl) h0;obtain ⟨m,q1,-,-⟩:=Yj (iw 1 22 v1 rfl rfl) h1;obtain ⟨r,q2⟩:=Ak1 (iw 2 30 v2 rfl rfl) h2;clear hA0 ze;simp only [Fu] at hW';refine (Ap2 (Lx [] [] 0 l m r) (vs:=#[v0,v1,v2]) (by simp only [VRs]; exact ⟨q0,q1,q2,trivial⟩)).mono fun e W' ⟨he,hw⟩=>?_;subst he;have hlt:∀ x ∈ p0++p1++p2,x.block<W.heap.size:=fun x hx=>hW'.lt x hx;have st:∀ {sp:Nat->Bool} {t:TypeId} {v:Value} {d:DataW H} {p':List MemPlace},prog.readableRec t=true->t<prog.types.size->(∀ x ∈ p',x ∈ p0++p1++p2)->(∀ x ∈ p0++p1++p2,sp x.block=true)->gJ enc prog W 0 (fun _=>true) true t v d p'->gJ enc prog W' 0 sp true t v d p':=fun hr hl hp hs h =>
  WideElems.Trod_stays Try.laidOut hr hl h (fun x hx=>hw.same (hlt x (hp x hx))) fun x hx=>hs x (hp x hx)
 exact ⟨_,rfl,Vx (pa:=p0++(p1++p2)) (pv:=[]) hW' (fun _ _ _=>trodAll_mk1 (Aik true))
  (fun sp hs=>trodAll_mk3 (st aK aL Za4s hs h0) (st aK aL Za4s hs h1) (st aK aL Za4s hs h2))
  (fun _ _=>rfl) (by simp) hw (ok_one aK rfl (Z7 true))⟩
theorem interpolateMore_holds:Rows.InterpolateMoreSaid :=
 OpenClaim.holds_of_wide 6 Tryz.f6 rfl rfl rfl rfl rfl rfl rfl ⟨rfl,rfl,rfl,rfl,rfl⟩ rfl rfl rfl rfl rfl aK func6 aK
  (of_decide_eq_true aK) (by unfold Func.isWrapper; first|(rw [if_pos aO]; kernel_rfl)|(rw [if_neg aO]; exact ⟨rfl,rfl⟩))
  (fun os started H enc _=>interpolateMore_lifted os started H enc)
end Go.Proofs.YthelkgdmgihhiaaGreat
