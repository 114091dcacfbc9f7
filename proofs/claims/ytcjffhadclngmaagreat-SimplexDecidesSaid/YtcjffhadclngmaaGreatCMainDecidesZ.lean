/-
  Proved: whatever rows and form it is given, the law SimplexDecides returns true, and the arguments read afterwards as they did before.
  Conditions: none beyond the row's own.
-/
import Derived.Test.YtcjffhadclngmaaGreatZC26
open Go.DataW renaming Trod->jY
open Go.Value renaming okWide->jL
open List renaming append_nil->Fy
namespace Go.Proofs.YtcjffhadclngmaaGreat
open Go Go.Proofs.Tryz Go.ChangeShapes Go.WideShapes Go.ChangeAt Go.RowKit
set_option maxRecDepth 100000
theorem simplexDecides_lifted (os:Os) (started:os.Started) (H:Type) (enc:TypeId × Value->H) :
  ReturnsInHanded {} Tryz.checked os 4 .any (Rows.simplexDecidesSpec.pre6 enc prog Tryz.f4 Rows.simplexDecidesRow.domain false) (Rows.simplexDecidesSpec.post enc prog Tryz.f4 false true false false):=by
 refine returnsInHanded_of_change_sized (C:=Tryz.checked) Try.own started aI func4
  (ChangeSpec.witness6 (enc:=enc) (C:=Tryz.checked) false ⟨#[],#[.slice none 0 0,.agg #[.slice none 0 0,.int .i64 0]],[]⟩ 8 aI aI aI aI) ?_
 intro W base args ds gs before a2g hW hcnd a45 _;have q8:∀ (j:Nat) t v,Tryz.f4.params[j]?=some t->args[j]?=some v->jL prog W .any base t v:=a2g;have hW':=hW;obtain ⟨p,q,hA0,hV,rfl,hfz,ua⟩:=hW;have hA:DataW.TrodAll enc prog W 0 (fun _=>true) true Tryz.f4.params.toList args.toList ds p:=hA0;have hsz:(DataW.weightsEach prog (Tryz.f4.params.toList++Rows.simplexDecidesSpec.plain.varTypes prog) (ds++gs)).all (·<=reachBytes)=true:=a45;rw [Tryz.params4] at hA q8 hsz;obtain ⟨v0,v1,d0,d1,p0,p1,rfl,rfl,rfl,h0,h1⟩:=trodAll_two hA;obtain ⟨rfl,rfl⟩:=trodVars_none hV;obtain ⟨l,q0,-,hl⟩:=Am4 (q8 0 22 v0 rfl rfl) h0;obtain ⟨cs,nn,q1,j1⟩:=Aqk (q8 1 25 v1 rfl rfl) h1;clear hA0 a2g a45 hsz;simp only [Fy] at hW';refine (Avo (Pp [] [] 0 l hl cs nn j1) (vs:=#[v0,v1]) (by simp only [VRs]; exact ⟨q0,q1,trivial⟩)).mono fun e W' ⟨he,hw⟩=>?_;subst he;have hlt:∀ x ∈ p0++p1,x.block<W.heap.size:=fun x hx=>hW'.lt x hx;have st:∀ {sp:Nat->Bool} {t:TypeId} {v:Value} {d:DataW H} {p':List MemPlace},prog.readableRec t=true->t<prog.types.size->(∀ x ∈ p',x ∈ p0++p1)->(∀ x ∈ p0++p1,sp x.block=true)->jY enc prog W 0 (fun _=>true) true t v d p'->jY enc prog W' 0 sp true t v d p':=fun hr hl hp hs h =>
  WideElems.Trod_stays Try.laidOut hr hl h (fun x hx=>hw.same (hlt x (hp x hx))) fun x hx=>hs x (hp x hx)
 exact ⟨_,rfl,Z1 (pa:=p0++p1) (pv:=[]) hW' (fun _ _ _=>trodAll_mk1 (Anz true))
  (fun sp hs=>trodAll_mk2 (st aI aO (by simp +contextual) hs h0) (st aI aO (by simp +contextual) hs h1))
  (fun _ _=>rfl) (by simp) hw (ok_one aI rfl (Ae9 true))⟩
theorem simplexDecides_holds:Rows.SimplexDecidesSaid :=
 OpenClaim.holds_of_wide 4 Tryz.f4 rfl rfl rfl rfl rfl rfl rfl ⟨rfl,rfl,rfl,rfl,rfl⟩ rfl rfl rfl rfl rfl aI func4 aI
  (of_decide_eq_true aI) (by unfold Func.isWrapper; first|(rw [if_pos aV]; kernel_rfl)|(rw [if_neg aV]; exact ⟨rfl,rfl⟩))
  (fun os started H enc _=>simplexDecides_lifted os started H enc)
end Go.Proofs.YtcjffhadclngmaaGreat
