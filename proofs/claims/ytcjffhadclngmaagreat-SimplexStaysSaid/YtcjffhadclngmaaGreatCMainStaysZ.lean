/-
  Proved: whatever rows and factor it is given, the law SimplexStays returns true, and the arguments read afterwards as they did before.
  Conditions: none beyond the row's own.
-/
import Derived.Test.YtcjffhadclngmaaGreatZC23
import Derived.Test.YtcjffhadclngmaaGreatZC24
namespace Go.Proofs.YtcjffhadclngmaaGreat
open Go Go.Proofs.Tryz Go.ChangeShapes Go.WideShapes Go.ChangeAt Go.RowKit
set_option maxRecDepth 100000 in
theorem simplexStays_lifted (os:Os) (started:os.Started) (H:Type) (enc:TypeId × Value->H) :
  ReturnsInHanded {} Tryz.checked os 5 .any (Rows.simplexStaysSpec.pre6 enc prog Tryz.f5 Rows.simplexStaysRow.domain false) (Rows.simplexStaysSpec.post enc prog Tryz.f5 false true false false):=by
 refine returnsInHanded_of_change_sized (C:=Tryz.checked) Try.own started (by kernel_rfl) func5
  (ChangeSpec.witness6 (enc:=enc) (C:=Tryz.checked) false ⟨#[],#[.slice none 0 0,.agg #[.slice none 0 0,.int .i64 0,.bool false],.int .u8 0],[]⟩ 8 (by kernel_rfl) (by kernel_rfl) (by kernel_rfl) (by kernel_rfl)) ?_
 intro W base args ds gs before a0h hW hcnd a12 _
 have kx:∀ (j:Nat) t v,Tryz.f5.params[j]?=some t->args[j]?=some v->Value.okWide prog W .any base t v:=a0h
 have hW':=hW
 obtain ⟨p,q,hA0,hV,rfl,hfz,sm⟩:=hW
 have hA:DataW.TrodAll enc prog W 0 (fun _=>true) true Tryz.f5.params.toList args.toList ds p:=hA0
 have hsz:(DataW.weightsEach prog (Tryz.f5.params.toList++Rows.simplexStaysSpec.plain.varTypes prog) (ds++gs)).all (·<=reachBytes)=true:=a12
 rw [Tryz.params5] at hA kx hsz
 obtain ⟨v0,v1,v2,d0,d1,d2,p0,p1,p2,rfl,rfl,rfl,h0,h1,h2⟩:=trodAll_three hA
 obtain ⟨rfl,rfl⟩:=trodVars_none hV
 obtain ⟨l,q0,-,-⟩:=Ahz (kx 0 22 v0 rfl rfl) h0
 have hl:=Ajn q0 h0 hsz rfl rfl
 obtain ⟨r,q1⟩:=Aj4 (kx 1 27 v1 rfl rfl) h1
 obtain ⟨n,q2,hn⟩:=Am0 (kx 2 5 v2 rfl rfl) h2
 clear hA0 a0h a12 hsz
 simp only [List.append_nil] at hW'
 refine (Apd (Pi [] [] 0 l hl r n hn) (vs:=#[v0,v1,v2]) (by simp only [VRs]; exact ⟨q0,q1,q2,trivial⟩)).mono fun e W' ⟨he,hw⟩=>?_
 subst he
 have hlt:∀ x ∈ p0++p1++p2,x.block<W.heap.size:=fun x hx=>hW'.lt x hx
 have st:∀ {sp:Nat->Bool} {t:TypeId} {v:Value} {d:DataW H} {p':List MemPlace},prog.readableRec t=true->t<prog.types.size->(∀ x ∈ p',x ∈ p0++p1++p2)->(∀ x ∈ p0++p1++p2,sp x.block=true)->DataW.Trod enc prog W 0 (fun _=>true) true t v d p'->DataW.Trod enc prog W' 0 sp true t v d p':=fun hr hl hp hs h =>
  WideElems.Trod_stays Try.laidOut hr hl h (fun x hx=>hw.same (hlt x (hp x hx))) fun x hx=>hs x (hp x hx)
 exact ⟨_,rfl,Uo (pa:=p0++(p1++p2)) (pv:=[]) hW' (fun _ _ _=>trodAll_mk1 (Ags true))
  (fun sp hs=>trodAll_mk3 (st (by kernel_rfl) (by decide) (by simp +contextual) hs h0) (st (by kernel_rfl) (by decide) (by simp +contextual) hs h1) (st (by kernel_rfl) (by decide) (by simp +contextual) hs h2))
  (fun _ _=>rfl) (by simp) hw (ok_one (by kernel_rfl) rfl (Z2 true))⟩
theorem simplexStays_holds:Rows.SimplexStaysSaid :=
 OpenClaim.holds_of_wide 5 Tryz.f5 rfl rfl rfl rfl rfl rfl rfl ⟨rfl,rfl,rfl,rfl,rfl⟩ rfl rfl rfl rfl rfl (by kernel_rfl) func5 (by kernel_rfl)
  (of_decide_eq_true (by kernel_rfl)) (by unfold Func.isWrapper; first|(rw [if_pos (by decide +kernel)]; kernel_rfl)|(rw [if_neg (by decide +kernel)]; exact ⟨rfl,rfl⟩))
  (fun os started H enc _=>simplexStays_lifted os started H enc)
end Go.Proofs.YtcjffhadclngmaaGreat
