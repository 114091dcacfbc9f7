/-
  Proved: whatever rows and bound it is given, the law ModelsFinds returns true, and its arguments read afterwards as they did before.
  Conditions: none beyond the row's own.
-/
import Derived.Test.YtcandeobhlfkbaaGreatZM22
namespace Go.Proofs.YtcandeobhlfkbaaGreat
open Go Go.Proofs.Tryz Go.ChangeShapes Go.WideShapes Go.ChangeAt Go.RowKit
set_option maxRecDepth 100000 in
theorem modelsFinds_lifted (os:Os) (started:os.Started) (H:Type) (enc:TypeId × Value->H) :
  ReturnsInHanded {} Tryz.checked os 3 .any (Rows.modelsFindsSpec.pre6 enc prog Tryz.f3 Rows.modelsFindsRow.domain false) (Rows.modelsFindsSpec.post enc prog Tryz.f3 false true false false):=by
 refine returnsInHanded_of_change (C:=Tryz.checked) Try.own started (by kernel_rfl) func3
  (ChangeSpec.witness6 (enc:=enc) (C:=Tryz.checked) false ⟨#[],#[.slice none 0 0,.int .i64 0],[]⟩ 8 (by kernel_rfl) (by kernel_rfl) (by kernel_rfl) (by kernel_rfl)) ?_
 intro W base args ds gs before p8 hW hcnd _
 have fe:∀ (j:Nat) t v,Tryz.f3.params[j]?=some t->args[j]?=some v->Value.okWide prog W .any base t v:=p8
 have hW':=hW
 obtain ⟨p,q,hA0,hV,rfl,pp,hnd⟩:=hW
 have hA:DataW.TrodAll enc prog W 0 (fun _=>true) true Tryz.f3.params.toList args.toList ds p:=hA0
 rw [Tryz.params3] at hA fe
 obtain ⟨v0,v1,d0,d1,p0,p1,rfl,rfl,rfl,h0,h1⟩:=trodAll_two hA
 obtain ⟨rfl,rfl⟩:=trodVars_none hV
 obtain ⟨l,q0,-,-⟩:=Ah0 (fe 0 22 v0 rfl rfl) h0
 obtain ⟨most,q1,-⟩:=Ak5 (fe 1 3 v1 rfl rfl) h1
 clear hA0 p8
 simp only [List.append_nil] at hW'
 refine (Ap0 (Pr [] [] 0 l most) (vs:=#[v0,v1]) (by simp only [VRs]; exact ⟨q0,q1,trivial⟩)).mono fun e W' ⟨he,hw⟩=>?_
 subst he
 have hlt:∀ x ∈ p0++p1,x.block<W.heap.size:=fun x hx=>hW'.lt x hx
 have st:∀ {sp:Nat->Bool} {t:TypeId} {v:Value} {d:DataW H} {p':List MemPlace},prog.readableRec t=true->t<prog.types.size->(∀ x ∈ p',x ∈ p0++p1)->(∀ x ∈ p0++p1,sp x.block=true)->DataW.Trod enc prog W 0 (fun _=>true) true t v d p'->DataW.Trod enc prog W' 0 sp true t v d p':=fun hr hl hp hs h =>
  WideElems.Trod_stays Try.laidOut hr hl h (fun x hx=>hw.same (hlt x (hp x hx))) fun x hx=>hs x (hp x hx)
 exact ⟨_,rfl,Vt (pa:=p0++p1) (pv:=[]) hW' (fun _ _ _=>trodAll_mk1 (Aip true))
  (fun sp hs=>trodAll_mk2 (st (by kernel_rfl) (by decide) (by simp +contextual) hs h0) (st (by kernel_rfl) (by decide) (by simp +contextual) hs h1))
  (fun _ _=>rfl) (by simp) hw (ok_one (by kernel_rfl) rfl (Z4 true))⟩
theorem modelsFinds_holds:Rows.ModelsFindsSaid :=
 OpenClaim.holds_of_wide 3 Tryz.f3 rfl rfl rfl rfl rfl rfl rfl ⟨rfl,rfl,rfl,rfl,rfl⟩ rfl rfl rfl rfl rfl (by kernel_rfl) func3 (by kernel_rfl)
  (of_decide_eq_true (by kernel_rfl)) (by unfold Func.isWrapper; first|(rw [if_pos (by decide +kernel)]; kernel_rfl)|(rw [if_neg (by decide +kernel)]; exact ⟨rfl,rfl⟩))
  (fun os started H enc _=>modelsFinds_lifted os started H enc)
end Go.Proofs.YtcandeobhlfkbaaGreat
