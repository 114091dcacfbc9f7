/-
  Proved: whatever row and point it is given, the law InterpolateMeans returns true, and both read afterwards as they did before.
  Conditions: none beyond the row's own.
-/
import Derived.Test.YthelkgdmgihhiaaGreatDoorZK29
namespace Go.Proofs.YthelkgdmgihhiaaGreatDoor
open Go Go.Proofs.Tryz Go.ChangeShapes Go.WideShapes Go.ChangeAt Go.RowKit Go.Deep
set_option maxRecDepth 100000 in
theorem interpolateMeans_lifted (os:Os) (started:os.Started) (H:Type) (enc:TypeId × Value->H) :
  ReturnsInHanded {} Tryz.checked os 3 .any (fun w args=>(Rows.interpolateMeansSpec.pre enc prog Tryz.f3 [] false w args/\laidMet prog laid3 w)/\sizedMet enc prog Tryz.f3 (OpenSpec.ofChange Rows.interpolateMeansSpec) false w args) (Rows.interpolateMeansSpec.post enc prog Tryz.f3 false true false false):=by
 refine returnsInHanded_of_change_and (C:=Tryz.checked) (X:=fun w _=>laidMet prog laid3 w) (fun _ _ _ hh h=>h.of_heap hh) Try.own started (by kernel_rfl) func3
  (ChangeSpec.witness_at (enc:=enc) (C:=Tryz.checked) (os:=os) (X:=fun w _=>laidMet prog laid3 w) false (Rw os) #[.agg #[.slice none 0 0,.int .i64 0,.bool false],.slice none 0 0] 8 rfl (by kernel_rfl) (by kernel_rfl) (by kernel_rfl) (by kernel_rfl) (by kernel_rfl) (Ack os _)) ?_
 intro W base args ds gs before iy hW ro rp kz _
 have di:=Us kz
 have b9:∀ (j:Nat) t v,Tryz.f3.params[j]?=some t->args[j]?=some v->Value.okWide prog W .any base t v:=iy
 have oe:=hW
 obtain ⟨p,q,pi,hV,rfl,oa,hnd⟩:=hW
 have hA:DataW.TrodAll enc prog W 0 (fun _=>true) true Tryz.f3.params.toList args.toList ds p:=pi
 rw [Tryz.params3] at hA b9
 obtain ⟨v0,v1,d0,d1,p0,p1,rfl,rfl,rfl,h0,h1⟩:=trodAll_two hA
 obtain ⟨rfl,rfl⟩:=trodVars_none hV
 obtain ⟨r,q0⟩:=Z5 di (b9 0 26 v0 rfl rfl) h0
 obtain ⟨pt,q1⟩:=Uj di (b9 1 27 v1 rfl rfl) h1
 clear pi iy
 simp only [List.append_nil] at oe
 refine (Agh di (Hz [] [] 0 r pt) (vs:=#[v0,v1]) (by simp only [VRs]; exact ⟨q0,q1,trivial⟩)).mono fun e W' ⟨he,hw⟩=>?_
 subst he
 have hlt:∀ x ∈ p0++p1,x.block<W.heap.size:=fun x hx=>oe.lt x hx
 have st:∀ {sp:Nat->Bool} {t:TypeId} {v:Value} {d:DataW H} {p':List MemPlace},prog.readableRec t=true->t<prog.types.size->(∀ x ∈ p',x ∈ p0++p1)->(∀ x ∈ p0++p1,sp x.block=true)->DataW.Trod enc prog W 0 (fun _=>true) true t v d p'->DataW.Trod enc prog W' 0 sp true t v d p':=fun hr hl hp hs h =>
  WideElems.Trod_stays Try.laidOut hr hl h (fun x hx=>hw.same (hlt x (hp x hx))) fun x hx=>hs x (hp x hx)
 exact ⟨_,rfl,Qd (pa:=p0++p1) (pv:=[]) oe (fun _ _ _=>trodAll_mk1 (Aan true))
  (fun sp hs=>trodAll_mk2 (st (by kernel_rfl) (by decide) (by simp +contextual) hs h0) (st (by kernel_rfl) (by decide) (by simp +contextual) hs h1))
  (fun _ _=>rfl) (by simp) hw (ok_one (by kernel_rfl) rfl (Ui true))⟩
theorem interpolateMeans_holds:Rows.InterpolateMeansSaid :=
 OpenClaim.holds_of_wide 3 Tryz.f3 rfl rfl rfl rfl rfl rfl rfl ⟨rfl,rfl,rfl,rfl,rfl⟩ rfl rfl rfl rfl rfl (by kernel_rfl) func3 (by kernel_rfl)
  (of_decide_eq_true (by kernel_rfl)) (by unfold Func.isWrapper; first|(rw [if_pos (by decide +kernel)]; kernel_rfl)|(rw [if_neg (by decide +kernel)]; exact ⟨rfl,rfl⟩))
  (fun os started H enc _=>interpolateMeans_lifted os started H enc)
theorem interpolateMeans_card:Rows.InterpolateMeansCardSaid :=
 Claim7.holds_tied_plain_at .later [] [.data] true (true, "ca03c4da77dc51f3edb6d1331bad62aff402dc6c0252bbe431db06d55b140366") false
  interpolateMeans_holds (fun _ h=>by cases h) (by kernel_rfl) (fun _ h=>by cases h) interpolateMeans_row_tie rfl ⟨rfl,rfl⟩ (by kernel_rfl) rfl
  (fun f fn hf hfn=>by
   obtain rfl : f = 3 := Option.some.inj ((show prog.funcNamed "liquidcheck/liquidchecklaw18.InterpolateMeans" = some 3 by kernel_rfl).symm.trans hf) |>.symm
   obtain rfl:fn=Tryz.f3:=(Option.some.inj (func3.symm.trans hfn)).symm
   exact ⟨by kernel_rfl,fun j t ht=>by
    rw [Tryz.params3] at ht
    have hm:t ∈ [26,27]:=by simpa using Array.mem_of_getElem? ht
    have hall:([26,27].all fun u=>!prog.wantsStandIn u)=true:=by kernel_rfl
    exact (show prog.wantsStandIn t=false by simpa using List.all_eq_true.1 hall t hm)⟩)
  (by kernel_rfl)
end Go.Proofs.YthelkgdmgihhiaaGreatDoor
