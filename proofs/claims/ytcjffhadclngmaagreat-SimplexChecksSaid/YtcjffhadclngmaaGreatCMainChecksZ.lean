/-
  Proved: whatever rows it is given, the law SimplexChecks returns true, and the rows read afterwards as they did before.
  Conditions: none beyond the row's own.
-/
import Derived.Test.YtcjffhadclngmaaGreatZC22
namespace Go.Proofs.YtcjffhadclngmaaGreat
open Go Go.ChangeShapes Go.WideShapes Go.ChangeAt Go.RowKit
set_option maxRecDepth 100000 in
theorem simplexChecks_lifted (os:Os) (started:os.Started) (H:Type) (enc:TypeId × Value→H) :
  ReturnsInHanded {} Tryz.checked os 3 .any (Rows.simplexChecksSpec.pre6 enc Tryz.prog Tryz.f3 Rows.simplexChecksRow.domain false) (Rows.simplexChecksSpec.post enc Tryz.prog Tryz.f3 false true false false):=by
 refine returnsInHanded_of_change (C:=Tryz.checked) Try.own started (by kernel_rfl) Tryz.func3
  (ChangeSpec.witness6 (enc:=enc) (C:=Tryz.checked) false ⟨#[],#[.slice none 0 0],[]⟩ 8 (by kernel_rfl) (by kernel_rfl) (by kernel_rfl) (by kernel_rfl)) ?_
 intro W base args ds gs before hval0 hW hcnd _
 have hval:∀ (j:Nat) t v,Tryz.f3.params[j]?=some t→args[j]?=some v→Value.okWide Tryz.prog W .any base t v:=hval0
 have hW':=hW
 obtain ⟨p,q,hA0,hV,rfl,hfz,hnd⟩:=hW
 have hA:DataW.TrodAll enc Tryz.prog W 0 (fun _=>true) true Tryz.f3.params.toList args.toList ds p:=hA0
 rw [Tryz.params3] at hA hval
 obtain ⟨v0,d0,rfl,rfl,h0⟩:=trodAll_one hA
 obtain ⟨rfl,rfl⟩:=trodVars_none hV
 obtain ⟨l,q0,-,hl⟩:=Z6 (hval 0 22 v0 rfl rfl) h0
 clear hA0 hval0
 simp only [List.append_nil] at hW'
 refine (Af0 (Lt [] [] 0 l hl) (vs:=#[v0]) (by simp only [VRs]; exact ⟨q0,trivial⟩)).mono fun e W' ⟨he,hw⟩=>?_
 subst he
 have hlt:∀ x ∈ p,x.block<W.heap.size:=fun x hx=>hW'.lt x hx
 have st:∀ {sp:Nat→Bool} {t:TypeId} {v:Value} {d:DataW H} {p':List MemPlace},Tryz.prog.readableRec t=true→t<Tryz.prog.types.size→(∀ x ∈ p',x ∈ p)→(∀ x ∈ p,sp x.block=true)→DataW.Trod enc Tryz.prog W 0 (fun _=>true) true t v d p'→DataW.Trod enc Tryz.prog W' 0 sp true t v d p':=fun hr hl hp hs h =>
  WideElems.Trod_stays Try.laidOut hr hl h (fun x hx=>hw.same (hlt x (hp x hx))) fun x hx=>hs x (hp x hx)
 exact ⟨_,rfl,Qn (pa:=p) (pv:=[]) hW' (fun _ _ _=>trodAll_mk1 (Zb true))
  (fun sp hs=>trodAll_mk1 (st (by kernel_rfl) (by decide) (by simp +contextual) hs h0))
  (fun _ _=>rfl) (by simp) hw (ok_one (by kernel_rfl) rfl (Vt true))⟩
theorem simplexChecks_holds:Rows.SimplexChecksSaid :=
 OpenClaim.holds_of_wide 3 Tryz.f3 rfl rfl rfl rfl rfl rfl rfl ⟨rfl,rfl,rfl,rfl,rfl⟩ rfl rfl rfl rfl rfl (by kernel_rfl) Tryz.func3 (by kernel_rfl)
  (of_decide_eq_true (by kernel_rfl)) (by unfold Func.isWrapper; first|(rw [if_pos (by decide +kernel)]; kernel_rfl)|(rw [if_neg (by decide +kernel)]; exact ⟨rfl,rfl⟩))
  (fun os started H enc _=>simplexChecks_lifted os started H enc)
end Go.Proofs.YtcjffhadclngmaaGreat
