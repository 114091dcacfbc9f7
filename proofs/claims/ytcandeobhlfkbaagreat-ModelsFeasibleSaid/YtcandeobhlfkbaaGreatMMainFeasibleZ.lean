/-
  Proved: whatever rows and bound it is given, the law ModelsFeasible returns true, and its arguments read afterwards as they did before.
  Conditions: none beyond the row's own.
-/
import Derived.Test.YtcandeobhlfkbaaGreatZF24
open Go.DataW renaming Trod->gU
open Go.Value renaming okWide->gJ
open List renaming append_nil->F4
namespace Go.Proofs.YtcandeobhlfkbaaGreat
open Go Go.Proofs.Tryz Go.ChangeShapes Go.WideShapes Go.ChangeAt Go.RowKit
set_option maxRecDepth 100000
theorem modelsFeasible_lifted (os:Os) (started:os.Started) (H:Type) (enc:TypeId × Value->H) :
  ReturnsInHanded {} Tryz.checked os 4 .any (Rows.modelsFeasibleSpec.pre6 enc prog Tryz.f4 Rows.modelsFeasibleRow.domain false) (Rows.modelsFeasibleSpec.post enc prog Tryz.f4 false true false false):=by
 refine returnsInHanded_of_change (C:=Tryz.checked) Try.own started aL func4
  (ChangeSpec.witness6 (enc:=enc) (C:=Tryz.checked) false ⟨#[],#[.slice none 0 0,.int .i64 0],[]⟩ 8 aL aL aL aL) ?_
 intro W base args ds gs before zo hW hcnd _;have lx:∀ (j:Nat) t v,Tryz.f4.params[j]?=some t->args[j]?=some v->gJ prog W .any base t v:=zo;have hW':=hW;obtain ⟨p,q,hA0,hV,rfl,hfz,hnd⟩:=hW;have hA:DataW.TrodAll enc prog W 0 (fun _=>true) true Tryz.f4.params.toList args.toList ds p:=hA0;rw [Tryz.params4] at hA lx;obtain ⟨v0,v1,d0,d1,p0,p1,rfl,rfl,rfl,h0,h1⟩:=trodAll_two hA;obtain ⟨rfl,rfl⟩:=trodVars_none hV;obtain ⟨l,q0,-,-⟩:=Akb (lx 0 22 v0 rfl rfl) h0;obtain ⟨most,q1,-⟩:=Ani (lx 1 3 v1 rfl rfl) h1;clear hA0 zo;simp only [F4] at hW';refine (Asj (M6 [] [] 0 l most) (vs:=#[v0,v1]) (by simp only [VRs]; exact ⟨q0,q1,trivial⟩)).mono fun e W' ⟨he,hw⟩=>?_;subst he;have hlt:∀ x ∈ p0++p1,x.block<W.heap.size:=fun x hx=>hW'.lt x hx;have st:∀ {sp:Nat->Bool} {t:TypeId} {v:Value} {d:DataW H} {p':List MemPlace},prog.readableRec t=true->t<prog.types.size->(∀ x ∈ p',x ∈ p0++p1)->(∀ x ∈ p0++p1,sp x.block=true)->gU enc prog W 0 (fun _=>true) true t v d p'->gU enc prog W' 0 sp true t v d p':=fun hr hl hp hs h =>
  WideElems.Trod_stays Try.laidOut hr hl h (fun x hx=>hw.same (hlt x (hp x hx))) fun x hx=>hs x (hp x hx)
 exact ⟨_,rfl,Xn (pa:=p0++p1) (pv:=[]) hW' (fun _ _ _=>trodAll_mk1 (Akz true))
  (fun sp hs=>trodAll_mk2 (st aL aH (by simp +contextual) hs h0) (st aL aH (by simp +contextual) hs h1))
  (fun _ _=>rfl) (by simp) hw (ok_one aL rfl (Ab8 true))⟩
theorem modelsFeasible_holds:Rows.ModelsFeasibleSaid :=
 OpenClaim.holds_of_wide 4 Tryz.f4 rfl rfl rfl rfl rfl rfl rfl ⟨rfl,rfl,rfl,rfl,rfl⟩ rfl rfl rfl rfl rfl aL func4 aL
  (of_decide_eq_true aL) (by unfold Func.isWrapper; first|(rw [if_pos aO]; kernel_rfl)|(rw [if_neg aO]; exact ⟨rfl,rfl⟩))
  (fun os started H enc _=>modelsFeasible_lifted os started H enc)
end Go.Proofs.YtcandeobhlfkbaaGreat
