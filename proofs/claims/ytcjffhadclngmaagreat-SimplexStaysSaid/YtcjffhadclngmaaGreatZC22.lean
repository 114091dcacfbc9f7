/- CLift -/
import Derived.Test.YtcjffhadclngmaaGreatZC21
import Derived.Test.YtcjffhadclngmaaGreatZC15
import Derived.Test.YtcjffhadclngmaaGreatRows
import Derived.ProofKit
import Derived.Below
import Derived.Carry
import Derived.ChangeSame
import Derived.Lib.SmallJoins
namespace Go.Proofs.YtcjffhadclngmaaGreat
section
open Go Go.Proofs.Tryz Go.ChangeShapes Go.WideShapes Go.ChangeAt Go.RowKit
theorem Apd {f:FuncId} {args:List AV} {W:World} {vs:Array Value} (h:cL prog f args [] [] 0=some (.bool true,[],[],0)) (hv:VRs (C0 W) args vs.toList) :
  Calls prog f vs W fun e w'=>e=.returned (.bool true)/\Below W.heap.size W w':=by
 refine (Aa7 mixed h (C:=C0 W) rfl rfl rfl Aov hv).mono ?_
 rintro e w' ⟨v,C',rfl,rfl,hle,-,-,-,-,hr⟩
 simp only [VR] at hr
 refine ⟨by rw [hr],⟨hle.os,hle.tape,hle.output,hle.size,fun b hb=>hle.keep b hb fun o hm=>X7 hm⟩⟩
def types:List TypeId:=[4,3,9,70,23,25,27,22]
set_option maxRecDepth 100000 in
theorem closed:Y5 prog types=true:=by kernel_rfl
theorem Akw {n:Int} (h:(Lit.int .i64 n).wf=true):i64 n:=by
 simp only [Lit.wf,Bool.and_eq_true,decide_eq_true_eq] at h
 exact ⟨h.1,h.2⟩
set_option maxRecDepth 100000 in
theorem Amp {avs:List AV} (h:Sh prog 70 avs):∃ c:ByteArray × Int,avs=Dv c/\i64 c.2:=by
 obtain ⟨p0,p1,rfl,h0,h1⟩:=Nu underlying70 h
 obtain ⟨s,rfl,-⟩:=Apb underlying9 h0
 obtain ⟨n,rfl,hn⟩:=Ald underlying3 h1
 exact ⟨(s,n),rfl,Akw hn⟩
set_option maxRecDepth 100000 in
theorem Ajw {avs:List AV} (h:Sh prog 23 avs):∃ cs:List (ByteArray × Int),avs=[An cs]/\∀ c ∈ cs,i64 c.2:=by
 obtain ⟨es,rfl,h1,-⟩:=Abq underlying23 h
 obtain ⟨cs,rfl,h2⟩:=Ae3 (f:=Dv) (Q:=fun c=>i64 c.2) fun x hx=>Amp (h1 x hx)
 exact ⟨cs,rfl,h2⟩
def rowI (r:RowT):Prop:=i64 r.2.1/\∀ c ∈ r.1,i64 c.2
set_option maxRecDepth 100000 in
theorem Aks {avs:List AV} (h:Sh prog 27 avs):∃ r:RowT,avs=rowC r/\rowI r:=by
 obtain ⟨p0,p1,rfl,h0,h1⟩:=Nu underlying27 h
 obtain ⟨q0,q1,rfl,g0,g1⟩:=Nu underlying25 h0
 obtain ⟨cs,rfl,hc⟩:=Ajw g0
 obtain ⟨n,rfl,hn⟩:=Ald underlying3 g1
 obtain ⟨b,rfl⟩:=Amg underlying4 h1
 exact ⟨(cs,n,b),rfl,Akw hn,hc⟩
section
variable {H:Type} {enc:TypeId × Value->H} {w:World} {r:Reach} {b0:Nat} {sp:Nat->Bool} {gg:Bool} {v:Value} {d:DataW H} {p:List MemPlace}
set_option maxRecDepth 100000 in
theorem read {t:TypeId} (ht:t ∈ types) (h:DataW.Trod enc prog w 0 sp gg t v d p):∃ avs,Sh prog t avs/\PRs w (C0 w).Avoid avs v.cells.toList :=
 Alt closed (fun b o v h=>absurd h Vt) ht h
set_option maxRecDepth 100000 in
theorem Ahz (hv:Value.okWide prog w r b0 22 v) (h:DataW.Trod enc prog w 0 sp gg 22 v d p):∃ l:List RowT,VR (C0 w) (Au l) v/\(∀ r ∈ l,rowI r)/\l.length<=maxLen:=by
 obtain ⟨avs,h1,h2⟩:=read (by simp [types]) h
 obtain ⟨es,rfl,h3,h5⟩:=Abq underlying22 h1
 obtain ⟨l,rfl,h4⟩:=Ae3 (f:=rowC) (Q:=rowI) fun x hx=>Aks (h3 x hx)
 obtain ⟨a,n,c,rfl⟩:=okWide_slice underlying22 hv
 exact ⟨l,Ao3 rfl h2,h4,by simpa using h5⟩
end
section
variable {H:Type} {enc:TypeId × Value->H} {P:Program}
theorem Uo {f:Func} {s:ChangeSpec} {apart fresh z7 again:Bool} {W W':World} {args:Array Value} {v:Value} {ds gs:List (DataW H)} {before pa pv:List MemPlace}
  (hW:DataW.Whole enc P f.params.toList s.vars apart W args.toList ds gs before)
  (a1z:∀ (b:Nat) (sp:Nat->Bool) (hd:Bool),DataW.TrodAll enc P W' b sp hd f.resultTypes.toList (v.resultList f.resultTypes.size) (s.fn H (ds++gs)).results [])
  (aa:∀ sp:Nat->Bool,(∀ p ∈ before,sp p.block=true)->DataW.TrodAll enc P W' 0 sp true f.params.toList args.toList (s.fn H (ds++gs)).args pa)
  (a0f:∀ sp:Nat->Bool,(∀ p ∈ before,sp p.block=true)->DataW.TrodVars enc P W' sp s.vars (s.fn H (ds++gs)).vars pv)
  (qh:before=pa++pv) (hb:Below W.heap.size W W')
  (ab:∀ (j:Nat) (t:TypeId) (r:Value),f.resultTypes[j]?=some t->(v.resultList f.resultTypes.size)[j]?=some r->Value.okWide P W' .any 0 t r) :
  s.post enc P f apart fresh z7 again W args v W':=by
 have hlt:∀ p ∈ before,p.block<W.heap.size:=fun p hp=>hW.lt p hp
 have gy:∀ p ∈ before,(fun b=>decide (b<W.heap.size)) p.block=true:=fun p hp=>by simpa using hlt p hp
 refine ⟨ds,gs,before,[],pa,pv,hW,a1z _ _ _,aa _ gy,a0f _ gy,World.keptBut_mono (fun p hp=>⟨hp,?_⟩) (hb.frame (· ∈ before)),fun _=>?_⟩
 ·rw [qh,List.mem_append] at hp
  exact Or.inr hp
 ·obtain ⟨_,_,_,_,_,hz,hn⟩:=hW
  refine ⟨ab,_,_,([]++pa)++pv,⟨[]++pa,pv,trodAll_append (aa _ (fun _ _=>rfl)) (a1z _ _ _),a0f _ (fun _ _=>rfl),rfl,?_,?_⟩,?_⟩
  ·intro b off hp
   have gn:MemPlace.cell b off ∈ before:=by rw [qh]; simpa using hp
   rw [hb.frozen (hlt _ gn)]
   exact hz b off gn
  ·intro ha
   have:=hn ha
   rw [qh] at this
   simpa using this
  ·intro p hp _
   rw [qh]
   simpa using hp
end
set_option maxRecDepth 100000 in
theorem Ags {H:Type} {enc:TypeId × Value->H} {W:World} {base:Nat} {sp:Nat->Bool} {gg:Bool} (b:Bool):DataW.Trod enc prog W base sp gg 4 (.bool b) (.lit (.bool b)) []:=⟨1,by simp [DataW.trod,Value.cells,underlying4]⟩
set_option maxRecDepth 100000 in
theorem Z2 {W:World} (c:Bool):Value.okWide prog W .any 0 4 (.bool c):=by simp [Value.okWide,underlying4,Cell.okWide,Cell.ok]
theorem Try.own:ownKnob prog.godebug=none:=by kernel_rfl
theorem Try.laidOut:laidOutB prog=true:=by kernel_rfl
end
end Go.Proofs.YtcjffhadclngmaaGreat
