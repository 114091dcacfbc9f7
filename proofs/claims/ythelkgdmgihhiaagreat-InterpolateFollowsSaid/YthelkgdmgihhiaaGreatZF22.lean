/- Part 22. -/
import Derived.Test.YthelkgdmgihhiaaGreatZF21
import Derived.Test.YthelkgdmgihhiaaGreatRows
import Derived.ProofKit
import Derived.Below
import Derived.Carry
import Derived.ChangeSame
import Derived.Lib.SmallJoins
open Bool renaming and_eq_true->Ch,not_true->Fs,not_false->Fu,not_eq_true->jB
open Go.DataW renaming trod->jM,Trod->kI
open Go.Proofs.YthelkgdmgihhiaaGreat.AV renaming bool->Bo,int->Ca,str->Cb
open Go.Value renaming okWide->jY
open List renaming map_cons->Cm,map_nil->Cp,mem_append->Cu,map_append->C9
open Nat renaming zero_le->Ci,le_trans->Fh
namespace Go.Proofs.YthelkgdmgihhiaaGreat
section
open Go Go.Proofs.Tryz Go.ChangeShapes Go.WideShapes Go.ChangeAt Go.RowKit
set_option maxRecDepth 100000
theorem Awp {f:FuncId} {args:List AV} {W:World} {vs:Array Value} (h:cL prog f args [] [] 0=some (.bool true,[],[],0)) (hv:VRs (C0 W) args vs.toList) :
  Calls prog f vs W fun e w'=>e=.returned (.bool true)/\Below W.heap.size W w':=by
 refine (Afl mixed h (C:=C0 W) rfl rfl rfl Au9 hv).mono ?_;rintro e w' ⟨v,C',rfl,rfl,hle,-,-,-,-,hr⟩;simp only [VR] at hr;refine ⟨by rw [hr],⟨hle.os,hle.tape,hle.output,hle.size,fun b hb=>hle.keep b hb fun o hm=>Z6 hm⟩⟩
def types:List TypeId:=[4,3,9,67,23,28,30,22,24]
theorem closed:Adk prog types=true:=aK
theorem Asm {n:Int} (h:(Lit.int .i64 n).wf=true):i64 n:=by
 simp only [Lit.wf,Ch,decide_eq_true_eq] at h;exact ⟨h.1,h.2⟩
theorem Auv {avs:List AV} (h:Sh prog 67 avs):∃ c:ByteArray × Int,avs=Ar c/\i64 c.2:=by
 obtain ⟨p0,p1,rfl,h0,h1⟩:=R1 underlying67 h;obtain ⟨s,rfl,-⟩:=Axk underlying9 h0;obtain ⟨n,rfl,hn⟩:=Asj underlying3 h1;exact ⟨(s,n),rfl,Asm hn⟩
theorem Ard {avs:List AV} (h:Sh prog 23 avs):∃ cs:List (ByteArray × Int),avs=[Ag cs]/\∀ c ∈ cs,i64 c.2:=by
 obtain ⟨es,rfl,h1,-⟩:=Ahd underlying23 h;obtain ⟨cs,rfl,h2⟩:=Amu (f:=Ar) (Q:=fun c=>i64 c.2) fun x hx=>Auv (h1 x hx);exact ⟨cs,rfl,h2⟩
def rowI (r:RowT):Prop:=i64 r.2.1/\∀ c ∈ r.1,i64 c.2
theorem Ask {avs:List AV} (h:Sh prog 30 avs):∃ r:RowT,avs=rowC r/\rowI r:=by
 obtain ⟨p0,p1,rfl,h0,h1⟩:=R1 underlying30 h;obtain ⟨q0,q1,rfl,g0,g1⟩:=R1 underlying28 h0;obtain ⟨cs,rfl,hc⟩:=Ard g0;obtain ⟨n,rfl,hn⟩:=Asj underlying3 g1;obtain ⟨b,rfl⟩:=Auu underlying4 h1;exact ⟨(cs,n,b),rfl,Asm hn,hc⟩
section
variable {H:Type} {enc:TypeId × Value->H} {w:World} {r:Go.Reach} {b0:Nat} {sp:Nat->Bool} {ku:Bool} {v:Value} {d:DataW H} {p:List MemPlace}
theorem read {t:TypeId} (ht:t ∈ types) (h:kI enc prog w 0 sp ku t v d p):∃ avs,Sh prog t avs/\PRs w (C0 w).Avoid avs v.cells.toList :=
 Aue closed (fun b o v h=>absurd h X3) ht h
theorem Ach (hv:jY prog w r b0 22 v) (h:kI enc prog w 0 sp ku 22 v d p):∃ l:List RowT,VR (C0 w) (Ao l) v/\(∀ r ∈ l,rowI r)/\l.length<=maxLen:=by
 obtain ⟨avs,h1,h2⟩:=read (by simp [types]) h;obtain ⟨es,rfl,h3,h5⟩:=Ahd underlying22 h1;obtain ⟨l,rfl,h4⟩:=Amu (f:=rowC) (Q:=rowI) fun x hx=>Ask (h3 x hx);obtain ⟨a,n,c,rfl⟩:=okWide_slice underlying22 hv;exact ⟨l,Aww rfl h2,h4,by simpa using h5⟩
theorem Aqx (hv:jY prog w r b0 30 v) (h:kI enc prog w 0 sp ku 30 v d p):∃ r:RowT,VR (C0 w) (.agg (rowC r)) v:=by
 obtain ⟨xs,rfl,-⟩:=okWide_struct underlying30 hv;obtain ⟨avs,h1,h2⟩:=read (by simp [types]) h;obtain ⟨r,rfl,-⟩:=Ask h1;exact ⟨r,Av0 h2⟩
end
section
variable {H:Type} {enc:TypeId × Value->H} {P:Program}
theorem Zg {f:Func} {s:ChangeSpec} {apart fresh a0r again:Bool} {W W':World} {args:Array Value} {v:Value} {ds gs:List (DataW H)} {before pa pv:List MemPlace}
  (hW:DataW.Whole enc P f.params.toList s.vars apart W args.toList ds gs before)
  (ke:∀ (b:Nat) (sp:Nat->Bool) (hd:Bool),DataW.TrodAll enc P W' b sp hd f.resultTypes.toList (v.resultList f.resultTypes.size) (s.fn H (ds++gs)).results [])
  (aa:∀ sp:Nat->Bool,(∀ p ∈ before,sp p.block=true)->DataW.TrodAll enc P W' 0 sp true f.params.toList args.toList (s.fn H (ds++gs)).args pa)
  (a0x:∀ sp:Nat->Bool,(∀ p ∈ before,sp p.block=true)->DataW.TrodVars enc P W' sp s.vars (s.fn H (ds++gs)).vars pv)
  (qy:before=pa++pv) (hb:Below W.heap.size W W')
  (ab:∀ (j:Nat) (t:TypeId) (r:Value),f.resultTypes[j]?=some t->(v.resultList f.resultTypes.size)[j]?=some r->jY P W' .any 0 t r) :
  s.post enc P f apart fresh a0r again W args v W':=by
 have hlt:∀ p ∈ before,p.block<W.heap.size:=fun p hp=>hW.lt p hp;have gz:∀ p ∈ before,(fun b=>decide (b<W.heap.size)) p.block=true:=fun p hp=>by simpa using hlt p hp
 refine ⟨ds,gs,before,[],pa,pv,hW,ke _ _ _,aa _ gz,a0x _ gz,World.keptBut_mono (fun p hp=>⟨hp,?_⟩) (hb.frame (· ∈ before)),fun _=>?_⟩
 ·rw [qy,Cu] at hp;exact Or.inr hp
 ·obtain ⟨_,_,_,_,_,hz,hn⟩:=hW;refine ⟨ab,_,_,([]++pa)++pv,⟨[]++pa,pv,trodAll_append (aa _ (fun _ _=>rfl)) (ke _ _ _),a0x _ (fun _ _=>rfl),rfl,?_,?_⟩,?_⟩
  ·intro b off hp;have dd:MemPlace.cell b off ∈ before:=by rw [qy]; simpa using hp
   rw [hb.frozen (hlt _ dd)];exact hz b off dd
  ·intro ha;have:=hn ha;rw [qy] at this;exact Ya22
  ·intro p hp _;rw [qy];simpa using hp
end
theorem An0 {H:Type} {enc:TypeId × Value->H} {W:World} {base:Nat} {sp:Nat->Bool} {ku:Bool} (b:Bool):kI enc prog W base sp ku 4 (.bool b) (.lit (.bool b)) []:=⟨1,by simp [jM,Value.cells,underlying4]⟩
theorem Aed {W:World} (c:Bool):jY prog W .any 0 4 (.bool c):=by simp [jY,underlying4,Cell.okWide,Cell.ok]
theorem Try.own:ownKnob prog.godebug=none:=aK
theorem Try.laidOut:laidOutB prog=true:=aK
end
section
open Go Go.Proofs.Tryz
set_option maxHeartbeats 4000000
set_option maxRecDepth 100000
section
variable (S:List Ent) (tk:List Nat) (k:Nat)
theorem Ai2 (a b:List RowT):(R2 a b).length<=24:=Fh (List.length_filter_le ..) (Mv a)
theorem Lq (l m:List RowT) (r:RowT):cL prog 4 [Ao l,Ao m,.agg (rowC r)] S tk k=some (.bool true,S,tk,k):=by
 have hA:=fun S tk k=>Ajh S tk k;have tn:=fun S tk k=>Uf S tk k l;have hL2:=fun S tk k=>Uf S tk k m;have hL3:=fun c S tk k=>(At8 S tk k (c:=c)).trans (Uf S tk k [r]);simp only [Ao,Cm,Cp,rowC,Ag] at tn hL2 hL3;refine opP func4 ntmps4 (hp3:=rfl) ?_;by_cases h1:L8 l=true;case neg =>
  rw [jB] at h1
  rw [h1] at tn
  simp (maxSteps:=10^6)+contextual(disch:=try exact dqd)only[ev1,simprocAttr,Ca,Bo,Cb,results4,Ao,rowC,Ag,tn,hL2,hL3,hA,Fs,Fu]
 by_cases h2:L8 m=true;case neg =>
  rw [jB] at h2
  rw [h1] at tn
  rw [h2] at hL2
  simp (maxSteps:=10^6)+contextual(disch:=try exact dqd)only[ev1,simprocAttr,Ca,Bo,Cb,results4,Ao,rowC,Ag,tn,hL2,hL3,hA,Fs,Fu]
 by_cases h3:L8 [r]=true;case neg =>
  rw [jB] at h3
  rw [h1] at tn
  rw [h2] at hL2
  rw [h3] at hL3
  simp (maxSteps:=10^6)+contextual(disch:=try exact dqd)only[ev1,simprocAttr,Ca,Bo,Cb,results4,Ao,rowC,Ag,tn,hL2,hL3,hA,Fs,Fu]
 obtain ⟨l1,l2⟩:=Y6 h1;obtain ⟨m1,m2⟩:=Y6 h2;have r1:=(Y6 h3).2 r (by simp);have ci:=fun S tk k=>Y3 S tk k l m (fun r h=>fN) (fun r h=>by have:=m2 r h; omega);have bl:=fun S tk k=>Ahr S tk k l m (fun r h=>fN) (fun r h=>by have:=m2 r h; omega);have hF1:=fun S tk k=>G1 S tk k l r aA (fun r h=>fN) aA;have hF2:=fun S tk k=>Ui S tk k l r aA (fun r h=>fN) aA;have hul:=Ai2 l m;rw [h1] at tn;rw [h2] at hL2;rw [h3] at hL3;generalize R2 l m=u at *;generalize E3 l r=q at *;have z1:((((u.length:Nat):Int)) != ((u.length:Nat):Int))=false:=by simp
 have z2:(q != q)=false:=gD
 simp only [Ao,Aq,rowC,Ag] at ci bl hF1 hF2;simp (maxSteps:=10^6)+contextual(disch:=try exact dqd)only[ev1,simprocAttr,Ca,Bo,Cb,results4,Ao,rowC,Ag,tn,hL2,hL3,ci,bl,hF1,hF2,z1,z2,Fs,Fu];refine loop1 (P:=prog) (fun x st=>st.T.length=61/\(x<=u.length)/\getT st.T 7=Aq u/\getT st.T 8=Aq u/\getT st.T 9=.int (x:Nat)/\st.S=[⟨0,[.frz (r.1.map Ar) .unk,.prim (.int .i64 r.2.1),.prim (.bool r.2.2)]⟩]) (fun x=>u.length - x) (fun x=>.bool true) (0) ?_ ?_;case refine_2=>exact ⟨rfl,Ci _,rfl,rfl,rfl,rfl⟩
 rintro i ⟨T,S',tk',n'⟩ ⟨hl,hi,e7,e8,e9,eS⟩ IH;subst eS;obtain ⟨g,hg,hT⟩:=Ap hl;rw [hg] at e7 e8 e9;subst hT;clear hg hl;have bg:=Aw (i:=i) aA;by_cases la:i<u.length
 ·have d1:decide ((i:Int)<(u.length:Int))=true:=aZ
  obtain ⟨s,hx⟩:=Ab la;have hx':=Li hx;have hs:sEq s s=true:=Q1.2 rfl;simp (maxSteps:=10^6)+contextual(disch:=try exact dqd)only[ev1,simprocAttr,Ca,Bo,Cb,results4,e7,e8,e9,Aq,d1,hx',hs,bg,Fs];exact IH (i+1) _ aF ⟨rfl,aE,dC,dC,dC,dC⟩
 ·have d1:decide ((i:Int)<(u.length:Int))=false:=aZ
  simp (maxSteps:=10^6)+contextual(disch:=try exact dqd)only[ev1,simprocAttr,Ca,Bo,Cb,results4,e7,e8,e9,Aq,d1,hA]
end
end
end Go.Proofs.YthelkgdmgihhiaaGreat
