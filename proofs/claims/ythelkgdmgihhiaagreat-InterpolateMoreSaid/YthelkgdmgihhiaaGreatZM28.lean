/- Part 28. -/
import Derived.Test.YthelkgdmgihhiaaGreatZM27
import Derived.Test.YthelkgdmgihhiaaGreatRows
import Derived.ProofKit
import Derived.Below
import Derived.Carry
import Derived.ChangeSame
import Derived.Lib.SmallJoins
open Bool renaming and_eq_true->Cf,not_true->F6,not_false->Ij,not_eq_true->gL
open Go.DataW renaming trod->fM,Trod->gJ
open Go.Proofs.YthelkgdmgihhiaaGreat.AV renaming bool->Ca,int->Cg,str->Ch
open Go.Value renaming okWide->fW
open List renaming map_cons->Cm,mem_append->Cr,nil_append->Ct,map_nil->Cw,mem_cons->Cy,map_append->Ft
open Nat renaming zero_le->Cs
namespace Go.Proofs.YthelkgdmgihhiaaGreat
section
open Go Go.Proofs.Tryz Go.ChangeShapes Go.WideShapes Go.ChangeAt Go.RowKit
set_option maxRecDepth 100000
theorem Ap2 {f:FuncId} {args:List AV} {W:World} {vs:Array Value} (h:cL prog f args [] [] 0=some (.bool true,[],[],0)) (hv:VRs (C0 W) args vs.toList) :
  Calls prog f vs W fun e w'=>e=.returned (.bool true)/\Below W.heap.size W w':=by
 refine (Ux mixed h (C:=C0 W) rfl rfl rfl (SR_G.2 Aop) hv).mono ?_;rintro e w' ⟨v,C',rfl,rfl,hle,-,-,-,-,hr⟩;simp only [VR] at hr;refine ⟨by rw [hr],⟨hle.os,hle.tape,hle.output,hle.size,fun b hb=>hle.keep b hb fun o hm=>Wj hm⟩⟩
def types:List TypeId:=[4,3,9,67,23,28,30,22,24]
theorem closed:Zf prog types=true:=aK
theorem Amn {n:Int} (h:(Lit.int .i64 n).wf=true):i64 n:=by
 simp only [Lit.wf,Cf,decide_eq_true_eq] at h;exact ⟨h.1,h.2⟩
theorem Aof {avs:List AV} (h:Sh prog 67 avs):∃ c:ByteArray × Int,avs=A2 c/\i64 c.2:=by
 obtain ⟨p0,p1,rfl,h0,h1⟩:=N5 underlying67 h;obtain ⟨s,rfl,-⟩:=Aqx underlying9 h0;obtain ⟨n,rfl,hn⟩:=Amk underlying3 h1;exact ⟨(s,n),rfl,Amn hn⟩
theorem Alj {avs:List AV} (h:Sh prog 23 avs):∃ cs:List (ByteArray × Int),avs=[Ak cs]/\∀ c ∈ cs,i64 c.2:=by
 obtain ⟨es,rfl,h1,-⟩:=Ack underlying23 h;obtain ⟨cs,rfl,h2⟩:=Ahj (f:=A2) (Q:=fun c=>i64 c.2) fun x hx=>Aof (h1 x hx);exact ⟨cs,rfl,h2⟩
def rowI (r:RowT):Prop:=i64 r.2.1/\∀ c ∈ r.1,i64 c.2
theorem Aml {avs:List AV} (h:Sh prog 30 avs):∃ r:RowT,avs=rowC r/\rowI r:=by
 obtain ⟨p0,p1,rfl,h0,h1⟩:=N5 underlying30 h;obtain ⟨q0,q1,rfl,g0,g1⟩:=N5 underlying28 h0;obtain ⟨cs,rfl,hc⟩:=Alj g0;obtain ⟨n,rfl,hn⟩:=Amk underlying3 g1;obtain ⟨b,rfl⟩:=Aoe underlying4 h1;exact ⟨(cs,n,b),rfl,Amn hn,hc⟩
section
variable {H:Type} {enc:TypeId × Value->H} {w:World} {r:Go.Reach} {b0:Nat} {sp:Nat->Bool} {i5:Bool} {v:Value} {d:DataW H} {p:List MemPlace}
theorem read {t:TypeId} (ht:t ∈ types) (h:gJ enc prog w 0 sp i5 t v d p):∃ avs,Sh prog t avs/\PRs w (C0 w).Avoid avs v.cells.toList :=
 An0 closed (fun b o v h=>absurd h Ul) ht h
theorem Yj (hv:fW prog w r b0 22 v) (h:gJ enc prog w 0 sp i5 22 v d p):∃ l:List RowT,VR (C0 w) (Au l) v/\(∀ r ∈ l,rowI r)/\l.length<=maxLen:=by
 obtain ⟨avs,h1,h2⟩:=read (by simp [types]) h;obtain ⟨es,rfl,h3,h5⟩:=Ack underlying22 h1;obtain ⟨l,rfl,h4⟩:=Ahj (f:=rowC) (Q:=rowI) fun x hx=>Aml (h3 x hx);obtain ⟨a,n,c,rfl⟩:=okWide_slice underlying22 hv;exact ⟨l,Aqe rfl h2,h4,by simpa using h5⟩
theorem Ak1 (hv:fW prog w r b0 30 v) (h:gJ enc prog w 0 sp i5 30 v d p):∃ r:RowT,VR (C0 w) (.agg (rowC r)) v:=by
 obtain ⟨xs,rfl,-⟩:=okWide_struct underlying30 hv;obtain ⟨avs,h1,h2⟩:=read (by simp [types]) h;obtain ⟨r,rfl,-⟩:=Aml h1;exact ⟨r,Ape h2⟩
end
section
variable {H:Type} {enc:TypeId × Value->H} {P:Program}
theorem Vx {f:Func} {s:ChangeSpec} {apart fresh yx again:Bool} {W W':World} {args:Array Value} {v:Value} {ds gs:List (DataW H)} {before pa pv:List MemPlace}
  (hW:DataW.Whole enc P f.params.toList s.vars apart W args.toList ds gs before)
  (a1f:∀ (b:Nat) (sp:Nat->Bool) (hd:Bool),DataW.TrodAll enc P W' b sp hd f.resultTypes.toList (v.resultList f.resultTypes.size) (s.fn H (ds++gs)).results [])
  (aa:∀ sp:Nat->Bool,(∀ p ∈ before,sp p.block=true)->DataW.TrodAll enc P W' 0 sp true f.params.toList args.toList (s.fn H (ds++gs)).args pa)
  (zd:∀ sp:Nat->Bool,(∀ p ∈ before,sp p.block=true)->DataW.TrodVars enc P W' sp s.vars (s.fn H (ds++gs)).vars pv)
  (o4:before=pa++pv) (hb:Below W.heap.size W W')
  (ae:∀ (j:Nat) (t:TypeId) (r:Value),f.resultTypes[j]?=some t->(v.resultList f.resultTypes.size)[j]?=some r->fW P W' .any 0 t r) :
  s.post enc P f apart fresh yx again W args v W':=by
 have hlt:∀ p ∈ before,p.block<W.heap.size:=fun p hp=>hW.lt p hp;have fd:∀ p ∈ before,(fun b=>decide (b<W.heap.size)) p.block=true:=fun p hp=>by simpa using hlt p hp
 refine ⟨ds,gs,before,[],pa,pv,hW,a1f _ _ _,aa _ fd,zd _ fd,World.keptBut_mono (fun p hp=>⟨hp,?_⟩) (hb.frame (· ∈ before)),fun _=>?_⟩
 ·rw [o4,Cr] at hp;exact Or.inr hp
 ·obtain ⟨_,_,_,_,_,hz,hn⟩:=hW;refine ⟨ae,_,_,([]++pa)++pv,⟨[]++pa,pv,trodAll_append (aa _ (fun _ _=>rfl)) (a1f _ _ _),zd _ (fun _ _=>rfl),rfl,?_,?_⟩,?_⟩
  ·intro b off hp;have f9:MemPlace.cell b off ∈ before:=by rw [o4]; simpa using hp
   rw [hb.frozen (hlt _ f9)];exact hz b off f9
  ·intro ha;have:=hn ha;rw [o4] at this;exact Ya17
  ·intro p hp _;rw [o4];simpa using hp
end
theorem Aik {H:Type} {enc:TypeId × Value->H} {W:World} {base:Nat} {sp:Nat->Bool} {i5:Bool} (b:Bool):gJ enc prog W base sp i5 4 (.bool b) (.lit (.bool b)) []:=⟨1,by simp [fM,Value.cells,underlying4]⟩
theorem Z7 {W:World} (c:Bool):fW prog W .any 0 4 (.bool c):=by simp [fW,underlying4,Cell.okWide,Cell.ok]
theorem Try.own:ownKnob prog.godebug=none:=aK
theorem Try.laidOut:laidOutB prog=true:=aK
end
section
open Go Go.Proofs.Tryz
set_option maxHeartbeats 4000000
set_option maxRecDepth 100000
section
variable (S:List Ent) (tk:List Nat) (k:Nat)
def Aic (tk:List Nat):Cap:=A4 (Eo tk .tight) (A4 tk .tight 3) 3
def Aid (tk:List Nat):List Nat:=Eo (Eo tk .tight) (A4 tk .tight 3)
theorem Alc (tk:List Nat):Ba (Aid tk) (Aic tk) 3=true:=B0 (B0 rfl)
theorem Afn (c d:Cap) (a b:List RowT) (ha:a.length<=100000) (hb:b.length<=100000):cL prog 19 [.frz (a.map rowC) c,.frz (b.map rowC) d] S tk k=some (.frz ((a++b).map rowC) (Aic tk),S,Aid tk,k):=by
 have h1 tk:=apB_all (tk:=tk) (c:=.tight) (es:=[]) (ys:=a.map rowC) (sz:=3) rfl rfl (Gs a) aB;have h2 tk:=apB_all (tk:=Eo tk .tight) (c:=A4 tk .tight 3) (es:=a.map rowC) (ys:=b.map rowC) (sz:=3) (B0 rfl) (Gs a) (Gs b) aB;have key:∃ r,cL prog 19 [.frz (a.map rowC) c,.frz (b.map rowC) d] S tk k=some r/\r=(.frz ((a++b).map rowC) (Aic tk),S,Aid tk,k):=by
  refine opM func19 ntmps19 ?_;simp (maxSteps:=10^6)+contextual(disch:=try exact dqd)only[evg2,simprocAttr,Cg,Ca,Ch,results19,h1,h2,Ct,Aic,Aid,Ft]
 obtain ⟨r,h,rfl⟩:=key;exact h
theorem Lx (a b:List RowT) (r:RowT):cL prog 6 [Au a,Au b,.agg (rowC r)] S tk k=some (.bool true,S,tk,k):=by
 have xq:xF 19=true:=rfl;have hA S tk k:=tell (f:=8) (args:=[]) rfl Am7 S tk k;have ta S tk k:=tell (f:=7) (args:=[Au a]) rfl (Zx a) S tk k;have yy S tk k:=tell (f:=7) (args:=[Au b]) rfl (Zx b) S tk k;have ua c S tk k:=tell (f:=7) (args:=[.frz [rowC r] c]) rfl (Zx [r]) S tk k;simp only [Au,Cm,Cw,rowC,Ak] at ta yy ua;refine opP func6 ntmps6 (hp3:=rfl) ?_;by_cases h1:J3 a=true;case neg =>
  rw [gL] at h1
  rw [h1] at ta
  simp (maxSteps:=10^6)+contextual(disch:=try exact dqd)only[ev2,simprocAttr,Cg,Ca,Ch,results6,xq,Au,rowC,Ak,ta,yy,ua,hA,F6,Ij]
 by_cases h2:J3 b=true;case neg =>
  rw [gL] at h2
  rw [h1] at ta
  rw [h2] at yy
  simp (maxSteps:=10^6)+contextual(disch:=try exact dqd)only[ev2,simprocAttr,Cg,Ca,Ch,results6,xq,Au,rowC,Ak,ta,yy,ua,hA,F6,Ij]
 by_cases h3:J3 [r]=true;case neg =>
  rw [gL] at h3
  rw [h1] at ta
  rw [h2] at yy
  rw [h3] at ua
  simp (maxSteps:=10^6)+contextual(disch:=try exact dqd)only[ev2,simprocAttr,Cg,Ca,Ch,results6,xq,Au,rowC,Ak,ta,yy,ua,hA,F6,Ij]
 obtain ⟨a1,a2⟩:=Vl h1;obtain ⟨b1,b2⟩:=Vl h2;have r1:=(Vl h3).2 r (by simp);have hlen:∀ q ∈ a++b++[r,r],q.1.length<=1048576:=fun q h=>by
  simp only [Cr,Cy,List.not_mem_nil,or_false,or_self] at h;rcases h with (h|h)|h
  ·have:=a2 q h; omega
  ·have:=b2 q h; omega
  ·subst h; omega
 rw [h1] at ta;rw [h2] at yy;rw [h3] at ua;have hB c d S tk k:=Afn S tk k c d a b aA aA;have hK c S tk k:=tell (f:=18) (args:=[.frz ((a++b++[r,r]).map rowC) c]) rfl (Am9 (a++b++[r,r]) hlen) S tk k;have hP tk:=apB_all (tk:=Aid tk) (c:=Aic tk) (es:=(a++b).map rowC) (ys:=[rowC r,rowC r]) (sz:=3) (Alc tk) (Gs _) rfl aB;simp only [Ft,Cm,Cw,rowC,Ak] at hK hP;by_cases h0:sysE (a++b++[r,r])=0;case neg =>
  have d1:(sysE (a++b++[r,r]) != 0)=true:=aS
  simp (maxSteps:=10^6)+contextual(disch:=try exact dqd)only[ev2,simprocAttr,Cg,Ca,Ch,results6,xq,Au,rowC,Ak,ta,yy,ua,hB,hP,hK,hA,d1,gO_refl,F6,Ij,Ft]
 have d1:(sysE (a++b++[r,r]) != 0)=false:=aS
 have hFa:=fun (q:RowT) (hq:q ∈ a) S tk k=>tell (f:=13) (args:=[Au a,.agg (rowC q)]) rfl (Q2 a q aA (fun r h=>by have:=a2 r h; omega) (by have:=a2 q hq; omega)) S tk k;have hF1 S tk k:=tell (f:=13) (args:=[Au a,.agg (rowC r)]) rfl (Q2 a r aA (fun r h=>by have:=a2 r h; omega) aA) S tk k;have hF2 c S tk k:=tell (f:=13) (args:=[.frz ((a++b).map rowC) c,.agg (rowC r)]) rfl (Q2 (a++b) r aB (fun q h=>hlen q (List.mem_append_left _ h)) aA) S tk k;have a1g:∀ q ∈ a,q.2.1 > -1000000000000->q.2.1<1000000000000->Ej a q=true:=fun q hq c1 c2=>Xr h0 aA (fun x hx=>bG) hq c1 c2;have a1h:Ej a r=true->Ej (a++b) r=true:=Xq h0 aB (fun x hx=>List.mem_append_left _ hx) (fun x hx=>List.mem_append_left _ hx) (by simp);clear h0 hlen;simp only [Au,rowC,Ak,Ft] at hF1 hF2;generalize Ej a r=f1 at *;generalize Ej (a++b) r=f2 at *;simp (maxSteps:=10^6)+contextual(disch:=try exact dqd)only[ev2,simprocAttr,Cg,Ca,Ch,results6,xq,Au,rowC,Ak,ta,yy,ua,hB,hP,hK,d1,gO_refl,F6,Ij,Ft];refine loop1 (P:=prog) (fun x st=>st.T.length=76/\(x<=a.length)/\getT st.T 0=Au a/\getT st.T 1=Au b/\getT st.T 5=.ref 0 0 0/\getT st.T 7=.int (x:Nat)/\st.S=[⟨0,[.frz (r.1.map A2) .unk,.prim (.int .i64 r.2.1),.prim (.bool r.2.2)]⟩]) (fun x=>a.length - x) (fun x=>.bool true) (0) ?_ ?_;case refine_2=>exact ⟨rfl,Cs _,rfl,rfl,rfl,rfl,rfl⟩
 rintro i ⟨T,S',tk',n'⟩ ⟨hl,hi,e0,e1,e5,e7,eS⟩ IH;subst eS;obtain ⟨g,hg,hT⟩:=Aw hl;rw [hg] at e0 e1 e5 e7;subst hT;clear hg hl;have jp:=Db (i:=i) aA;by_cases la:i<a.length
 ·have d1:decide ((i:Int)<(a.length:Int))=true:=bP
  obtain ⟨q,hx⟩:=Ah la;have hx':=Km hx;have hF:=hFa q (Aj hx);have hs:=a1g q (Aj hx);simp only [Au,rowC,Ak] at hx' hF;by_cases c1:q.2.1 > -1000000000000
  ·have d2:decide (q.2.1 > -1000000000000)=true:=by simpa using c1
   by_cases c2:q.2.1<1000000000000
   ·have d3:decide (q.2.1<1000000000000)=true:=by simpa using c2
    rw [hs c1 c2] at hF;simp (maxSteps:=10^6)+contextual(disch:=try exact dqd)only[ev2,simprocAttr,Cg,Ca,Ch,results6,xq,e0,e1,e5,e7,Au,Ak,d1,d2,d3,hx',hF,jp,F6];exact Ya22
   ·have d3:decide (q.2.1<1000000000000)=false:=by simpa using c2
    simp (maxSteps:=10^6)+contextual(disch:=try exact dqd)only[ev2,simprocAttr,Cg,Ca,Ch,results6,xq,e0,e1,e5,e7,Au,Ak,d1,d2,d3,hx',jp,F6];exact Ya22
  ·have d2:decide (q.2.1 > -1000000000000)=false:=by simpa using c1
   simp (maxSteps:=10^6)+contextual(disch:=try exact dqd)only[ev2,simprocAttr,Cg,Ca,Ch,results6,xq,e0,e1,e5,e7,Au,Ak,d1,d2,hx',jp,F6];exact Ya22
 ·have d1:decide ((i:Int)<(a.length:Int))=false:=bP
  cases f1 with
  | false=>simp (maxSteps:=10^6)+contextual(disch:=try exact dqd)only[ev2,simprocAttr,Cg,Ca,Ch,results6,xq,e0,e1,e5,e7,Au,d1,hF1,hA,gO_refl,F6,Ij]
  | true =>
   rw [a1h rfl] at hF2;simp (maxSteps:=10^6)+contextual(disch:=try exact dqd)only[ev2,simprocAttr,Cg,Ca,Ch,results6,xq,e0,e1,e5,e7,Au,d1,hF1,hF2,hB,hA,gO_refl,F6,Ij,Ft]
end
end
end Go.Proofs.YthelkgdmgihhiaaGreat
