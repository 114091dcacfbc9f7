/- Part 24. -/
import Derived.Test.YtcandeobhlfkbaaGreatZF23
import Derived.Test.YtcandeobhlfkbaaGreatRows
import Derived.ProofKit
import Derived.Below
import Derived.Carry
import Derived.ChangeSame
import Derived.Lib.SmallJoins
open Bool renaming and_eq_true->Ch
open Go.DataW renaming trod->gE,Trod->gU
open Go.Proofs.YtcandeobhlfkbaaGreat.AV renaming bool->Cb,int->Cd,str->Ce
open Go.Value renaming okWide->gJ
open List renaming all_eq_true->Cv,mem_append->C4,map_nil->Fi,map_append->Ij
open Nat renaming zero_le->Co
open Option renaming getD_some->fQ
open Rat renaming intCast_mul->Em,intCast_add->Sy
namespace Go.Proofs.YtcandeobhlfkbaaGreat
section
open Go Go.Proofs.Tryz Go.ChangeShapes Go.WideShapes Go.ChangeAt Go.RowKit
set_option maxRecDepth 100000
theorem Asj {f:FuncId} {args:List AV} {W:World} {vs:Array Value} (h:cL prog f args [] [] 0=some (.bool true,[],[],0)) (hv:VRs (C0 W) args vs.toList) :
  Calls prog f vs W fun e w'=>e=.returned (.bool true)/\Below W.heap.size W w':=by
 refine (Wk mixed h (C:=C0 W) rfl rfl rfl Aq8 hv).mono ?_;rintro e w' ⟨v,C',rfl,rfl,hle,-,-,-,-,hr⟩;simp only [VR] at hr;refine ⟨by rw [hr],⟨hle.os,hle.tape,hle.output,hle.size,fun b hb=>hle.keep b hb fun o hm=>Ye hm⟩⟩
def types:List TypeId:=[4,3,9,48,25,36,38,22]
theorem closed:Abi prog types=true:=aL
theorem Aln {n:Int} (h:(Lit.int .i64 n).wf=true):i64 n:=by
 simp only [Lit.wf,Ch,decide_eq_true_eq] at h;exact ⟨h.1,h.2⟩
theorem Aqy {avs:List AV} (h:Sh prog 48 avs):∃ c:ByteArray × Int,avs=Bi c/\i64 c.2:=by
 obtain ⟨p0,p1,rfl,h0,h1⟩:=Pv underlying48 h;obtain ⟨s,rfl,-⟩:=As9 underlying9 h0;obtain ⟨n,rfl,hn⟩:=Ao2 underlying3 h1;exact ⟨(s,n),rfl,Aln hn⟩
theorem An2 {avs:List AV} (h:Sh prog 25 avs):∃ cs:List (ByteArray × Int),avs=[Ag cs]/\∀ c ∈ cs,i64 c.2:=by
 obtain ⟨es,rfl,h1,-⟩:=Ae1 underlying25 h;obtain ⟨cs,rfl,h2⟩:=Aj1 (f:=Bi) (Q:=fun c=>i64 c.2) fun x hx=>Aqy (h1 x hx);exact ⟨cs,rfl,h2⟩
def rowI (r:RowT):Prop:=i64 r.2.1/\∀ c ∈ r.1,i64 c.2
theorem As8 {avs:List AV} (h:Sh prog 38 avs):∃ r:RowT,avs=rowC r/\rowI r:=by
 obtain ⟨p0,p1,rfl,h0,h1⟩:=Pv underlying38 h;obtain ⟨q0,q1,rfl,g0,g1⟩:=Pv underlying36 h0;obtain ⟨cs,rfl,hc⟩:=An2 g0;obtain ⟨n,rfl,hn⟩:=Ao2 underlying3 g1;obtain ⟨b,rfl⟩:=Aqx underlying4 h1;exact ⟨(cs,n,b),rfl,Aln hn,hc⟩
section
variable {H:Type} {enc:TypeId × Value->H} {w:World} {r:Go.Reach} {b0:Nat} {sp:Nat->Bool} {iu:Bool} {v:Value} {d:DataW H} {p:List MemPlace}
theorem read {t:TypeId} (ht:t ∈ types) (h:gU enc prog w 0 sp iu t v d p):∃ avs,Sh prog t avs/\PRs w (C0 w).Avoid avs v.cells.toList :=
 Aqg closed (fun b o v h=>absurd h V1) ht h
theorem Akb (hv:gJ prog w r b0 22 v) (h:gU enc prog w 0 sp iu 22 v d p):∃ l:List RowT,VR (C0 w) (Ap l) v/\(∀ r ∈ l,rowI r)/\l.length<=maxLen:=by
 obtain ⟨avs,h1,h2⟩:=read (by simp [types]) h;obtain ⟨es,rfl,h3,h5⟩:=Ae1 underlying22 h1;obtain ⟨l,rfl,h4⟩:=Aj1 (f:=rowC) (Q:=rowI) fun x hx=>As8 (h3 x hx);obtain ⟨a,n,c,rfl⟩:=okWide_slice underlying22 hv;exact ⟨l,Asq rfl h2,h4,by simpa using h5⟩
theorem Ani (hv:gJ prog w r b0 3 v) (h:gU enc prog w 0 sp iu 3 v d p):∃ n:Int,VR (C0 w) (.prim (.int .i64 n)) v/\i64 n:=by
 obtain ⟨k,rfl⟩:=okWide_int underlying3 hv;obtain ⟨fuel,hf⟩:=h;obtain ⟨k',hk,-,hw⟩:=DataW.trod_int underlying3 hf;have e:k=k':=by simpa [Value.cells] using hk
 subst e;exact ⟨k,bM,Aln hw⟩
end
section
variable {H:Type} {enc:TypeId × Value->H} {P:Program}
theorem Xn {f:Func} {s:ChangeSpec} {apart fresh yz again:Bool} {W W':World} {args:Array Value} {v:Value} {ds gs:List (DataW H)} {before pa pv:List MemPlace}
  (hW:DataW.Whole enc P f.params.toList s.vars apart W args.toList ds gs before)
  (a1p:∀ (b:Nat) (sp:Nat->Bool) (hd:Bool),DataW.TrodAll enc P W' b sp hd f.resultTypes.toList (v.resultList f.resultTypes.size) (s.fn H (ds++gs)).results [])
  (aa:∀ sp:Nat->Bool,(∀ p ∈ before,sp p.block=true)->DataW.TrodAll enc P W' 0 sp true f.params.toList args.toList (s.fn H (ds++gs)).args pa)
  (zn:∀ sp:Nat->Bool,(∀ p ∈ before,sp p.block=true)->DataW.TrodVars enc P W' sp s.vars (s.fn H (ds++gs)).vars pv)
  (ot:before=pa++pv) (hb:Below W.heap.size W W')
  (hok:∀ (j:Nat) (t:TypeId) (r:Value),f.resultTypes[j]?=some t->(v.resultList f.resultTypes.size)[j]?=some r->gJ P W' .any 0 t r) :
  s.post enc P f apart fresh yz again W args v W':=by
 have hlt:∀ p ∈ before,p.block<W.heap.size:=fun p hp=>hW.lt p hp;have ek:∀ p ∈ before,(fun b=>decide (b<W.heap.size)) p.block=true:=fun p hp=>by simpa using hlt p hp
 refine ⟨ds,gs,before,[],pa,pv,hW,a1p _ _ _,aa _ ek,zn _ ek,World.keptBut_mono (fun p hp=>⟨hp,?_⟩) (hb.frame (· ∈ before)),fun _=>?_⟩
 ·rw [ot,C4] at hp;exact Or.inr hp
 ·obtain ⟨_,_,_,_,_,hz,hn⟩:=hW;refine ⟨hok,_,_,([]++pa)++pv,⟨[]++pa,pv,trodAll_append (aa _ (fun _ _=>rfl)) (a1p _ _ _),zn _ (fun _ _=>rfl),rfl,?_,?_⟩,?_⟩
  ·intro b off hp;have fv:MemPlace.cell b off ∈ before:=by rw [ot]; simpa using hp
   rw [hb.frozen (hlt _ fv)];exact hz b off fv
  ·intro ha;have:=hn ha;rw [ot] at this;exact Ya15
  ·intro p hp _;rw [ot];simpa using hp
end
theorem Akz {H:Type} {enc:TypeId × Value->H} {W:World} {base:Nat} {sp:Nat->Bool} {iu:Bool} (b:Bool):gU enc prog W base sp iu 4 (.bool b) (.lit (.bool b)) []:=⟨1,by simp [gE,Value.cells,underlying4]⟩
theorem Ab8 {W:World} (c:Bool):gJ prog W .any 0 4 (.bool c):=by simp [gJ,underlying4,Cell.okWide,Cell.ok]
theorem Try.own:ownKnob prog.godebug=none:=aL
theorem Try.laidOut:laidOutB prog=true:=aL
end
section
open Go Go.Proofs.Tryz
set_option maxHeartbeats 4000000
set_option maxRecDepth 100000
theorem Amo {ok:Bool} {n:Int} (h:(chk ok n).2=true):(chk ok n).1=n/\inB n=true:=by
 unfold chk at h ⊢;split
 ·rename_i hc;rw [Ch] at hc;exact ⟨rfl,hc.2⟩
 ·rename_i hc;rw [if_neg hc] at h; cases h
theorem Ud {pt:Pt} : ∀ {cs:List (ByteArray × Int)} {s:Int},inB s=true->(Ee pt s cs).2=true->inB (Ee pt s cs).1=true
 | [],s,h,_=>h
 | c :: r,s,h,h2=>by
  unfold Ee at h2 ⊢;split
  ·rename_i g1;rw [if_pos g1] at h2;split
   ·rename_i g2;rw [if_pos g2] at h2;have:=Amo g2;exact Ud (by unfold addS; rw [this.1]; exact this.2) h2
   ·rename_i g2;rw [if_neg g2] at h2; cases h2
  ·rename_i g1;rw [if_neg g1] at h2; cases h2
theorem Aot (p:Pt):∀ cs:List (ByteArray × Int),((lv p cs:Int):Rat)=linV (fun s=>((findS s p:Int):Rat)) cs
 | []=>by simp [lv,linV]
 | c :: r=>by rw [lv,linV,Sy,Em,Aot p r]
theorem As5 {l:List RowT} {p:Pt} (h:satF l p=true):Sat (fun s=>((findS s p:Int):Rat)) l:=by
 intro r hr;have h1:=Aev (Cv.1 h r hr);have e:valR (fun s=>((findS s p:Int):Rat)) r=((r.2.1+lv p r.1:Int):Rat):=by
  unfold valR;rw [<- Aot,Sy]; grind
 rw [e];refine ⟨?_,fun hq=>?_⟩
 ·have:=Rat.intCast_le_intCast.2 h1.1;exact Ya15
 ·rw [h1.2 hq]; rfl
theorem Acj {p:Pt} {r:RowT} (h:Aat p r=true):B5 r.1 r.2.1=0/\∃ x:Int,Hz r.1 r.2.1 p=(x,true)/\x<=0/\(r.2.2=true->x=0)/\inB x=true:=by
 unfold Aat at h;rw [Ch,Ch] at h;obtain ⟨h1,h2,h3⟩:=h;have hc:B5 r.1 r.2.1=0:=by
  by_cases hc:B5 r.1 r.2.1=0
  ·exact hc
  ·unfold Hz at h1; rw [if_neg hc] at h1; cases h1
 have hv:Hz r.1 r.2.1 p=Ee p r.2.1 r.1:=by unfold Hz; rw [if_pos hc]
 refine ⟨hc,(Hz r.1 r.2.1 p).1,Prod.ext rfl h1,bR,fun hq=>by rw [hq] at h3; simpa using h3,?_⟩;rw [hv] at h1 ⊢;exact Ud (J5.2 (by have:=(Y6 hc).1; omega)) h1
section
variable (S:List Ent) (tk:List Nat) (k:Nat)
theorem M6 (l:List RowT) (most:Int):cL prog 4 [Ap l,.int most] S tk k=some (.bool true,S,tk,k):=by
 have hQ:=fun S tk k=>told2 (Ag8 S tk k l most);have hA:=fun S tk k=>Ag6 S tk k;simp only [Ap] at hQ;refine opP func4 ntmps4 (hp3:=rfl) ?_;cases bj:Aap l most with
 | false =>
  rw [bj] at hQ;simp (maxSteps:=10^6)+contextual(disch:=try exact dqd)only[ev2,simprocAttr,Cd,Cb,Ce,results4,Ap,hQ,hA]
 | true =>
 rw [bj] at hQ;obtain ⟨g1,g2⟩:=Af1 (Acc bj);have hF:=fun S tk k=>J8 S tk k l .unk most;simp only [fndA,Ap] at hF;cases hf:fndF l most with
 | none =>
  rw [hf] at hF;simp only [Ag,Option.getD_none,Option.isSome_none,Fi] at hF;simp (maxSteps:=10^6)+contextual(disch:=try exact dqd)only[ev2,simprocAttr,Cd,Cb,Ce,results4,Ap,hQ,hF,hA]
 | some p =>
 rw [hf] at hF;simp only [Ag,fQ,Option.isSome_some] at hF;obtain ⟨q1,q2,-,-⟩:=Zo hf;have hs:=(Xk q1).1;have hp6:=Ap8 hf;obtain ⟨b,hb,hE⟩:=Ap1 (l:=l) aA hs;have hb1:b=true:=hb.2 ⟨_,As5 q2⟩;subst hb1;have hL:=fun S tk k=>told2 (hE S tk k);simp only [Ap] at hL;simp (maxSteps:=10^6)+contextual(disch:=try exact dqd)only[ev2,simprocAttr,Cd,Cb,Ce,results4,Ap,hQ,hF,hL];refine loop1 (P:=prog) (fun x st=>st.T.length=86/\(x<=l.length)/\getT st.T 0=Ap l/\getT st.T 5=Ag p/\getT st.T 7=.bool true/\getT st.T 8=.int 0/\getT st.T 9=.int (x:Nat)/\st.S=[]) (fun x=>l.length - x) (fun x=>.bool true) (0) ?_ ?_;case refine_2=>exact ⟨rfl,Co _,rfl,rfl,rfl,rfl,rfl,rfl⟩
 rintro i ⟨T,S',tk',n'⟩ ⟨hl,hi,e0,e5,e7,e8,e9,eS⟩ IH;subst eS;obtain ⟨g,hg,hT⟩:=Au hl;rw [hg] at e0 e5 e7 e8 e9;subst hT;clear hg hl;have hw:=Bb (i:=i) aA;by_cases hlt:i<l.length
 ·have d1:decide ((i:Int)<(l.length:Int))=true:=aI
  obtain ⟨r,hx⟩:=Af hlt;have hx':=G1 hx;have pq:=Am hx;have hg:=g2 r pq;obtain ⟨hc0,x,hvx,qd,hxq,hxi⟩:=Acj (Cv.1 q2 r pq);have hV:=fun S tk k=>told2 (P5 S tk k r.1 r.2.1 p aA aA);have hI:=fun S tk k=>told2 (Ac3 S tk k x);have hC:=fun S tk k=>told2 (U0 S tk k r.1 r.2.1);rw [hvx] at hV;rw [hxi] at hI;rw [hc0] at hC;simp only [rowC,Ag] at hx';simp only [linA,Ag] at hV hC;have c1:decide (x > 0)=false:=aB
  cases hq:r.2.2 with
  | true =>
   have c2:(x != 0)=false:=by simp [hxq hq]
   rw [hq] at hx';simp (maxSteps:=10^6)+contextual(disch:=try exact dqd)only[ev2,simprocAttr,Cd,Cb,Ce,results4,e0,e5,e7,e8,e9,d1,Ap,Ag,hx',hV,hI,hC,c1,c2,hw];exact IH (i+1) _ aF ⟨rfl,hlt,aQ,aQ,aQ,aQ,aQ,aQ⟩
  | false =>
   rw [hq] at hx';simp (maxSteps:=10^6)+contextual(disch:=try exact dqd)only[ev2,simprocAttr,Cd,Cb,Ce,results4,e0,e5,e7,e8,e9,d1,Ap,Ag,hx',hV,hI,hC,c1,hw];exact IH (i+1) _ aF ⟨rfl,hlt,aQ,aQ,aQ,aQ,aQ,aQ⟩
 ·have d1:decide ((i:Int)<(l.length:Int))=false:=aI
  simp (maxSteps:=10^6)+contextual(disch:=try exact dqd)only[ev2,simprocAttr,Cd,Cb,Ce,results4,e0,e5,e7,e8,e9,d1,Ap,hA]
end
end
end Go.Proofs.YtcandeobhlfkbaaGreat
