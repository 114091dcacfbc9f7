/- Part 25. -/
import Derived.Test.YthelkgdmgihhiaaGreatZB24
import Derived.Test.YthelkgdmgihhiaaGreatRows
import Derived.ProofKit
import Derived.Below
import Derived.Carry
import Derived.ChangeSame
import Derived.Lib.SmallJoins
open Bool renaming and_eq_true->Ci,or->Ck,false_eq_true->C5,or_false->Fs,or_assoc->F7,or_eq_true->Ht,false_or->I5,false_ne_true->Nz,eq_iff_iff->iB,not_eq_true->iZ
open Go.DataW renaming trod->iF,Trod->iY
open Go.IntKind renaming i64->Ce
open Go.Proofs.YthelkgdmgihhiaaGreat.AV renaming bool->Ca,int->Cc,str->Cd
open Go.Value renaming okWide->iN
open List renaming replicate->Cg,length_cons->Cm,map_cons->Cn,cons_append->Cp,length_append->Cs,map_nil->Ct,getElem?_append_left->Cu,mem_append->Cw,nil_append->Cz,getElem?_append_right->C3,mem_cons->C6,length_nil->C7,drop_length->C9,take_of_length_le->Dc,getElem?_eq_none->Et,length_eq_zero_iff->Fc,mem_map->Fg,append_assoc->Fh,getElem?_eq_some_iff->Fk,append_nil->Fp,pairwise_cons->Fz,mem_singleton->F0,getElem?_map->F1,take_length->F2,map_append->F6,length_map->F8,length_take->Im,mem_of_getElem?->Iq,getElem?_cons_zero->M2,length_pos_iff->Oe,take->Oq,mem_of_mem_take->Su,getElem?_of_mem->Sv,singleton_append->fZ,Pairwise->jF,drop->jW
open Nat renaming le_refl->Cf,zero_le->Cl,mul_one->Fa,zero_add->Fo,add_zero->Io,sub_self->Mg
open Ne renaming symm->O3
open Option.some renaming injEq->A3
open Prod.mk renaming injEq->Ch
namespace Go.Proofs.YthelkgdmgihhiaaGreat
section
open Go Go.Proofs.Tryz Go.ChangeShapes Go.WideShapes Go.ChangeAt Go.RowKit
set_option maxRecDepth 100000
theorem Axg {f:FuncId} {args:List AV} {W:World} {vs:Array Value} (h:cL prog f args [] [] 0=some (.bool true,[],[],0)) (hv:VRs (C0 W) args vs.toList) :
  Calls prog f vs W fun e w'=>e=.returned (.bool true)/\Below W.heap.size W w':=by
 refine (Afj mixed h (C:=C0 W) rfl rfl rfl Av2 hv).mono ?_;rintro e w' ⟨v,C',rfl,rfl,hle,-,-,-,-,hr⟩;simp only [VR] at hr;refine ⟨by rw [hr],⟨hle.os,hle.tape,hle.output,hle.size,fun b hb=>hle.keep b hb fun o hm=>Z1 hm⟩⟩
def types:List TypeId:=[4,3,9,67,23,28,30,22,24]
theorem closed:Ads prog types=true:=aJ
theorem Atb {n:Int} (h:(Lit.int .i64 n).wf=true):i64 n:=by
 simp only [Lit.wf,Ci,decide_eq_true_eq] at h;exact ⟨h.1,h.2⟩
theorem An5 {avs:List AV} (h:Sh prog 67 avs):∃ c:ByteArray × Int,avs=coefC c/\i64 c.2:=by
 obtain ⟨p0,p1,rfl,h0,h1⟩:=Qw underlying67 h;obtain ⟨s,rfl,-⟩:=Ayg underlying9 h0;obtain ⟨n,rfl,hn⟩:=As9 underlying3 h1;exact ⟨(s,n),rfl,Atb hn⟩
theorem Arx {avs:List AV} (h:Sh prog 23 avs):∃ cs:List (ByteArray × Int),avs=[Ag cs]/\∀ c ∈ cs,i64 c.2:=by
 obtain ⟨es,rfl,h1,-⟩:=Zp underlying23 h;exact Ya1p
def rowI (r:RowT):Prop:=i64 r.2.1/\∀ c ∈ r.1,i64 c.2
theorem Ayf {avs:List AV} (h:Sh prog 30 avs):∃ r:RowT,avs=rowC r/\rowI r:=by
 obtain ⟨p0,p1,rfl,h0,h1⟩:=Qw underlying30 h;obtain ⟨q0,q1,rfl,g0,g1⟩:=Qw underlying28 h0;obtain ⟨cs,rfl,hc⟩:=Arx g0;obtain ⟨n,rfl,hn⟩:=As9 underlying3 g1;obtain ⟨b,rfl⟩:=Avl underlying4 h1;exact ⟨(cs,n,b),rfl,Atb hn,hc⟩
section
variable {H:Type} {enc:TypeId × Value->H} {w:World} {r:Go.Reach} {b0:Nat} {sp:Nat->Bool} {jt:Bool} {v:Value} {d:DataW H} {p:List MemPlace}
theorem read {t:TypeId} (ht:t ∈ types) (h:iY enc prog w 0 sp jt t v d p):∃ avs,Sh prog t avs/\PRs w (C0 w).Avoid avs v.cells.toList :=
 Au6 closed (fun b o v h=>absurd h Xy) ht h
theorem Ach (hv:iN prog w r b0 22 v) (h:iY enc prog w 0 sp jt 22 v d p):∃ l:List RowT,VR (C0 w) (An l) v/\(∀ r ∈ l,rowI r)/\l.length<=maxLen:=by
 obtain ⟨avs,h1,h2⟩:=read (by simp [types]) h;obtain ⟨es,rfl,h3,h5⟩:=Zp underlying22 h1;obtain ⟨l,rfl,h4⟩:=Ags (f:=rowC) (Q:=rowI) fun x hx=>Ayf (h3 x hx);obtain ⟨a,n,c,rfl⟩:=okWide_slice underlying22 hv;exact ⟨l,As3 rfl h2,h4,by simpa using h5⟩
theorem Ary {avs:List AV} (h:Sh prog 24 avs):∃ cs:List (ByteArray × Int),avs=[Ag cs]/\∀ c ∈ cs,i64 c.2:=by
 obtain ⟨es,rfl,h1,-⟩:=Zp underlying24 h;exact Ya1p
theorem Aem (hv:iN prog w r b0 24 v) (h:iY enc prog w 0 sp jt 24 v d p):∃ pt:List (ByteArray × Int),VR (C0 w) (Ag pt) v/\∀ c ∈ pt,i64 c.2:=by
 obtain ⟨avs,h1,h2⟩:=read (by simp [types]) h;obtain ⟨cs,rfl,h3⟩:=Ary h1;obtain ⟨a,n,c,rfl⟩:=okWide_slice underlying24 hv;exact ⟨cs,As3 rfl h2,h3⟩
end
section
variable {H:Type} {enc:TypeId × Value->H} {P:Program}
theorem Zd {f:Func} {s:ChangeSpec} {apart fresh zy again:Bool} {W W':World} {args:Array Value} {v:Value} {ds gs:List (DataW H)} {before pa pv:List MemPlace}
  (hW:DataW.Whole enc P f.params.toList s.vars apart W args.toList ds gs before)
  (jg:∀ (b:Nat) (sp:Nat->Bool) (hd:Bool),DataW.TrodAll enc P W' b sp hd f.resultTypes.toList (v.resultList f.resultTypes.size) (s.fn H (ds++gs)).results [])
  (aa:∀ sp:Nat->Bool,(∀ p ∈ before,sp p.block=true)->DataW.TrodAll enc P W' 0 sp true f.params.toList args.toList (s.fn H (ds++gs)).args pa)
  (a0g:∀ sp:Nat->Bool,(∀ p ∈ before,sp p.block=true)->DataW.TrodVars enc P W' sp s.vars (s.fn H (ds++gs)).vars pv)
  (qp:before=pa++pv) (hb:Below W.heap.size W W')
  (ae:∀ (j:Nat) (t:TypeId) (r:Value),f.resultTypes[j]?=some t->(v.resultList f.resultTypes.size)[j]?=some r->iN P W' .any 0 t r) :
  s.post enc P f apart fresh zy again W args v W':=by
 have hlt:∀ p ∈ before,p.block<W.heap.size:=fun p hp=>hW.lt p hp;have fy:∀ p ∈ before,(fun b=>decide (b<W.heap.size)) p.block=true:=fun p hp=>by simpa using hlt p hp
 refine ⟨ds,gs,before,[],pa,pv,hW,jg _ _ _,aa _ fy,a0g _ fy,World.keptBut_mono (fun p hp=>⟨hp,?_⟩) (hb.frame (· ∈ before)),fun _=>?_⟩
 ·rw [qp,Cw] at hp;exact Or.inr hp
 ·obtain ⟨_,_,_,_,_,hz,hn⟩:=hW;refine ⟨ae,_,_,([]++pa)++pv,⟨[]++pa,pv,trodAll_append (aa _ (fun _ _=>rfl)) (jg _ _ _),a0g _ (fun _ _=>rfl),rfl,?_,?_⟩,?_⟩
  ·intro b off hp;have bc:MemPlace.cell b off ∈ before:=by rw [qp]; simpa using hp
   rw [hb.frozen (hlt _ bc)];exact hz b off bc
  ·intro ha;have:=hn ha;rw [qp] at this;exact Ya1f
  ·intro p hp _;rw [qp];simpa using hp
end
theorem An8 {H:Type} {enc:TypeId × Value->H} {W:World} {base:Nat} {sp:Nat->Bool} {jt:Bool} (b:Bool):iY enc prog W base sp jt 4 (.bool b) (.lit (.bool b)) []:=⟨1,by simp [iF,Value.cells,underlying4]⟩
theorem Ael {W:World} (c:Bool):iN prog W .any 0 4 (.bool c):=by simp [iN,underlying4,Cell.okWide,Cell.ok]
theorem Try.own:ownKnob prog.godebug=none:=aJ
theorem Try.laidOut:laidOutB prog=true:=aJ
end
section
open Go Go.Proofs.Tryz
set_option maxRecDepth 100000
theorem Ait {l:List RowT} {i:Nat} {r:RowT} (h:nth l i=some r):D7 (l.take (i+1))=D7 (l.take i)++r.1.map (·.1):=by
 rw [Db h,Ais]
theorem Aqp {l:List RowT} (h:fewC l) (i:Nat):fewC (l.take i):=fun r hr=>h r (Su hr)
theorem Aue {l:List RowT} (h:fewC l) (hl:l.length<=64) (i:Nat):(D7 (l.take i)).length<=1536:=by
 have h1:=Acb (Aqp h i);have:(l.take i).length<=64:=aC
 omega
section
variable (S:List Ent) (tk:List Nat) (k:Nat)
theorem Ec (l:List RowT) (hf:fewC l) (hl:l.length<=64):cL prog 41 [An l] S tk k=some (Bc (varsF l),S,tk,k):=by
 refine opP func41 ntmps41 ?_;simp (maxSteps:=10^6)+contextual(disch:=try exact dqd)only[ev1,simprocAttr,Cc,Ca,Cd,results41,An];refine loop1 (P:=prog) (fun x st=>st.T.length=31/\(x.1<=l.length)/\(x.2.1=D7 (l.take x.1))/\(Be st.tk x.2.2 1=true)/\((!x.2.1.isEmpty || Ut x.2.2)=true)/\getT st.T 3=.frz (x.2.1.map strC) x.2.2/\getT st.T 8=An l/\getT st.T 9=.int l.length/\getT st.T 10=.int (x.1:Nat)/\st.S=[]) (fun x=>l.length - x.1) (fun x=>Bc (varsF l)) (0,[],.nilc) ?_ ?_;case refine_2=>exact ⟨rfl,Cl _,rfl,rfl,rfl,rfl,rfl,rfl,rfl,rfl⟩
 rintro ⟨i,out,c⟩ ⟨T,S',tk',n'⟩ ⟨hl,hi,ho,ae,hc,e3,e8,e9,e10,eS⟩ IH;simp only at hi ho ae hc e3 e8 e9 e10 eS;subst eS;obtain ⟨g,hg,hT⟩:=Ao hl;rw [hg] at e3 e8 e9 e10;subst hT;clear hg hl;have OUT:=IH;clear IH;have bz:=Ar (i:=i) aA;have ub:=Aue hf hl i;by_cases hlt:i<l.length
 ·have d1:decide ((i:Int)<(l.length:Int))=true:=aH
  obtain ⟨r,hx⟩:=Ab hlt;have hx':=Jz hx;have jp:=hf r (Ei hx);have lj:=Ait hx;simp only [rowC,Ag] at hx';simp (maxSteps:=10^6)+contextual(disch:=try exact dqd)only[ev1,simprocAttr,Cc,Ca,Cd,results41,e3,e8,e9,e10,d1,An,hx'];refine loop1 (P:=prog) (fun x st=>st.T.length=31/\(x.1<=r.1.length)/\(x.2.1=D7 (l.take i)++(r.1.take x.1).map (·.1))/\(Be st.tk x.2.2 1=true)/\((!x.2.1.isEmpty || Ut x.2.2)=true)/\getT st.T 3=.frz (x.2.1.map strC) x.2.2/\getT st.T 8=An l/\getT st.T 9=.int l.length/\getT st.T 10=.int (i:Nat)/\getT st.T 16=.frz (r.1.map coefC) .unk/\getT st.T 17=.int r.1.length/\getT st.T 18=.int (x.1:Nat)/\st.S=[⟨n',[.frz (r.1.map coefC) .unk,.int r.2.1,.bool r.2.2]⟩]) (fun x=>r.1.length - x.1) (fun x=>Bc (varsF l)) (0,out,c) ?_ ?_;case refine_2=>exact ⟨rfl,Cl _,by simp [ho],ae,hc,rfl,rfl,rfl,rfl,rfl,rfl,rfl,rfl⟩
  rintro ⟨j,out2,c2⟩ ⟨T,S',tk',n'⟩ ⟨hl,hj,np,ff,hc2,e3,e8,e9,e10,e16,e17,e18,eS⟩ IH;simp only at hj np ff hc2 e3 e8 e9 e10 e16 e17 e18 eS;subst eS;obtain ⟨g,hg,hT⟩:=Ao hl;rw [hg] at e3 e8 e9 e10 e16 e17 e18;subst hT;clear hg hl;have hjw:=Ar (i:=j) aA;have q9:out2.length<=1600:=by rw [np]; simp; omega
  have hr:=Ai7 out2;have bu:=Bw ff;have cd:(out2.map strC).length+1<=1048576:=aC
  by_cases cu:j<r.1.length
  ·have d2:decide ((j:Int)<(r.1.length:Int))=true:=cQ
   obtain ⟨q,hq⟩:=Ab cu;have m9:=Agu hq;simp only [coefC] at m9;have u9:=Db hq;simp (maxSteps:=10^6)+contextual(disch:=try exact dqd)only[ev1,simprocAttr,Cc,Ca,Cd,results41,e3,e8,e9,e10,e16,e17,e18,d2,m9,hjw,hr];exact IH (j+1,out2++[q.1],A4 tk' c2 1) _ aF ⟨rfl,aE,by rw [u9,F6,<- Fh,np]; rfl,bu,by simp,aZ,aZ,aZ,aZ,aZ,aZ,aZ,aZ⟩
  ·have d2:decide ((j:Int)<(r.1.length:Int))=false:=cQ
   have hje:j=r.1.length:=aA
   subst hje;rw [F2] at np;simp (maxSteps:=10^6)+contextual(disch:=try exact dqd)only[ev1,simprocAttr,Cc,Ca,Cd,results41,e3,e8,e9,e10,e16,e17,e18,d2,bz];exact OUT (i+1,out2,c2) _ aF ⟨rfl,aE,by rw [lj,np],ff,hc2,aZ,aZ,aZ,aZ,aZ⟩
 ·have d1:decide ((i:Int)<(l.length:Int))=false:=aH
  have fm:i=l.length:=aA
  subst fm;rw [F2] at ho ub;have hU S tk k:=Aeh S tk k out c (by rw [ho]; omega) hc;simp only [Bc] at hU;simp (maxSteps:=10^6)+contextual(disch:=try exact dqd)only[ev1,simprocAttr,Cc,Ca,Cd,results41,e3,e8,e9,e10,d1,An,hU];rw [ho]; rfl
def G3:List RowT->Int
 | []=>0
 | r :: l=>if Az r.1 r.2.1 != 0 then Az r.1 r.2.1 else G3 l
def sysE (l:List RowT):Int:=if 64<l.length then 7 else if G3 l != 0 then G3 l else if 24<(varsF l).length then 7 else 0
theorem J4 {cs:List (ByteArray × Int)} {n:Int} (h:Az cs n=0):cs.length<=24:=by
 unfold Az at h;split at h
 ·cases h
 ·omega
theorem Ud:∀ {l:List RowT},G3 l=0->fewC l
 | [],_=>fun r hr=>by simp at hr
 | r :: l,h=>by
  unfold G3 at h;by_cases h0:Az r.1 r.2.1=0
  ·rw [h0] at h;simp only [bne_self_eq_false,C5,if_false] at h;intro x hx;rcases C6.1 hx with rfl|hx
   ·exact J4 h0
   ·exact Ud h x hx
  ·exact Ya20
theorem G9 (l:List RowT) (dp:∀ r ∈ l,r.1.length<=1048576):cL prog 18 [An l] S tk k=some (.int (sysE l),S,tk,k):=by
 refine opP func18 ntmps18 ?_;by_cases h64:64<l.length
 ·have d0:decide ((l.length:Int) > 64)=true:=aC
  simp (maxSteps:=10^6)+contextual(disch:=try exact dqd)only[ev1,simprocAttr,Cc,Ca,Cd,results18,An,d0];simp [sysE,h64]
 have d0:decide ((l.length:Int) > 64)=false:=aC
 simp (maxSteps:=10^6)+contextual(disch:=try exact dqd)only[ev1,simprocAttr,Cc,Ca,Cd,results18,An,d0];refine loop1 (P:=prog) (fun x st=>st.T.length=26/\(x<=l.length)/\(G3 l=G3 (l.drop x))/\getT st.T 0=An l/\getT st.T 9=An l/\getT st.T 10=.int l.length/\getT st.T 11=.int (x:Nat)/\st.S=[]) (fun x=>l.length - x) (fun x=>.int (sysE l)) (0) ?_ ?_;case refine_2=>exact ⟨rfl,Cl _,rfl,rfl,rfl,rfl,rfl,rfl⟩
 rintro i ⟨T,S',tk',n'⟩ ⟨hl,hi,hE,e0,e9,e10,e11,eS⟩ IH;subst eS;obtain ⟨g,hg,hT⟩:=Ao hl;rw [hg] at e0 e9 e10 e11;subst hT;clear hg hl;have bz:=Ar (i:=i) aA;by_cases hlt:i<l.length
 ·have d1:decide ((i:Int)<(l.length:Int))=true:=aH
  obtain ⟨r,hx⟩:=Ab hlt;have hx':=Jz hx;have hC S tk k:=Ed S tk k r.1 r.2.1 (dp r (Ei hx));simp only [rowC,Ag] at hx';simp only [linA,Ag] at hC;rw [Au hx,G3] at hE;generalize Az r.1 r.2.1=e at *;cases h0:(e != 0) with
  | true =>
   simp (maxSteps:=10^6)+contextual(disch:=try exact dqd)only[ev1,simprocAttr,Cc,Ca,Cd,results18,e0,e9,e10,e11,d1,An,hx',hC,bz,h0];rw [h0,if_pos rfl] at hE;unfold sysE;rw [if_neg h64,hE,if_pos h0]
  | false =>
   rw [h0,if_neg (by simp)] at hE;simp (maxSteps:=10^6)+contextual(disch:=try exact dqd)only[ev1,simprocAttr,Cc,Ca,Cd,results18,e0,e9,e10,e11,d1,An,hx',hC,bz,h0];exact IH (i+1) _ aF ⟨rfl,aE,hE,aZ,aZ,aZ,aZ,aZ⟩
 ·have d1:decide ((i:Int)<(l.length:Int))=false:=aH
  have fm:i=l.length:=aA
  subst fm;rw [C9] at hE;have uj:G3 l=0:=hE;have hV S tk k:=Ec S tk k l (Ud uj) aA;have hs:sysE l=if 24<(varsF l).length then 7 else 0:=by unfold sysE; rw [if_neg h64,uj]; rfl
  rw [hs];simp only [An,Bc] at hV;by_cases h24:24<(varsF l).length
  ·have d2:decide (((varsF l).length:Int) > 24)=true:=aC
   simp (maxSteps:=10^6)+contextual(disch:=try exact dqd)only[ev1,simprocAttr,Cc,Ca,Cd,results18,e0,e9,e10,e11,d1,An,hV,d2];rw [if_pos h24]
  ·have d2:decide (((varsF l).length:Int) > 24)=false:=aC
   simp (maxSteps:=10^6)+contextual(disch:=try exact dqd)only[ev1,simprocAttr,Cc,Ca,Cd,results18,e0,e9,e10,e11,d1,An,hV,d2];rw [if_neg h24]
theorem D8 {l:List RowT} (h:sysE l=0):fewC l/\l.length<=64/\(varsF l).length<=24/\G3 l=0:=by
 unfold sysE at h;split at h
 ·cases h
 ·split at h
  ·rename_i h1 h2; rw [h] at h2; cases h2
  ·rename_i h1 h2;split at h
   ·cases h
   ·have h0:G3 l=0:=bT
    exact ⟨Ud h0,aA,aA,h0⟩
theorem Q9 (l:List RowT) (h:sysE l=0):cL prog 27 [An l] S tk k=some (Bc (varsF l),S,tk,k):=by
 obtain ⟨h1,h2,-,-⟩:=D8 h;have hC S tk k:=G9 S tk k l (fun r hr=>by have:=h1 r hr; omega);have hV S tk k:=Ec S tk k l h1 h2;rw [h] at hC;have d0:((0:Int) != 0)=false:=rfl;simp only [An,Bc] at hC hV;refine opP func27 ntmps27 ?_;simp (maxSteps:=10^6)+contextual(disch:=try exact dqd)only[ev1,simprocAttr,Cc,Ca,Cd,results27,An,Bc,hC,hV,d0]
end
end
section
open Go
def IncC (cs:List (ByteArray × Int)):Prop:=Inc (cs.map (·.1))
theorem Asn:∀ {n:Int} {p:Option ByteArray} {cs:List (ByteArray × Int)},Bn n p cs=0->inB n=true/\∀ c ∈ cs,inB c.2=true
 | n,p,[],h=>by
  unfold Bn at h;split at h
  ·rename_i h1; exact ⟨h1,fun c hc=>by simp at hc⟩
  ·cases h
 | n,p,c :: cs,h=>by
  unfold Bn at h;split at h
  ·cases h
  ·split at h
   ·cases h
   ·rename_i h1;split at h
    ·cases h
    ·obtain ⟨a,b⟩:=Asn h;refine ⟨a,fun x hx=>?_⟩;rcases C6.1 hx with rfl|hx
     ·simp at h1; exact h1.2
     ·exact b x hx
theorem Ame {n:Int} (h:inB n=true):i64 n:=by unfold inB at h; simp at h; unfold i64; omega
theorem L9:∀ {l:List RowT},G3 l=0->∀ r ∈ l,i64 r.2.1/\∀ c ∈ r.1,i64 c.2
 | [],_=>fun r hr=>by simp at hr
 | r :: l,h=>by
  unfold G3 at h;by_cases h0:Az r.1 r.2.1=0
  ·rw [h0] at h;simp only [bne_self_eq_false,C5,if_false] at h;intro x hx;rcases C6.1 hx with rfl|hx
   ·unfold Az at h0;split at h0
    ·cases h0
    ·obtain ⟨a,b⟩:=Asn h0;exact ⟨Ame a,fun c hc=>Ame (b c hc)⟩
   ·exact L9 h x hx
  ·exact Ya20
theorem Ak0:∀ {n:Int} {p:Option ByteArray} {cs:List (ByteArray × Int)},Bn n p cs=0->IncC cs/\∀ c ∈ cs,∀ b,p=some b->nm b<nm c.1
 | n,p,[],h=>⟨jF.nil,fun c hc=>by simp at hc⟩
 | n,p,c :: cs,h=>by
  unfold Bn at h;split at h
  ·cases h
  ·split at h
   ·cases h
   ·split at h
    ·cases h
    ·rename_i h3;obtain ⟨a,b⟩:=Ak0 h;have hc:∀ x ∈ cs,nm c.1<nm x.1:=fun x hx=>b x hx c.1 rfl;refine ⟨Fz.2 ⟨fun y hy=>?_,a⟩,?_⟩
     ·obtain ⟨x,hx,rfl⟩:=Fg.1 hy; exact hc x hx
     ·intro x hx d hd;subst hd;have qa:nm d<nm c.1:=by
       simp only [Pn,Ht,not_or,iZ] at h3;obtain ⟨e1,e2⟩:=h3;rw [Xo] at e1;rw [Pz] at e2;rcases Am9 d c.1 with h|h|h
       ·exact h
       ·exact absurd h.symm (by simpa using e2)
       ·exact absurd h (by simpa using e1)
      rcases C6.1 hx with rfl|hx
      ·exact qa
      ·exact List.lt_trans qa (hc x hx)
theorem Tw {cs:List (ByteArray × Int)} {n:Int} (h:Az cs n=0):IncC cs:=by
 unfold Az at h;split at h
 ·cases h
 ·exact (Ak0 h).1
theorem Abg:∀ {l:List RowT},G3 l=0->∀ r ∈ l,IncC r.1
 | [],_=>fun r hr=>by simp at hr
 | r :: l,h=>by
  unfold G3 at h;by_cases h0:Az r.1 r.2.1=0
  ·rw [h0] at h;simp only [bne_self_eq_false,C5,if_false] at h;intro x hx;rcases C6.1 hx with rfl|hx
   ·exact Tw h0
   ·exact Abg h x hx
  ·exact Ya20
theorem Ak1:∀ {n:Int} {p:Option ByteArray} {cs:List (ByteArray × Int)},Bn n p cs=0->n.natAbs<=1000000000000/\∀ c ∈ cs,c.2.natAbs<=1000000000000/\c.2≠0
 | n,p,[],h=>by
  unfold Bn at h;split at h
  ·rename_i h1;unfold inB at h1;simp at h1;exact ⟨aA,fun c hc=>by simp at hc⟩
  ·cases h
 | n,p,c :: cs,h=>by
  unfold Bn at h;split at h
  ·cases h
  ·split at h
   ·cases h
   ·rename_i h1;split at h
    ·cases h
    ·obtain ⟨a,b⟩:=Ak1 h;refine ⟨a,fun x hx=>?_⟩;rcases C6.1 hx with rfl|hx
     ·unfold inB at h1;simp at h1;exact ⟨aA,h1.1⟩
     ·exact b x hx
theorem Aky {cs:List (ByteArray × Int)} {n:Int} (h:Az cs n=0):n.natAbs<=1000000000000/\∀ c ∈ cs,c.2.natAbs<=1000000000000/\c.2≠0:=by
 unfold Az at h;split at h
 ·cases h
 ·exact Ak1 h
theorem Ho:∀ {l:List RowT},G3 l=0->∀ r ∈ l,Az r.1 r.2.1=0
 | [],_=>fun r hr=>by simp at hr
 | r :: l,h=>by
  unfold G3 at h;by_cases h0:Az r.1 r.2.1=0
  ·rw [h0] at h;simp only [bne_self_eq_false,C5,if_false] at h;intro x hx;rcases C6.1 hx with rfl|hx
   ·exact h0
   ·exact Ho h x hx
  ·exact Ya20
end
section
open Go Go.Proofs.Tryz
open Go.Proofs.Tryz renaming func147->ga2,ntmps147->ga3,results147->ga4
open Go.Proofs.YthelkgdmgihhiaaGreat renaming ceQ->ga0,Aw->ga1,Bx->ga5,A1->ga6
set_option maxRecDepth 100000
namespace QQ
abbrev ua0:Nat:=118
abbrev ua1:Nat:=147
abbrev ua2:Nat:=2
abbrev ua3:Nat:=1
abbrev ua4:Nat:=4
end QQ
set_option maxHeartbeats 4000000
set_option maxRecDepth 100000
namespace QQ
def Ar9 (S:List Ent) (tk:List Nat) (ia ea iq eq:Nat) (l:List Q) (fl:Bool) (r:Rs):Prop :=
 ∃ S' k',r=(.tup [],S',tk,k')/\S'.length=S.length/\entAt S' ia ea=some (flat ceQ l)/\FAq S' iq eq fl/\∀ j,j≠ia->j≠iq->nth S' j=nth S j
end QQ
section
variable (S:List Ent) (tk:List Nat) (k iq eq:Nat) (fl:Bool)
abbrev Ay0 (p:Prop:=by exact ∀ (S:List Ent)(tk:List Nat)(k iq eq:Nat)(fl:Bool)(it et ia ea ij ej W c:Nat)(rest:List AV)(a row:List Q)(ht:entAt S it et=some (.ifc ua0 (rcvQ iq eq) :: rest))(hq:FAq S iq eq fl)(ha:entAt S ia ea=some (flat ga0 a))(hr:entAt S ij ej=some (flat ga0 row))(la:a.length=W)(lr:row.length=W)(hc:c<W)(hWb:W<=1000000)(oa:okL qF a)(orr:okL qF row)(ne1:ia≠ij)(ne2:ia≠it)(ne3:ia≠iq)(ne4:iq≠it)(ne5:iq≠ij),∃ r,cL prog ua1 [.ref it et 0,.sref ia ea 0 W ua2,.sref ij ej 0 W ua2,.int c] S tk k=some r/\Ar9 S tk ia ea iq eq (lessT qF a row c).1 (fl || (lessT qF a row c).2) r):=p
theorem Ma0 {p:Prop} (h:p:=by
 intro S tk k iq eq fl it et ia ea ij ej W c rest a row ht hq ha hr la lr hc hWb oa orr ne1 ne2 ne3 ne4 ne5;obtain ⟨Φ,hΦ⟩:∃ Φ,Φ=Ar9 S tk ia ea iq eq (lessT qF a row c).1 (fl || (lessT qF a row c).2):=⟨_,rfl⟩;rw [<- hΦ];obtain ⟨b,hb⟩:=Ab (show c<a.length by omega);have ob:qF.ok b:=oa b (by rw [Ae] at hb; exact Iq hb);have za:=Ax ga1 hb;have hlt:lessT qF a row c=if sgn b=0 then (a,false) else lessL qF b a row:=by unfold lessT; rw [hb]
 have hs:=Aey S tk k iq eq fl b ob hq;refine opG ga2 ga3 ?_;by_cases h0:sgn b=0
 ·have d1:(sgn b == 0)=true:=aX
  simp (maxSteps:=10^6)+contextual(disch:=try exact dqd)only[evg1,simprocAttr,Cc,Ca,Cd,ga4,ht,ha,hc,za,hs,d1,Ga,xfs,puQ];rw [hlt,if_pos h0] at hΦ;rw [hΦ];exact ⟨S,_,rfl,rfl,ha,by rw [Fs]; exact hq,fun j _ _=>rfl⟩
 have d1:(sgn b == 0)=false:=aX
 rw [hlt,if_neg h0] at hΦ;simp (maxSteps:=10^6)+contextual(disch:=try exact dqd)only[evg1,simprocAttr,Cc,Ca,Cd,ga4,ht,ha,hc,za,hs,d1,Ga,xfs,puQ,ga1,ga5,ovQ];refine Gm (P:=prog) (fun x st=>st.T.length=70/\(lessL qF b a row=(x.2.2.1++(lessL qF b x.2.2.2.1 x.2.2.2.2.1).1,x.2.2.2.2.2 || (lessL qF b x.2.2.2.1 x.2.2.2.2.1).2))/\(x.2.2.1.length+x.2.2.2.1.length=W)/\(x.2.2.2.1.length=x.2.2.2.2.1.length)/\(∃ pr,row=pr++x.2.2.2.2.1/\pr.length=x.2.2.1.length)/\(x.1.length=S.length)/\(entAt x.1 ia ea=some (flat ga0 (x.2.2.1++x.2.2.2.1)))/\(FAq x.1 iq eq (fl || x.2.2.2.2.2))/\(∀ j,j≠ia->j≠iq->nth x.1 j=nth S j)/\(okL qF x.2.2.2.1)/\(okL qF x.2.2.2.2.1)/\getT st.T 0=.ref it et 0/\getT st.T 1=.sref ia ea 0 W ua2/\getT st.T 2=.sref ij ej 0 W ua2/\getT st.T 8=.ref S.length (k+ua3) 0/\getT st.T 27=.int (W:Nat)/\getT st.T 28=.int (x.2.2.1.length:Nat)/\st.S=x.1++[⟨k+ua3,ga0 b⟩]/\st.tk=tk/\st.n=x.2.1) (fun x=>x.2.2.2.2.1.length) (S,(k+ua3+1),([]:List Q),a,row,false) ?_ ?_;case refine_2=>exact ⟨rfl,by simp,bR,la.trans lr.symm,⟨[],rfl,rfl⟩,rfl,ha,by rw [Fs]; exact hq,fun j _ _=>rfl,oa,orr,rfl,rfl,rfl,rfl,rfl,rfl,rfl,rfl,rfl⟩
 rintro ⟨S1,n1,p,u,rs,fp⟩ ⟨T,S',tk',n'⟩ ⟨hl,hR,hW,hu,b7,di,he,hf,hj,ou,ors,e0,e1,e2,e8,e27,e28,eS,eT,eN⟩ IH;simp only at hR hW hu b7 di he hf hj ou ors e0 e1 e2 e8 e27 e28 eS eT eN;subst eS eT eN;obtain ⟨g,hg,hT⟩:=Ao hl;rw [hg] at e0 e1 e2 e8 e27 e28;subst hT;clear hg hl;by_cases cu:p.length<W
 ·have c1:decide ((p.length:Int)<(W:Int))=true:=cQ
  obtain ⟨a0,u,rfl⟩:∃ a0 u',u=a0 :: u':=by
   cases u with
   | nil=>simp at hW; omega
   | cons x u=>exact ⟨x,u,rfl⟩
  obtain ⟨r0,rs,rfl⟩:∃ r0 rs',rs=r0 :: rs':=by
   cases rs with
   | nil=>simp at hu
   | cons x u=>exact ⟨x,u,rfl⟩
  obtain ⟨pr,lm,qq⟩:=b7;have oa0:=ou a0 (by simp);have or0:=ors r0 (by simp);have qd:nth row p.length=some r0:=by rw [lm,<- qq]; exact Er
  have ci:=Ax ga1 qd;have ll:=Ax (ce:=ga0) ga1 (Er (p:=p) (u:=u) (x:=a0));obtain ⟨E,hE⟩:∃ E:Ent,E=⟨k+ua3,ga0 b⟩:=⟨_,rfl⟩;have hbT:entAt (S1++[E]) S.length (k+ua3)=some (ga0 b):=by rw [hE]; exact Al di
  rw [<- hE];have dj:entAt S1 it et=some (.ifc ua0 (rcvQ iq eq) :: rest):=by rw [Ac (hj it ne2.symm ne4.symm)]; exact ht
  have bw:entAt S1 ij ej=some (flat ga0 row):=by rw [Ac (hj ij ne1.symm ne5.symm)]; exact hr
  have htT:entAt (S1++[E]) it et=some (.ifc ua0 (rcvQ iq eq) :: rest):=Ad dj;have hrT:entAt (S1++[E]) ij ej=some (flat ga0 row):=Ad bw;have heT:entAt (S1++[E]) ia ea=some (flat ga0 (p++a0 :: u)):=Ad he;have hfT:=hf.app (L:=[E]);have cz:=Aey (S1++[E]) tk' n' iq eq (fl || fp) r0 or0 hfT;have bh:=Ba he;have xq:rs.length<(r0 :: rs).length:=by simp
  have hw:Ce.wrap ((p.length:Int)+1)=(((p++[a0]).length:Nat):Int):=bU
  by_cases hz:sgn r0=0
  ·have c2:(sgn r0 != 0)=false:=cM
   simp (maxSteps:=10^6)+contextual(disch:=try exact dqd)only[evg1,simprocAttr,Cc,Ca,Cd,ga4,e0,e1,e2,e8,e27,e28,c1,c2,hw,htT,hrT,ci,cu,cz,Ga,xfs,puQ];have ag:J9 qF b a0 r0=(a0,false):=by unfold J9; rw [if_pos hz]
   exact IH (S1,n'+ua3,p++[a0],u,rs,fp) _ aF ⟨rfl,by rw [hR]; simp only [lessL,ag,Fh,Cp,Cz,I5],by show (p++[a0]).length+u.length=W; simp only [Cs,Cm,C7] at hW ⊢; omega,eD,⟨pr++[r0],by rw [lm]; simp,by simp [qq]⟩,di,eE,hf,hj,fun q hq=>ou q cA,fun q hq=>ors q cA,bL,bL,bL,bL,bL,bL,by simp only [hE],rfl,rfl⟩
  ·have c2:(sgn r0 != 0)=true:=cM
   obtain ⟨x,hx⟩:∃ x,x=qF.times b r0:=⟨_,rfl⟩;obtain ⟨y,hy⟩:∃ y,y=qF.minus a0 x.1:=⟨_,rfl⟩;have ru:Ce.wrap ((p.length:Int)+1)=(((p++[y.1]).length:Nat):Int):=bU
   have ox:qF.ok x.1:=by rw [hx]; exact Dk.times _ _ ob or0
   have oy:qF.ok y.1:=by rw [hy]; exact Dk.minus _ _ oa0 ox
   have c9:=Ahm (S1++[E]) tk' (n'+ua3) iq eq (fl || fp) b r0 ob or0 hfT;have hg1:=Es (c:=x.2) hfT;rw [<- hx] at c9;rw [Hs hf] at c9 hg1;obtain ⟨S2,bg⟩:∃ S2,S2=flS S1 iq eq x.2:=⟨_,rfl⟩;rw [<- bg] at c9 hg1;have cj:FAq S2 iq eq ((fl || fp) || x.2):=by rw [bg]; exact hf.fS
   have fu:=M1 (S2++[E]) tk' (n'+ua3+ua4) iq eq ((fl || fp) || x.2) a0 x.1 oa0 ox (cj.app (L:=[E]));have hg2:=Es (c:=y.2) (cj.app (L:=[E]));rw [<- hy] at fu;rw [Hs cj] at fu hg2;obtain ⟨S3,de⟩:∃ S3,S3=flS S2 iq eq y.2:=⟨_,rfl⟩;rw [<- de] at fu hg2;have d8:FAq S3 iq eq (((fl || fp) || x.2) || y.2):=by rw [de]; exact cj.fS
   have fg:S3.length=S.length:=by rw [de,Bi,bg,Bi,di]
   have cr:∀ j,j≠iq->nth S3 j=nth S1 j:=fun j hj=>by rw [de,ga6 hj,bg,ga6 hj]
   have qe:entAt S3 ia ea=some (flat ga0 (p++a0 :: u)):=by rw [Ac (cr ia ne3)]; exact he
   have a01:entAt (S3++[E]) ia ea=some (flat ga0 (p++a0 :: u)):=Ad qe;have ho:=Bf (ce:=ga0) ga1 (l:=p++a0 :: u) (k:=p.length) (q':=y.1) (by simp);rw [G8] at ho;have hp3 x:=Du (L:=[E]) (x:=x) (Ba qe);have ky:∀ x,Oq (S1++[E]).length (put S3 ia x++[E])=put S3 ia x++[E]:=fun x=>Dc (by simp [Am,fg,di]);simp (maxSteps:=10^6)+contextual(disch:=try exact dqd)only[evg1,simprocAttr,Cc,Ca,Cd,ga4,e0,e1,e2,e8,e27,e28,c1,c2,ky,ru,htT,hrT,heT,hbT,ci,ll,cu,cz,c9,fu,hg1,hg2,a01,ho,hp3,Ga,xfs,puQ,ga1,ga5,tkQ];have ag:J9 qF b a0 r0=(y.1,x.2 || y.2):=by unfold J9; rw [if_neg hz,hy,hx]
   exact IH (put S3 ia ⟨ea,flat ga0 (p++y.1 :: u)⟩,n'+ua3+ua4+ua4,p++[y.1],u,rs,Ck fp (Ck x.2 y.2)) _ aF ⟨rfl,by rw [hR]; simp only [lessL,ag,Fh,Cp,Cz,F7],by show (p++[y.1]).length+u.length=W; simp only [Cs,Cm,C7] at hW ⊢; omega,eD,⟨pr++[r0],by rw [lm]; simp,by simp [qq]⟩,Am.trans fg,by rw [Ai (Ba qe)]; simp,by have:=d8.put (x:=⟨ea,flat ga0 (p++y.1 :: u)⟩) ne3; simpa only [F7] using this,fun j h1 h2=>by rw [Af (O3 h1),cr j h2]; exact hj j h1 h2,fun q hq=>ou q cA,fun q hq=>ors q cA,bL,bL,bL,bL,bL,bL,by simp only [hE],rfl,rfl⟩
 ·have c1:decide ((p.length:Int)<(W:Int))=false:=cQ
  have u6:u=[]:=Fc.1 aA;subst u6;simp (maxSteps:=10^6)+contextual(disch:=try exact dqd)only[evg1,simprocAttr,Cc,Ca,Cd,ga4,e0,e1,e2,e8,e27,e28,c1];rw [hΦ,Kb di];simp only [lessL] at hR;rw [hR];exact ⟨S1,n',rfl,di,he,by rw [Fs]; exact hf,hj⟩):p:=h
namespace QQ
theorem Axi:Ay0:=Ma0
end QQ
end
end
section
open Go
open Go.Proofs.YthelkgdmgihhiaaGreat renaming ceQ->ga0
set_option maxRecDepth 100000
namespace QQ
structure A2 (S:List Ent) (iq eq:Nat) (I:TI) (t:Tb) (c:Cap):Prop where
 top:entAt S I.it I.et=some [.ifc 118 (rcvQ iq eq),intA t.vars,intA t.real,dq I.ir I.er 1 t.rows.length,.sref I.ic I.ec 0 t.cost.length 2,dq I.ib I.eb 1 t.rows.length,.frz (t.flip.map Dx) c]
 nids:I.ids.length=t.rows.length
 rowsE:t.rows≠[]->entAt S I.ir I.er=some (I.ids.map (g8 t.cost.length 2))
 rowE:∀ i p r,nth I.ids i=some p->nth t.rows i=some r->entAt S p.1 p.2=some (flat ceQ r)
 rowW:∀ r ∈ t.rows,r.length=t.cost.length
 costE:entAt S I.ic I.ec=some (flat ceQ t.cost)
 basisE:t.rows≠[]->entAt S I.ib I.eb=some (t.basis.map intA)
 nb:t.basis.length=t.rows.length
 nf:t.flip.length=t.rows.length
 fa:FAq S iq eq t.fl
 ap:Apart I iq
 okr:∀ r ∈ t.rows,okL qF r
 okc:okL qF t.cost
 bigW:t.cost.length<=1000000
 bigM:t.rows.length<=1000000
 real:t.real<t.cost.length
 bB:∀ b ∈ t.basis,b<t.cost.length
end QQ
section
variable {S S':List Ent} {iq eq:Nat} {I:TI} {t:Tb} {c:Cap}
abbrev Ay1 (p:Prop:=by exact ∀ {S S':List Ent}{iq eq:Nat}{I:TI}{t:Tb}{c:Cap}(h:A2 S iq eq I t c){i:Nat}{p:Nat × Nat}{r0 r':List Q}{fl':Bool}(hp:nth I.ids i=some p)(hr:nth t.rows i=some r0)(hl:r'.length=t.cost.length)(ho:okL qF r')(hS:∀ j,j≠p.1->j≠iq->nth S' j=nth S j)(he:entAt S' p.1 p.2=some (flat ga0 r'))(hf:FAq S' iq eq fl'),A2 S' iq eq I { t with rows:=put t.rows i r',fl:=fl' } c):=p
theorem Ma1 {p:Prop} (h:p:=by
 intro h i p r0 r' fl' hp hr hl ho hS he hf;have bh:i<t.rows.length:=A8 hr;have jf:=h.ap.row p (Ak hp);have key:∀ j e,j≠p.1->j≠iq->entAt S' j e=entAt S j e:=fun j e h1 h2=>Ac (hS j h1 h2);have hne:put t.rows i r'≠[]->t.rows≠[]:=fun hn h0=>hn (Anp.2 h0);refine ⟨?_,by rw [Aj]; exact h.nids,fun hn=>?_,fun j q r hq ab=>?_,fun r ab=>?_,?_,fun hn=>?_,Za4z,by rw [Aj]; exact h.nf,hf,h.ap,fun r ab=>?_,h.okc,h.bigW,by rw [Aj]; exact h.bigM,h.real,h.bB⟩
 ·rw [key _ _ jf.1.symm h.ap.qt.symm,Aj]; exact h.top
 ·rw [key _ _ jf.2.1.symm h.ap.qr.symm]; exact h.rowsE (hne hn)
 ·rw [Li bh] at ab;by_cases e:j=i
  ·exact Ya1l
  ·rw [if_neg e] at ab;have hq2:=h.ap.row q (Ak hq);rw [key _ _ (h.ap.rows j i q p hq hp e) hq2.2.2.2.2];exact Ya2g
 ·exact Ya1u
 ·rw [key _ _ jf.2.2.1.symm h.ap.qc.symm]; exact h.costE
 ·rw [key _ _ jf.2.2.2.1.symm h.ap.qb.symm]; exact h.basisE (hne hn)
 ·rcases Bu ab with rfl|ab
  ·exact ho
  ·exact h.okr r ab):p:=h
namespace QQ
theorem A2.row:Ay1:=fun {S S' iq eq I t c}=>Ma1
end QQ
abbrev Ay2 (p:Prop:=by exact ∀ {S S':List Ent}{iq eq:Nat}{I:TI}{t:Tb}{c:Cap}(h:A2 S iq eq I t c){k':List Q}{fl':Bool}(hl:k'.length=t.cost.length)(ho:okL qF k')(hS:∀ j,j≠I.ic->j≠iq->nth S' j=nth S j)(he:entAt S' I.ic I.ec=some (flat ga0 k'))(hf:FAq S' iq eq fl'),A2 S' iq eq I { t with cost:=k',fl:=fl' } c):=p
theorem Ma2 {p:Prop} (h:p:=by
 intro h k' fl' hl ho hS he hf;have key:∀ j e,j≠I.ic->j≠iq->entAt S' j e=entAt S j e:=fun j e h1 h2=>Ac (hS j h1 h2);refine ⟨?_,h.nids,fun hn=>?_,fun j q r hq ab=>?_,fun r ab=>by rw [hl]; exact h.rowW r ab,he,fun hn=>?_,h.nb,h.nf,hf,h.ap,h.okr,ho,by rw [hl]; exact h.bigW,h.bigM,by rw [hl]; exact h.real,fun b hb=>by rw [hl]; exact h.bB b hb⟩
 ·rw [key _ _ h.ap.tc h.ap.qt.symm,hl]; exact h.top
 ·rw [key _ _ h.ap.rc h.ap.qr.symm,hl]; exact h.rowsE hn
 ·have hq2:=h.ap.row q (Ak hq);rw [key _ _ hq2.2.2.1 hq2.2.2.2.2];exact Ya2g
 ·rw [key _ _ h.ap.cb.symm h.ap.qb.symm]; exact h.basisE hn):p:=h
namespace QQ
theorem A2.setCost:Ay2:=fun {S S' iq eq I t c}=>Ma2
end QQ
abbrev Ay3 (p:Prop:=by exact ∀ {S:List Ent}{iq eq:Nat}{I:TI}{t:Tb}{c:Cap}(h:A2 S iq eq I t c){i b:Nat}(gy:t.rows≠[])(hb:b<t.cost.length),A2 (put S I.ib ⟨I.eb,(put t.basis i b).map intA⟩) iq eq I { t with basis:=put t.basis i b } c):=p
theorem Ma3 {p:Prop} (h:p:=by
 intro h i b gy hb;have bh:=Ba (h.basisE gy);have key:∀ j e,j≠I.ib->entAt (put S I.ib ⟨I.eb,(put t.basis i b).map intA⟩) j e=entAt S j e:=fun j e h1=>Ah (O3 h1);refine ⟨?_,h.nids,fun hn=>?_,fun j q r hq ab=>?_,h.rowW,?_,fun hn=>Ai bh,Za4z,h.nf,h.fa.put h.ap.qb.symm,h.ap,h.okr,h.okc,h.bigW,h.bigM,h.real,fun x hx=>?_⟩
 ·rw [key _ _ h.ap.tb]; exact h.top
 ·rw [key _ _ h.ap.rb]; exact h.rowsE hn
 ·have hq2:=h.ap.row q (Ak hq);rw [key _ _ hq2.2.2.2.1];exact Ya2g
 ·rw [key _ _ h.ap.cb]; exact h.costE
 ·rcases Bu hx with rfl|hx
  ·exact hb
  ·exact h.bB x hx):p:=h
namespace QQ
theorem A2.setBasis:Ay3:=fun {S iq eq I t c}=>Ma3
end QQ
abbrev Ay4 (p:Prop:=by exact ∀ {S S':List Ent}{iq eq:Nat}{I:TI}{t:Tb}{c:Cap}(h:A2 S iq eq I t c){fl':Bool}(hS:∀ j,j≠iq->nth S' j=nth S j)(hf:FAq S' iq eq fl'),A2 S' iq eq I { t with fl:=fl' } c):=p
theorem Ma4 {p:Prop} (h:p:=by
 intro h fl' hS hf;have key:∀ j e,j≠iq->entAt S' j e=entAt S j e:=fun j e h1=>Ac (hS j h1);refine ⟨?_,h.nids,fun hn=>?_,fun j q r hq ab=>?_,h.rowW,?_,fun hn=>?_,h.nb,h.nf,hf,h.ap,h.okr,h.okc,h.bigW,h.bigM,h.real,h.bB⟩
 ·rw [key _ _ h.ap.qt.symm]; exact h.top
 ·rw [key _ _ h.ap.qr.symm]; exact h.rowsE hn
 ·have hq2:=h.ap.row q (Ak hq);rw [key _ _ hq2.2.2.2.2];exact Ya2g
 ·rw [key _ _ h.ap.qc.symm]; exact h.costE
 ·rw [key _ _ h.ap.qb.symm]; exact h.basisE hn):p:=h
namespace QQ
theorem A2.flag:Ay4:=fun {S S' iq eq I t c}=>Ma4
end QQ
abbrev Ay5 (p:Prop:=by exact ∀ {S:List Ent}{iq eq:Nat}{I:TI}{t:Tb}{c:Cap}(h:A2 S iq eq I t c)(L:List Ent),A2 (S++L) iq eq I t c):=p
theorem Ma5 {p:Prop} (h:p:=by
 intro h L;exact ⟨Ad h.top,h.nids,fun hn=>Ad (h.rowsE hn),fun j q r hq hr=>Ad (h.rowE j q r hq hr),h.rowW,Ad h.costE,fun hn=>Ad (h.basisE hn),h.nb,h.nf,h.fa.app,h.ap,h.okr,h.okc,h.bigW,h.bigM,h.real,h.bB⟩):p:=h
namespace QQ
theorem A2.app:Ay5:=fun {S iq eq I t c}=>Ma5
structure LowQ (I:TI) (iq n:Nat) (t:Tb):Prop where
 it:I.it<n
 ic:I.ic<n
 ir:t.rows≠[]->I.ir<n
 ib:t.rows≠[]->I.ib<n
 row:∀ p ∈ I.ids,p.1<n
 iq:iq<n
theorem A2.low (h:A2 S iq eq I t c):LowQ I iq S.length t:=by
 refine ⟨Ba h.top,Ba h.costE,fun hn=>Ba (h.rowsE hn),fun hn=>Ba (h.basisE hn),fun p hp=>?_,Ba h.fa⟩;exact Yak
end QQ
abbrev Ay6 (p:Prop:=by exact ∀ {S:List Ent}{iq eq:Nat}{I:TI}{t:Tb}{c:Cap}(h:A2 S iq eq I t c){n:Nat}(hl:LowQ I iq n t),A2 (S.take n) iq eq I t c):=p
theorem Ma6 {p:Prop} (h:p:=by
 intro h n hl;refine ⟨by rw [Eb hl.it]; exact h.top,h.nids,fun hn=>by rw [Eb (hl.ir hn)]; exact h.rowsE hn,fun j q r hq hr=>by rw [Eb (hl.row q (Ak hq))]; exact h.rowE j q r hq hr,h.rowW,by rw [Eb hl.ic]; exact h.costE,fun hn=>by rw [Eb (hl.ib hn)]; exact h.basisE hn,h.nb,h.nf,h.fa.take hl.iq,h.ap,h.okr,h.okc,h.bigW,h.bigM,h.real,h.bB⟩):p:=h
namespace QQ
theorem A2.take:Ay6:=fun {S iq eq I t c}=>Ma6
theorem LowQ.of {n:Nat} {t':Tb} (h:LowQ I iq n t) (hn:t'.rows≠[]->t.rows≠[]):LowQ I iq n t':=⟨h.it,h.ic,fun h'=>h.ir (hn h'),fun h'=>h.ib (hn h'),h.row,h.iq⟩
end QQ
abbrev Ay7 (p:Prop:=by exact ∀ {S S':List Ent}{iq eq:Nat}{I:TI}{t:Tb}{c:Cap}(h:A2 S iq eq I t c){n:Nat}{fl':Bool}(hl:LowQ I iq n t)(hS:∀ j,j<n->j≠iq->nth S' j=nth S j)(hf:FAq S' iq eq fl'),A2 S' iq eq I { t with fl:=fl' } c):=p
theorem Ma7 {p:Prop} (h:p:=by
 intro h n fl' hl hS hf;have key:∀ j e,j<n->j≠iq->entAt S' j e=entAt S j e:=fun j e h1 h2=>Ac (hS j h1 h2);refine ⟨?_,h.nids,fun hn=>?_,fun j q r hq ab=>?_,h.rowW,?_,fun hn=>?_,h.nb,h.nf,hf,h.ap,h.okr,h.okc,h.bigW,h.bigM,h.real,h.bB⟩
 ·rw [key _ _ hl.it h.ap.qt.symm]; exact h.top
 ·rw [key _ _ (hl.ir hn) h.ap.qr.symm]; exact h.rowsE hn
 ·have hq2:=h.ap.row q (Ak hq);rw [key _ _ (hl.row q (Ak hq)) hq2.2.2.2.2];exact Ya2g
 ·rw [key _ _ hl.ic h.ap.qc.symm]; exact h.costE
 ·rw [key _ _ (hl.ib hn) h.ap.qb.symm]; exact h.basisE hn):p:=h
namespace QQ
theorem A2.frame:Ay7:=fun {S S' iq eq I t c}=>Ma7
end QQ
def OutQ (I:TI) (iq j:Nat):Prop:=j≠iq/\j≠I.ic/\j≠I.ib/\∀ p ∈ I.ids,j≠p.1
namespace QQ
def Z9 (S:List Ent) (tk:List Nat) (iq eq:Nat) (I:TI) (t':Tb) (cc:Cap) (v:AV) (r:Rs):Prop :=
 ∃ S' k',r=(v,S',tk,k')/\S'.length=S.length/\A2 S' iq eq I t' cc/\∀ j,OutQ I iq j->nth S' j=nth S j
end QQ
end
end
section
open Go Go.Proofs.Tryz
open Go.Proofs.Tryz renaming func144->ga7,ntmps144->ga8,results144->ga9
open Go.Proofs.YthelkgdmgihhiaaGreat renaming ceQ->ga0,Aw->ga1,Bx->ga5,A1->ga6
set_option maxRecDepth 100000
namespace QQ
abbrev ua5:Nat:=144
end QQ
set_option maxHeartbeats 8000000
set_option maxRecDepth 100000
theorem Afu {F:Fld} (hF:F.Keeps) {b:Q} (hb:F.ok b):∀ {l:List Q},okL F l->okL F (divL F b l).1
 | [],h=>h
 | x :: l,h=>by
  intro q hq;simp only [divL,C6] at hq;rcases hq with rfl|hq
  ·unfold dvS;split
   ·exact h _ (by simp)
   ·exact hF.over _ _ (h _ (by simp)) hb
  ·exact Afu hF hb (fun q hq=>h q cA) q hq
theorem Ql {F:Fld} {l m:List Q} {c:Nat} : (lessT F l m c).1.length=l.length:=by
 unfold lessT;split
 ·split
  ·rfl
  ·exact Ph
 ·rfl
theorem Ab0 {F:Fld} (hF:F.Keeps) {l m:List Q} {c:Nat} (h:okL F l) (h':okL F m):okL F (lessT F l m c).1:=by
 unfold lessT;split
 ·rename_i b hb;split
  ·exact h
  ·exact Yz hF (h b (Ak hb)) h h'
 ·exact h
section
variable (S:List Ent) (tk:List Nat) (k iq eq:Nat)
abbrev Ay8 (p:Prop:=by exact ∀ (S:List Ent)(tk:List Nat)(k iq eq:Nat)(I:TI)(t:Tb)(cc:Cap)(i c:Nat)(ai:A2 S iq eq I t cc)(hi:i<t.rows.length)(hc:c<t.cost.length),∃ r,cL prog ua5 [.ref I.it I.et 0,.int i,.int c] S tk k=some r/\Z9 S tk iq eq I (Ef qF t i c) cc (.tup []) r):=p
theorem Ma8 {p:Prop} (h:p:=by
 intro S tk k iq eq I t cc i c ai hi hc;obtain ⟨Φ,hΦ⟩:∃ Φ,Φ=Z9 S tk iq eq I (Ef qF t i c) cc (.tup []):=⟨_,rfl⟩;rw [<- hΦ];obtain ⟨row,b7⟩:=Ab hi;obtain ⟨pi,lp⟩:=Ab (show i<I.ids.length by rw [ai.nids]; exact hi);have jp:=ai.rowW row (Ak b7);have og:=ai.okr row (Ak b7);obtain ⟨b,hb⟩:=Ab (show c<row.length by omega);have ob:qF.ok b:=og b (Ak hb);have gy:t.rows≠[]:=fun h=>by rw [h] at hi; simp at hi
 have dk:0<t.rows.length:=aA
 have aj:=ai.top;rw [Bm dk,Bm dk] at aj;have lq:=ai.rowsE gy;have py:nth (jW i (I.ids.map (g8 t.cost.length ua2))) 0=some (.sref pi.1 pi.2 0 t.cost.length ua2):=Eg (by rw [Ae] at lp ⊢; rw [F1,lp]; rfl);have za:=Ax (ce:=ga0) ga1 hb;have du:=ai.rowE i pi row lp b7;refine opG ga7 ga8 ?_;simp (maxSteps:=10^6)+contextual(disch:=try exact dqd)only[evg1,simprocAttr,Cc,Ca,Cd,ga9,aj,lq,py,za,du,hi,hc,Fa,intA,ga1,ga5,ovQ];have hW:=ai.bigW;have hM:=ai.bigM;have az:=ai.low;have dv:=az.row pi (Ak lp);have jf:=ai.ap.row pi (Ak lp);have qp:=Acm b7;have eT:({ t with rows:=t.rows,fl:=t.fl } : Tb)=t:=rfl;refine Gm (P:=prog) (fun x st=>st.T.length=89/\(divL qF b row=(x.2.2.1++(divL qF b x.2.2.2.1).1,Ck x.2.2.2.2 (divL qF b x.2.2.2.1).2))/\(x.2.2.1.length+x.2.2.2.1.length=t.cost.length)/\(A2 x.1 iq eq I { t with rows:=put t.rows i (x.2.2.1++x.2.2.2.1),fl:=Ck t.fl x.2.2.2.2 } cc)/\(entAt x.1 S.length k=some (ga0 b))/\(x.1.length=S.length+1)/\(∀ j,j<S.length->OutQ I iq j->nth x.1 j=nth S j)/\(okL qF x.2.2.2.1)/\getT st.T 0=.ref I.it I.et 0/\getT st.T 1=.int (i:Nat)/\getT st.T 2=.int (c:Nat)/\getT st.T 6=.sref pi.1 pi.2 0 t.cost.length ua2/\getT st.T 7=.ref S.length k 0/\getT st.T 23=.int (t.cost.length:Nat)/\getT st.T 24=.int (x.2.2.1.length:Nat)/\st.S=x.1/\st.tk=tk/\st.n=x.2.1) (fun x=>x.2.2.2.1.length) ((S++[⟨k,ga0 b⟩]),(k+1),([]:List Q),row,false) ?_ ?_;case refine_2=>exact ⟨rfl,by simp,by simpa using jp,by simp only [Cz,qp,Fs]; exact ai.app _,Al rfl,by simp,fun j hj _=>Bv hj,og,rfl,rfl,rfl,rfl,rfl,rfl,rfl,rfl,rfl,rfl⟩
 rintro ⟨SS,n1,p,u,fp⟩ ⟨T,S',tk',n'⟩ ⟨hl,hR,lg,hT,zz,gf,bm,ou,e0,e1,e2,e6,e7,e23,e24,eS,eT,eN⟩ IH;simp only at hR lg hT zz gf bm ou e0 e1 e2 e6 e7 e23 e24 eS eT eN;subst eS eT eN;obtain ⟨g,hg,hT⟩:=Ao hl;rw [hg] at e0 e1 e2 e6 e7 e23 e24;subst hT;clear hg hl;by_cases cu:p.length<t.cost.length
 ·have c1:decide ((p.length:Int)<(t.cost.length:Int))=true:=cQ
  obtain ⟨a0,u,rfl⟩:∃ a0 u',u=a0 :: u':=by
   cases u with
   | nil=>simp at lg; omega
   | cons x u=>exact ⟨x,u,rfl⟩
  have oa0:=ou a0 (by simp);have ll:=Ax (ce:=ga0) ga1 (Er (p:=p) (u:=u) (x:=a0));have qd:nth (put t.rows i (p++a0 :: u)) i=some (p++a0 :: u):=Dt hi;have he:=hT.rowE i pi _ lp qd;have dj:=hT.top;have hs:=Aey S' tk' n' iq eq (Ck t.fl fp) a0 oa0 hT.fa;have xq:u.length<(a0 :: u).length:=by simp
  have hw:Ce.wrap ((p.length:Int)+1)=(((p++[a0]).length:Nat):Int):=bU
  by_cases hz:sgn a0=0
  ·have c2:(sgn a0 != 0)=false:=cM
   have ag:dvS qF b a0=(a0,false):=by unfold dvS; rw [if_pos hz]
   simp (maxSteps:=10^6)+contextual(disch:=try exact dqd)only[evg1,simprocAttr,Cc,Ca,Cd,ga9,e0,e1,e2,e6,e7,e23,e24,c1,c2,hw,dj,he,ll,cu,hs,Ga,xfs,puQ,tkQ];exact IH (S',n'+ua3,p++[a0],u,fp) _ aF ⟨rfl,by rw [hR]; simp only [divL,ag,Fh,Cp,Cz,I5],by show (p++[a0]).length+u.length=t.cost.length; simp only [Cs,Cm,C7] at lg ⊢; omega,by simpa using hT,zz,gf,bm,fun q hq=>ou q cA,bD⟩
  ·have c2:(sgn a0 != 0)=true:=cM
   obtain ⟨y,hy⟩:∃ y,y=qF.over a0 b:=⟨_,rfl⟩;have oy:qF.ok y.1:=by rw [hy]; exact Dk.over _ _ oa0 ob
   have ag:dvS qF b a0=y:=by unfold dvS; rw [if_neg hz,hy]
   have ru:Ce.wrap ((p.length:Int)+1)=(((p++[y.1]).length:Nat):Int):=bU
   have c9:=Axv S' tk' (n'+ua3) iq eq (Ck t.fl fp) a0 b oa0 ob hT.fa;have hg1:=Es (c:=y.2) hT.fa;rw [<- hy] at c9;obtain ⟨S2,bg⟩:∃ S2,S2=flS S' iq eq y.2:=⟨_,rfl⟩;rw [<- bg] at c9 hg1;have cj:FAq S2 iq eq (Ck (Ck t.fl fp) y.2):=by rw [bg]; exact hT.fa.fS
   have hl2:S2.length=S'.length:=by rw [bg,Bi]
   have bj:∀ j,j≠iq->nth S2 j=nth S' j:=fun j hj=>by rw [bg,ga6 hj]
   have ju:nth S2 S.length=nth S' S.length:=Za5n
   have he2:entAt S2 pi.1 pi.2=some (flat ga0 (p++a0 :: u)):=by rw [Ac (bj _ jf.2.2.2.2)]; exact he
   have ho:=Bf (ce:=ga0) ga1 (l:=p++a0 :: u) (k:=p.length) (q':=y.1) (by simp);rw [G8] at ho;have ky:∀ x,Oq S'.length (put S2 pi.1 x)=put S2 pi.1 x:=fun x=>Dc (by simp [Am,hl2]);simp (maxSteps:=10^6)+contextual(disch:=try exact dqd)only[evg1,simprocAttr,Cc,Ca,Cd,ga9,e0,e1,e2,e6,e7,e23,e24,c1,c2,ru,ky,dj,he,ll,zz,cu,hs,c9,hg1,he2,ho,Ga,xfs,puQ,ga1,ga5,tkQ];have jv:Ck t.fl (Ck fp y.2)=Ck (Ck t.fl fp) y.2:=(F7 _ _ _).symm;have ee:=hT.row (S':=put S2 pi.1 ⟨pi.2,flat ga0 (p++y.1 :: u)⟩) (r':=p++y.1 :: u) (fl':=Ck (Ck t.fl fp) y.2) lp qd (by simp only [Cs,Cm] at lg ⊢; exact lg) (fun q hq=>by
    rcases Cw.1 hq with h|h
    ·exact hT.okr _ (Ak qd) q cB
    ·rcases C6.1 h with rfl|h
     ·exact oy
     ·exact ou q cB) (fun j h1 h2=>by rw [Af (O3 h1),bj j h2]) (Ai (Ba he2)) (cj.put jf.2.2.2.2)
   simp only [Pq] at ee;exact IH (put S2 pi.1 ⟨pi.2,flat ga0 (p++y.1 :: u)⟩,n'+ua3+Abs b,p++[y.1],u,Ck fp y.2) _ aF ⟨rfl,by rw [hR]; simp only [divL,ag,Fh,Cp,Cz,F7],by show (p++[y.1]).length+u.length=t.cost.length; simp only [Cs,Cm,C7] at lg ⊢; omega,by simp only [Fh,Cp,Cz,jv]; exact ee,by rw [Ah aE,Ac ju]; exact zz,by rw [Am,hl2]; exact gf,fun j h1 h2=>by rw [Af (O3 (h2.2.2.2 pi (Ak lp))),bj j h2.1]; exact bm j h1 h2,fun q hq=>ou q cA,bD⟩
 ·have c1:decide ((p.length:Int)<(t.cost.length:Int))=false:=cQ
  have u6:u=[]:=Fc.1 aA;subst u6;simp only [divL] at hR;simp only [Fp,C7,Io,Fs] at hR lg hT;have a02:Ef qF t i c={ t with rows:=(lessRows qF p c i 0 (put t.rows i p)).1,cost:=(lessT qF t.cost p c).1,basis:=put t.basis i c,fl:=Ck (Ck (Ck t.fl fp) (lessRows qF p c i 0 (put t.rows i p)).2) (lessT qF t.cost p c).2 }:=by
   unfold Ef Da;rw [Bb b7,Bb hb,hR]
  have op:okL qF p:=by have:=Afu Dk ob og; rw [hR] at this; exact this
  have lu:=hT.top;simp only [Aj] at lu;rw [Bm dk,Bm dk] at lu;simp (maxSteps:=10^6)+contextual(disch:=try exact dqd)only[evg1,simprocAttr,Cc,Ca,Cd,ga9,e0,e1,e2,e6,e7,e23,e24,c1,lu];refine Gm (P:=prog) (fun x st=>st.T.length=89/\(lessRows qF p c i 0 (put t.rows i p)=(x.2.2.1++(lessRows qF p c i x.2.2.1.length x.2.2.2.1).1,Ck x.2.2.2.2 (lessRows qF p c i x.2.2.1.length x.2.2.2.1).2))/\(x.2.2.1.length+x.2.2.2.1.length=t.rows.length)/\(A2 x.1 iq eq I { t with rows:=x.2.2.1++x.2.2.2.1,fl:=Ck (Ck t.fl fp) x.2.2.2.2 } cc)/\(nth (x.2.2.1++x.2.2.2.1) i=some p)/\(x.1.length=S.length+1)/\(∀ j,j<S.length->OutQ I iq j->nth x.1 j=nth S j)/\getT st.T 0=.ref I.it I.et 0/\getT st.T 1=.int (i:Nat)/\getT st.T 2=.int (c:Nat)/\getT st.T 6=.sref pi.1 pi.2 0 t.cost.length ua2/\getT st.T 58=.sref I.ir I.er 0 t.rows.length 1/\getT st.T 59=.int (t.rows.length:Nat)/\getT st.T 60=.int (x.2.2.1.length:Nat)/\st.S=x.1/\st.tk=tk'/\st.n=x.2.1) (fun x=>x.2.2.2.1.length) (S',n',([]:List (List Q)),(put t.rows i p),false) ?_ ?_;case refine_2=>exact ⟨rfl,by simp,by simp [Aj],by simp only [Cz,Fs]; exact hT,by simp only [Cz]; exact Dt hi,gf,bm,rfl,rfl,rfl,rfl,rfl,rfl,rfl,rfl,rfl,rfl⟩
  rintro ⟨SS,n1,P,U,fq⟩ ⟨T,S',tk',n'⟩ ⟨hl,gg,fh,au,dc,ry,lw,e0,e1,e2,e6,e58,e59,e60,eS,eT,eN⟩ IH;simp only at gg fh au dc ry lw e0 e1 e2 e6 e58 e59 e60 eS eT eN;subst eS eT eN;obtain ⟨g,hg,hT⟩:=Ao hl;rw [hg] at e0 e1 e2 e6 e58 e59 e60;subst hT;clear hg hl;by_cases ck:P.length<t.rows.length
  ·have c2:decide ((P.length:Int)<(t.rows.length:Int))=true:=dM
   obtain ⟨r0,U,rfl⟩:∃ r0 U',U=r0 :: U':=by
    cases U with
    | nil=>simp at fh; omega
    | cons x u=>exact ⟨x,u,rfl⟩
   have xq:U.length<(r0 :: U).length:=by simp
   obtain ⟨pk,ip⟩:=Ab (show P.length<I.ids.length by rw [ai.nids]; exact ck);have dw:nth (jW P.length (I.ids.map (g8 t.cost.length ua2))) 0=some (.sref pk.1 pk.2 0 t.cost.length ua2):=Eg (by rw [Ae] at ip ⊢; rw [F1,ip]; rfl);have jw:nth (P++r0 :: U) P.length=some r0:=Er;have xl:P++r0 :: U≠[]:=by simp
   have xr:=au.rowsE xl;have hw2:∀ z:List Q,Ce.wrap ((P.length:Int)+1)=(((P++[z]).length:Nat):Int):=fun z=>bU
   by_cases qu:P.length=i
   ·have c3:((P.length:Int) != (i:Int))=false:=by rw [qu]; simp
    have uc:lessK qF p c i P.length r0=(r0,false):=by unfold lessK; rw [if_pos qu]
    have hw3:=hw2 r0;simp (maxSteps:=10^6)+contextual(disch:=try exact dqd)only[evg1,simprocAttr,Cc,Ca,Cd,ga9,e0,e1,e2,e6,e58,e59,e60,c2,c3,xr,dw,ck,hw3,Fa];exact IH (S',n',P++[r0],U,fq) _ aF ⟨rfl,by rw [gg]; simp only [lessRows,uc,Fh,Cp,Cz,I5,Cs,Cm,C7,Fo],by show (P++[r0]).length+U.length=t.rows.length; simp only [Cs,Cm,C7] at fh ⊢; omega,by simpa using au,by simpa using dc,ry,lw,bD⟩
   ·have c3:((P.length:Int) != (i:Int))=true:=aC
    have eh:=au.rowE P.length pk r0 ip jw;have rz:=au.rowE i pi p lp dc;have dy:=au.rowW r0 (Ak jw);have qw:=ai.ap.row pk (Ak ip);obtain ⟨r,cw,S3,k3,rfl,fg,qe,d8,cr⟩:=Axi S' tk' n' iq eq _ I.it I.et pk.1 pk.2 pi.1 pi.2 t.cost.length c _ r0 p au.top au.fa eh rz dy lg hc hW (au.okr r0 (Ak jw)) op (ai.ap.rows _ _ pk pi ip lp qu) qw.1 qw.2.2.2.2 ai.ap.qt jf.2.2.2.2.symm;have uc:lessK qF p c i P.length r0=lessT qF r0 p c:=by unfold lessK; rw [if_neg qu]
    obtain ⟨z,hz⟩:∃ z,z=lessT qF r0 p c:=⟨_,rfl⟩;rw [<- hz] at qe d8 uc;have hw3:=hw2 z.1;have ky:Oq S'.length S3=S3:=Dc aA;simp (maxSteps:=10^6)+contextual(disch:=try exact dqd)only[evg1,simprocAttr,Cc,Ca,Cd,ga9,e0,e1,e2,e6,e58,e59,e60,c2,c3,xr,dw,ck,hw3,cw,ky,Fa];have ee:=au.row (S':=S3) (r':=z.1) (fl':=Ck (Ck (Ck t.fl fp) fq) z.2) ip jw (by rw [hz,Ql]; exact dy) (by rw [hz]; exact Ab0 Dk (au.okr r0 (Ak jw)) op) cr qe d8;simp only [G8] at ee;exact IH (S3,k3,P++[z.1],U,Ck fq z.2) _ aF ⟨rfl,by rw [gg]; simp only [lessRows,uc,Fh,Cp,Cz,F7,Cs,Cm,C7,Fo],by show (P++[z.1]).length+U.length=t.rows.length; simp only [Cs,Cm,C7] at fh ⊢; omega,by simpa [F7] using ee,by rw [Fh,fZ,<- G8 (x:=r0),Li (by simp),if_neg (fun h=>qu h.symm)]; exact dc,by rw [fg]; exact ry,fun j h1 h2=>by rw [cr j (h2.2.2.2 pk (Ak ip)) h2.1]; exact lw j h1 h2,bD⟩
  ·have c2:decide ((P.length:Int)<(t.rows.length:Int))=false:=dM
   have xt:U=[]:=Fc.1 aA;subst xt;simp only [lessRows] at gg;simp only [Fp,C7,Io,Fs] at gg fh au dc;have r6:P≠[]:=fun h=>by rw [h] at fh; simp at fh; omega
   have lx:=au.top;simp only [fh] at lx;rw [Bm dk,Bm dk] at lx;have rz:=au.rowE i pi p lp dc;obtain ⟨r,cw,S3,k3,rfl,fg,qe,d8,cr⟩:=Axi S' tk' n' iq eq _ I.it I.et I.ic I.ec pi.1 pi.2 t.cost.length c _ t.cost p au.top au.fa au.costE rz rfl lg hc hW ai.okc op jf.2.2.1.symm ai.ap.tc.symm ai.ap.qc.symm ai.ap.qt jf.2.2.2.2.symm;have ee:=au.setCost (S':=S3) (k':=(lessT qF t.cost p c).1) Ql (Ab0 Dk ai.okc op) cr qe d8;have ly:=ee.top;simp only [fh] at ly;rw [Bm dk,Bm dk] at ly;have ve:=ee.basisE r6;obtain ⟨b0,hb0⟩:=Ab (show i<t.basis.length by rw [ai.nb]; exact hi);have cq:over (t.basis.map intA) i [.prim (.int .i64 (c:Int))]=some ((put t.basis i c).map intA):=by
    rw [<- Qq];exact Y9 (w:=intA b0) (by rw [Ae] at hb0 ⊢; rw [F1,hb0]; rfl)
   have xu:=ee.setBasis (i:=i) (b:=c) r6 (by simp only [Ql]; exact hc);simp (maxSteps:=10^6)+contextual(disch:=try exact dqd)only[evg1,simprocAttr,Cc,Ca,Cd,ga9,e0,e1,e2,e6,e58,e59,e60,c2,lx,cw,ly,ve,cq,hi,Fa];rw [hΦ,a02,gg];have xv:LowQ I iq S.length { t with rows:=P,cost:=(lessT qF t.cost p c).1,basis:=put t.basis i c,fl:=Ck (Ck (Ck t.fl fp) fq) (lessT qF t.cost p c).2 }:=az.of fun _=>gy;exact ⟨_,_,rfl,by rw [Im,Am,fg]; omega,xu.take xv,fun j hj=>by
    by_cases jn:j<S.length
    ·rw [Gs jn,Af (O3 hj.2.2.1),cr j hj.2.1 hj.1]; exact lw j jn hj
    ·rw [Ae,Ae,Et cV,Et aA]⟩):p:=h
namespace QQ
theorem Axz:Ay8:=Ma8
end QQ
end
end
section
open Go Go.Proofs.Tryz
open Go.Proofs.Tryz renaming func143->ga10,ntmps143->ga11,results143->ga12
open Go.Proofs.YthelkgdmgihhiaaGreat renaming ceQ->ga0,Aw->ga1,Bx->ga5,A1->ga6
set_option maxRecDepth 100000
namespace QQ
abbrev ua6:Nat:=143
end QQ
set_option maxHeartbeats 8000000
set_option maxRecDepth 100000
def Ny:Option (Nat × Q)->AV
 | none=>.int (-1)
 | some (i,_)=>.int (i:Nat)
theorem Mf {F:Fld} {basis:List Nat} {c W m:Nat} : ∀ {l:List (List Q)} {k:Nat} {b:Option (Nat × Q)} {i:Nat} {q:Q} {f:Bool},k+l.length<=m->(∀ i q,b=some (i,q)->i<m)->B4 F basis c W k l b=(some (i,q),f)->i<m
 | [],k,b,i,q,f,_,hb,h=>by
  simp only [B4,Ch] at h;exact hb i q h.1
 | r :: l,k,b,i,q,f,hl,hb,h=>by
  simp only [Cm] at hl;unfold B4 at h;split at h
  ·exact Mf aA hb h
  ·split at h
   ·simp only [Ch] at h;exact Mf (k:=k+1) (l:=l) aA (fun i q e=>by simp only [A3,Ch] at e; omega) (Prod.ext h.1 rfl)
   ·rename_i bi least;simp only [Ch] at h;refine Mf (k:=k+1) (l:=l) aA (fun i' q' e=>?_) (Prod.ext h.1 rfl);split at e
    ·simp only [A3,Ch] at e;exact hb i' least (by rw [e.1])
    ·simp only [A3,Ch] at e; omega
theorem Amu {F:Fld} {t:Tb} {c i:Nat} {q:Q} {f:Bool} (h:Br F t c=(some (i,q),f)):i<t.rows.length :=
 Mf (k:=0) (by simp) (fun _ _ e=>by cases e) h
section
variable (S:List Ent) (tk:List Nat) (k iq eq:Nat)
abbrev Ay9 (p:Prop:=by exact ∀ (S:List Ent)(tk:List Nat)(k iq eq:Nat)(I:TI)(t:Tb)(cc:Cap)(c:Nat)(ai:A2 S iq eq I t cc)(hc:c<t.cost.length),∃ r,cL prog ua6 [.ref I.it I.et 0,.int c] S tk k=some r/\Z9 S tk iq eq I { t with fl:=Ck t.fl (Br qF t c).2 } cc (Ny (Br qF t c).1) r):=p
theorem Ma9 {p:Prop} (h:p:=by
 intro S tk k iq eq I t cc c ai hc;obtain ⟨Φ,hΦ⟩:∃ Φ,Φ=Z9 S tk iq eq I { t with fl:=Ck t.fl (Br qF t c).2 } cc (Ny (Br qF t c).1):=⟨_,rfl⟩;rw [<- hΦ];have aj:=ai.top;by_cases ci:t.rows=[]
 ·have dp:t.rows.length=0:=by rw [ci]; rfl
  rw [dp] at aj;simp only [dq] at aj;have ov:Br qF t c=(none,false):=by unfold Br; rw [ci]; rfl
  refine opG ga10 ga11 ?_;have d0:decide ((0:Int)<((0:Nat):Int))=false:=rfl;simp (maxSteps:=10^6)+contextual(disch:=try exact dqd)only[evg1,simprocAttr,Cc,Ca,Cd,ga12,aj];refine Gm (P:=prog) (fun x st=>st.T.length=93/\getT st.T 5=.int (-1)/\getT st.T 15=.int ((0:Nat):Int)/\getT st.T 16=.int 0/\st.S=S++[⟨k,zeroQ⟩]/\st.tk=tk/\st.n=x) (fun x=>0) (k+1) ?_ ?_;case refine_2=>exact ⟨rfl,rfl,rfl,rfl,rfl,rfl,rfl⟩
  rintro n1 ⟨T,S',tk',n'⟩ ⟨hl,e5,e15,e16,eS,eT,eN⟩ IH;subst eS eT eN;obtain ⟨g,hg,hT⟩:=Ao hl;rw [hg] at e5 e15 e16;subst hT;clear hg hl;simp (maxSteps:=10^6)+contextual(disch:=try exact dqd)only[evg1,simprocAttr,Cc,Ca,Cd,ga12,e5,e15,e16,d0,H3];rw [hΦ,ov];exact ⟨S,_,rfl,rfl,by simp only [Fs]; exact ai,fun j _=>rfl⟩
 have dk:0<t.rows.length:=Oe.2 ci;rw [Bm dk,Bm dk] at aj;have lq:=ai.rowsE ci;have hW:=ai.bigW;have hM:=ai.bigM;have az:=ai.low;have dh:=ai.real;refine opG ga10 ga11 ?_;simp (maxSteps:=10^6)+contextual(disch:=try exact dqd)only[evg1,simprocAttr,Cc,Ca,Cd,ga12,aj];refine Gm (P:=prog) (fun x st=>st.T.length=93/\(Br qF t c=((B4 qF t.basis c t.cost.length x.2.2.1.length x.2.2.2.1 x.2.2.2.2.1).1,Ck x.2.2.2.2.2 (B4 qF t.basis c t.cost.length x.2.2.1.length x.2.2.2.1 x.2.2.2.2.1).2))/\(t.rows=x.2.2.1++x.2.2.2.1)/\(A2 x.1 iq eq I { t with fl:=Ck t.fl x.2.2.2.2.2 } cc)/\(∃ lc,entAt x.1 S.length k=some lc/\lc.length=ua2/\∀ bi q,x.2.2.2.2.1=some (bi,q)->lc=ga0 q/\bi<x.2.2.1.length/\qF.ok q)/\(x.1.length=S.length+1)/\(∀ j,j<S.length->OutQ I iq j->nth x.1 j=nth S j)/\getT st.T 0=.ref I.it I.et 0/\getT st.T 1=.int (c:Nat)/\getT st.T 5=Ny x.2.2.2.2.1/\getT st.T 6=.ref S.length k 0/\getT st.T 14=.sref I.ir I.er 0 t.rows.length 1/\getT st.T 15=.int (t.rows.length:Nat)/\getT st.T 16=.int (x.2.2.1.length:Nat)/\st.S=x.1/\st.tk=tk/\st.n=x.2.1) (fun x=>x.2.2.2.1.length) ((S++[⟨k,zeroQ⟩]),(k+1),([]:List (List Q)),t.rows,(none:Option (Nat × Q)),false) ?_ ?_;case refine_2=>exact ⟨rfl,by simp [Br],rfl,by simp only [Fs]; exact ai.app _,⟨_,Al rfl,rfl,fun _ _ h=>aT⟩,by simp,fun j hj _=>Bv hj,rfl,rfl,rfl,rfl,rfl,rfl,rfl,rfl,rfl,rfl⟩
 rintro ⟨SS,n1,P,U,bst,fq⟩ ⟨T,S',tk',n'⟩ ⟨hl,hR,fh,hT,ke,gf,bm,e0,e1,e5,e6,e14,e15,e16,eS,eT,eN⟩ IH;simp only at hR fh hT ke gf bm e0 e1 e5 e6 e14 e15 e16 eS eT eN;subst eS eT eN;obtain ⟨g,hg,hT⟩:=Ao hl;rw [hg] at e0 e1 e5 e6 e14 e15 e16;subst hT;clear hg hl;have q9:t.rows.length=P.length+U.length:=fU
 obtain ⟨lc,hlc,xw,hlb⟩:=ke;by_cases ck:P.length<t.rows.length
 ·have c1:decide ((P.length:Int)<(t.rows.length:Int))=true:=dM
  obtain ⟨r0,U,rfl⟩:∃ r0 U',U=r0 :: U':=by
   exact Ya3l
  have xq:U.length<(r0 :: U).length:=by simp
  obtain ⟨pk,ip⟩:=Ab (show P.length<I.ids.length by rw [ai.nids]; exact ck);have dw:nth (jW P.length (I.ids.map (g8 t.cost.length ua2))) 0=some (.sref pk.1 pk.2 0 t.cost.length ua2):=Eg (by rw [Ae] at ip ⊢; rw [F1,ip]; rfl);have jw:nth t.rows P.length=some r0:=by rw [fh]; exact Er
  have dy:=ai.rowW r0 (Ak jw);have og:=ai.okr r0 (Ak jw);have nj:=hT.rowsE ci;have eh:=hT.rowE P.length pk r0 ip jw;have dj:=hT.top;simp only at dj;rw [Bm dk,Bm dk] at dj;obtain ⟨x,hx⟩:=Ab (show c<r0.length by omega);obtain ⟨z,hz⟩:=Ab (show t.cost.length - 1<r0.length by omega);have ox:=og x (Ak hx);have oz:=og z (Ak hz);have jx:=Ax (ce:=ga0) ga1 hx;have o4:=Ax (ce:=ga0) ga1 hz;have hs:=Aey S' tk' n' iq eq (Ck t.fl fq) x ox hT.fa;have hw2:Ce.wrap ((P.length:Int)+1)=(((P++[r0]).length:Nat):Int):=bU
  have jy:t.rows=(P++[r0])++U:=fU
  have lz:(P++[r0]).length=P.length+1:=by simp
  by_cases j7:sgn x<=0
  ·have c2:decide (sgn x<=0)=true:=fP
   simp (maxSteps:=10^6)+contextual(disch:=try exact dqd)only[evg1,simprocAttr,Cc,Ca,Cd,ga12,e0,e1,e5,e6,e14,e15,e16,c1,c2,hw2,dj,nj,dw,eh,jx,ck,hc,hs,Ga,xfs,puQ,tkQ,Fa];exact IH (S',n'+ua3,P++[r0],U,bst,fq) _ aF ⟨rfl,by rw [hR,lz]; simp only [B4,Bb hx]; rw [if_pos j7],jy,hT,⟨lc,hlc,xw,fun bi q h=>by obtain ⟨h1,h2,h3⟩:=hlb bi q h; exact ⟨h1,Za36,h3⟩⟩,gf,bm,bD⟩
  ·have c2:decide (sgn x<=0)=false:=fP
   obtain ⟨y,hy⟩:∃ y,y=qF.over z x:=⟨_,rfl⟩;have oy:qF.ok y.1:=by rw [hy]; exact Dk.over _ _ oz ox
   have c9:=Axv S' tk' (n'+ua3) iq eq (Ck t.fl fq) z x oz ox hT.fa;have hg1:=Es (c:=y.2) hT.fa;rw [<- hy] at c9;obtain ⟨S2,bg⟩:∃ S2,S2=flS S' iq eq y.2:=⟨_,rfl⟩;rw [<- bg] at c9 hg1;have cj:FAq S2 iq eq (Ck (Ck t.fl fq) y.2):=by rw [bg]; exact hT.fa.fS
   have hl2:S2.length=S'.length:=by rw [bg,Bi]
   have bj:∀ j,j≠iq->nth S2 j=nth S' j:=fun j hj=>by rw [bg,ga6 hj]
   have ju:nth S2 S.length=nth S' S.length:=Za5n
   have o5:entAt S2 S.length k=some lc:=by rw [Ac ju]; exact hlc
   have jh:Ce.wrap ((t.cost.length:Int) - 1)=((t.cost.length - 1:Nat):Int):=aP
   have o6:t.cost.length - 1<t.cost.length:=aA
   obtain ⟨n2,r7⟩:∃ n2,n2=n'+ua3+Abs x:=⟨_,rfl⟩;rw [<- r7] at c9;obtain ⟨E,hE⟩:∃ E:Ent,E=⟨n2,ga0 y.1⟩:=⟨_,rfl⟩;have xx:entAt (S2++[⟨n2,ga0 y.1⟩]) S2.length n2=some (ga0 y.1):=B8;have l6:=Ad (L:=[⟨n2,ga0 y.1⟩]) o5;have a03:over lc 0 (ga0 y.1)=some (ga0 y.1):=by
    have:=R5 (e:=lc) (r:=[]) (e':=ga0 y.1) (by rw [xw]; rfl);exact Ya1f
   have hSl:S.length<S2.length:=aA
   have a04:∀ v,Oq S'.length (put S2 S.length v++[⟨n2,ga0 y.1⟩])=put S2 S.length v:=fun v=>by rw [<- hl2,<- Am (l:=S2) (i:=S.length) (v:=v)]; simp
   have a05 v:=Du (L:=[⟨n2,ga0 y.1⟩]) (x:=v) hSl;cases bst with
   | none =>
    have c3:decide ((-1:Int) >= 0)=false:=rfl;simp only [Ny] at e5;simp (maxSteps:=10^6)+contextual(disch:=try exact dqd)only[evg1,simprocAttr,Cc,Ca,Cd,ga12,e0,e1,e5,e6,e14,e15,e16,c1,c2,c3,hw2,dj,nj,dw,eh,jx,o4,jh,o6,ck,hc,hs,c9,hg1,xx,l6,a03,a05,a04,Ga,xfs,puQ,tkQ,ga1,ga5,ovQ,Fa];have ee:=hT.frame (S':=put S2 S.length ⟨k,ga0 y.1⟩) (n:=S.length) (fl':=Ck (Ck t.fl fq) y.2) (az.of fun h=>h) (fun j h1 h2=>by rw [Af aA,bj j h2]) (by first|exact ⟨⟩|exact cj.put (fun h=>dC));exact IH (put S2 S.length ⟨k,ga0 y.1⟩,n2+1,P++[r0],U,some (P.length,y.1),Ck fq y.2) _ aF ⟨rfl,by rw [hR,lz]; simp only [B4,Bb hx,Bb hz]; rw [if_neg j7,<- hy,<- F7],jy,by simpa only [F7] using ee,⟨_,Ai hSl,ga1 _,fun bi q h=>Za5g⟩,by rw [Am,hl2]; exact gf,fun j h1 h2=>by rw [Af aE,bj j h2.1]; exact bm j h1 h2,bD⟩
   | some bq =>
    obtain ⟨bi,least⟩:=bq;obtain ⟨a06,hbi,ol⟩:=hlb bi least rfl;subst a06;have c3:decide ((bi:Int) >= 0)=true:=by simp
    simp only [Ny] at e5;obtain ⟨d,hd⟩:∃ d,d=qF.minus y.1 least:=⟨_,rfl⟩;have fu:=M1 (S2++[⟨n2,ga0 y.1⟩]) tk' (n2+1) iq eq (Ck (Ck t.fl fq) y.2) y.1 least oy ol (cj.app (L:=[⟨n2,ga0 y.1⟩]));have hg2:=Es (c:=d.2) (b:=Ck (Ck t.fl fq) y.2) (cj.app (L:=[⟨n2,ga0 y.1⟩]));rw [<- hd] at fu;rw [Hs cj] at fu hg2;obtain ⟨S3,de⟩:∃ S3,S3=flS S2 iq eq d.2:=⟨_,rfl⟩;rw [<- de] at fu hg2;have od:qF.ok d.1:=by rw [hd]; exact Dk.minus _ _ oy ol
    have d8:FAq S3 iq eq (Ck (Ck (Ck t.fl fq) y.2) d.2):=by rw [de]; exact cj.fS
    have n9:=Aey (S3++[⟨n2,ga0 y.1⟩]) tk' (n2+1+ua4) iq eq (Ck (Ck (Ck t.fl fq) y.2) d.2) d.1 od (d8.app (L:=[⟨n2,ga0 y.1⟩]));have fg:S3.length=S2.length:=by rw [de,Bi]
    have cr:∀ j,j≠iq->nth S3 j=nth S2 j:=fun j hj=>by rw [de,ga6 hj]
    have l7:nth S3 S.length=nth S2 S.length:=by rw [de]; first|rfl|exact A1 dC
    have l8:entAt (S2++[⟨n2,ga0 y.1⟩]) I.it I.et=some [.ifc ua0 (rcvQ iq eq),intA t.vars,intA t.real,.sref I.ir I.er 0 t.rows.length 1,.sref I.ic I.ec 0 t.cost.length ua2,.sref I.ib I.eb 0 t.rows.length 1,.frz (t.flip.map Dx) cc]:=Ad (by rw [Ac (bj _ ai.ap.qt.symm)]; exact dj);have p9:entAt (S3++[⟨n2,ga0 y.1⟩]) I.it I.et=some [.ifc ua0 (rcvQ iq eq),intA t.vars,intA t.real,.sref I.ir I.er 0 t.rows.length 1,.sref I.ic I.ec 0 t.cost.length ua2,.sref I.ib I.eb 0 t.rows.length 1,.frz (t.flip.map Dx) cc]:=Ad (by rw [Ac (cr _ ai.ap.qt.symm),Ac (bj _ ai.ap.qt.symm)]; exact dj);have xj:entAt (S3++[⟨n2,ga0 y.1⟩]) I.ib I.eb=some (t.basis.map intA):=Ad (by rw [Ac (cr _ ai.ap.qb.symm),Ac (bj _ ai.ap.qb.symm)]; exact hT.basisE ci);obtain ⟨bk,oq⟩:=Ab (show P.length<t.basis.length by rw [ai.nb]; exact ck);obtain ⟨bb,xy⟩:=Ab (show bi<t.basis.length by rw [ai.nb]; omega);have jz:nth (jW P.length (t.basis.map intA)) 0=some (.prim (.int .i64 (bk:Int))):=Eg (by rw [Ae] at oq ⊢; rw [F1,oq]; rfl);have r8:nth (jW bi (t.basis.map intA)) 0=some (.prim (.int .i64 (bb:Int))):=Eg (by rw [Ae] at xy ⊢; rw [F1,xy]; rfl);have o7:bi<t.rows.length:=aA
    have xz:entAt (S3++[⟨n2,ga0 y.1⟩]) S2.length n2=some (ga0 y.1):=Al fg;have x5:entAt (S3++[⟨n2,ga0 y.1⟩]) S.length k=some (ga0 least):=Ad Za4o;have x6:Oq S'.length (S3++[⟨n2,ga0 y.1⟩])=S3:=by rw [<- hl2,<- fg]; simp
    have x7:∀ v,Oq S'.length (put S3 S.length v++[⟨n2,ga0 y.1⟩])=put S3 S.length v:=fun v=>by rw [<- hl2,<- fg,<- Am (l:=S3) (i:=S.length) (v:=v)]; simp
    have x8 v:=Du (L:=[⟨n2,ga0 y.1⟩]) (x:=v) (show S.length<S3.length by omega);have hw:worse t.basis (sgn d.1) P.length bi=(decide (0<sgn d.1) || (sgn d.1 == 0 && decide (bb<bk))):=by unfold worse; rw [Bb oq,Bb xy]
    have r9:Ck fq (Ck (Ck y.2 d.2) (B4 qF t.basis c t.cost.length (P++[r0]).length U (if worse t.basis (sgn d.1) P.length bi=true then some (bi,least) else some (P.length,y.1))).2)=Ck (Ck fq (Ck y.2 d.2)) (B4 qF t.basis c t.cost.length (P++[r0]).length U (if worse t.basis (sgn d.1) P.length bi=true then some (bi,least) else some (P.length,y.1))).2:=(F7 _ _ _).symm;have ji:Br qF t c=((B4 qF t.basis c t.cost.length (P++[r0]).length U (if worse t.basis (sgn d.1) P.length bi=true then some (bi,least) else some (P.length,y.1))).1,Ck (Ck fq (Ck y.2 d.2)) (B4 qF t.basis c t.cost.length (P++[r0]).length U (if worse t.basis (sgn d.1) P.length bi=true then some (bi,least) else some (P.length,y.1))).2):=by
     rw [hR,<- r9,lz]; simp only [B4,Bb hx,Bb hz]; rw [if_neg j7,<- hy,<- hd]
    have vf:A2 S3 iq eq I { t with fl:=Ck t.fl (Ck fq (Ck y.2 d.2)) } cc:=by
     have:=hT.frame (S':=S3) (n:=S.length) (fl':=Ck (Ck (Ck t.fl fq) y.2) d.2) (az.of fun h=>h) (fun j h1 h2=>by rw [cr j h2,bj j h2]) d8;simpa only [F7] using this
    have hTn:A2 (put S3 S.length ⟨k,ga0 y.1⟩) iq eq I { t with fl:=Ck t.fl (Ck fq (Ck y.2 d.2)) } cc:=vf.frame (n:=S.length) (az.of fun h=>h) (fun j h1 h2=>by rw [Af aA]) (by first|exact ⟨⟩|exact vf.fa.put (fun h=>dC));by_cases h1:0<sgn d.1
    ·have k1:decide (sgn d.1 > 0)=true:=aW
     have iu:worse t.basis (sgn d.1) P.length bi=true:=by rw [hw]; simp [h1]
     rw [if_pos iu] at ji;simp (maxSteps:=10^6)+contextual(disch:=try exact dqd)only[evg1,simprocAttr,Cc,Ca,Cd,ga12,e0,e1,e5,e6,e14,e15,e16,c1,c2,c3,k1,hw2,dj,l8,p9,xj,nj,dw,eh,jx,o4,jh,o6,ck,o7,hc,hs,n9,c9,fu,hg1,hg2,xx,l6,jz,r8,x6,Ga,xfs,puQ,tkQ,ga1,ga5,ovQ,Fa];exact Ya0p
    have k1:decide (sgn d.1 > 0)=false:=aW
    by_cases h2:sgn d.1=0
    ·have k2:(sgn d.1 == 0)=true:=bT
     by_cases h3:bb<bk
     ·have k3:decide ((bk:Int) > (bb:Int))=true:=eF
      have iu:worse t.basis (sgn d.1) P.length bi=true:=by rw [hw]; simp [h2,h3]
      rw [if_pos iu] at ji;simp (maxSteps:=10^6)+contextual(disch:=try exact dqd)only[evg1,simprocAttr,Cc,Ca,Cd,ga12,e0,e1,e5,e6,e14,e15,e16,c1,c2,c3,k1,k2,k3,hw2,dj,l8,p9,xj,nj,dw,eh,jx,o4,jh,o6,ck,o7,hc,hs,n9,c9,fu,hg1,hg2,xx,l6,jz,r8,x6,Ga,xfs,puQ,tkQ,ga1,ga5,ovQ,Fa];exact Ya0p
     ·have k3:decide ((bk:Int) > (bb:Int))=false:=aC
      have iu:worse t.basis (sgn d.1) P.length bi=false:=by rw [hw]; simp [h2,h3]
      rw [iu,if_neg Nz] at ji;simp (maxSteps:=10^6)+contextual(disch:=try exact dqd)only[evg1,simprocAttr,Cc,Ca,Cd,ga12,e0,e1,e5,e6,e14,e15,e16,c1,c2,c3,k1,k2,k3,hw2,dj,l8,p9,xj,nj,dw,eh,jx,o4,jh,o6,ck,o7,hc,hs,n9,c9,fu,hg1,hg2,xx,l6,xz,x5,jz,r8,x7,x8,ovQ2,Ga,xfs,puQ,tkQ,ga1,ga5,ovQ,Fa];exact Ya06
    ·have k2:(sgn d.1 == 0)=false:=bT
     have iu:worse t.basis (sgn d.1) P.length bi=false:=by rw [hw]; simp [h1,h2]
     rw [iu,if_neg Nz] at ji;simp (maxSteps:=10^6)+contextual(disch:=try exact dqd)only[evg1,simprocAttr,Cc,Ca,Cd,ga12,e0,e1,e5,e6,e14,e15,e16,c1,c2,c3,k1,k2,hw2,dj,l8,p9,xj,nj,dw,eh,jx,o4,jh,o6,ck,o7,hc,hs,n9,c9,fu,hg1,hg2,xx,l6,xz,x5,x7,x8,ovQ2,Ga,xfs,puQ,tkQ,ga1,ga5,ovQ,Fa];exact Ya06
 ·have c1:decide ((P.length:Int)<(t.rows.length:Int))=false:=dM
  have xt:U=[]:=Fc.1 aA;subst xt;simp (maxSteps:=10^6)+contextual(disch:=try exact dqd)only[evg1,simprocAttr,Cc,Ca,Cd,ga12,e0,e1,e5,e6,e14,e15,e16,c1];simp only [B4,Fs] at hR;have jd:fz3 S.length S' (Ny bst)=Ny bst:=by cases bst <;> rfl
  rw [hΦ,hR,jd];exact ⟨_,_,rfl,cV,hT.take (az.of fun h=>h),fun j hj=>by
   by_cases jn:j<S.length
   ·rw [Gs jn]; exact bm j jn hj
   ·rw [Ae,Ae,Et cV,Et aA]⟩):p:=h
namespace QQ
theorem Aq1:Ay9:=Ma9
end QQ
end
end
section
open Go Go.Proofs.Tryz
open Go.Proofs.Tryz renaming func116->ga13,ntmps116->ga14,results116->ga15
open Go.Proofs.YthelkgdmgihhiaaGreat renaming ceQ->ga0,Aw->ga1
set_option maxRecDepth 100000
namespace QQ
abbrev ua7:Nat:=116
end QQ
set_option maxHeartbeats 8000000
set_option maxRecDepth 100000
section
variable (S:List Ent) (tk:List Nat) (k iq eq:Nat)
abbrev Ay10 (p:Prop:=by exact ∀ (S:List Ent)(tk:List Nat)(k iq eq:Nat)(I:TI)(t t':Tb)(cc:Cap)(K:Nat)(b:Bool)(ai:A2 S iq eq I t cc)(hK:Hr qF K t=some (b,t')),∃ r,cL prog ua7 [.ref I.it I.et 0] S tk k=some r/\Z9 S tk iq eq I t' cc (.bool b) r):=p
theorem Ma10 {p:Prop} (h:p:=by
 intro S tk k iq eq I t t' cc K b ai hK;obtain ⟨Φ,hΦ⟩:∃ Φ,Φ=Z9 S tk iq eq I t' cc (.bool b):=⟨_,rfl⟩;rw [<- hΦ];refine opG ga13 ga14 ?_;simp (maxSteps:=10^6)+contextual(disch:=try exact dqd)only[evg1,simprocAttr,Cc,Ca,Cd,ga15];refine Gm (P:=prog) (fun x st=>st.T.length=46/\(Hr qF x.2.2.1 x.2.2.2=some (b,t'))/\(A2 x.1 iq eq I x.2.2.2 cc)/\(x.1.length=S.length)/\(∀ j,OutQ I iq j->nth x.1 j=nth S j)/\getT st.T 0=.ref I.it I.et 0/\st.S=x.1/\st.tk=tk/\st.n=x.2.1) (fun x=>x.2.2.1) (S,k,K,t) ?_ ?_;case refine_2=>exact ⟨rfl,hK,ai,rfl,fun j _=>rfl,rfl,rfl,rfl,rfl⟩
 rintro ⟨SS,n1,K1,t1⟩ ⟨T,S',tk',n'⟩ ⟨hl,fi,hT,gf,bm,e0,eS,eT,eN⟩ IH;simp only at fi hT gf bm e0 eS eT eN;subst eS eT eN;obtain ⟨g,hg,hT⟩:=Ao hl;rw [hg] at e0;subst hT;clear hg hl;have IHA:=IH;clear IH;cases K1 with
 | zero=>simp [Hr] at fi
 | succ K1 =>
 have aj:=hT.top;have dh:=hT.real;have hW:=hT.bigW;have i9:=Af5 S' tk' n' iq eq t1.fl hT.fa;have jv:Oq S.length S'=S':=Dc aA;unfold Hr at fi;cases ag:(qF.stop && t1.fl) with
 | true =>
  rw [ag] at fi i9;rw [if_pos rfl] at fi;simp only [A3,Ch] at fi;obtain ⟨rfl,rfl⟩:=fi;simp (maxSteps:=10^6)+contextual(disch:=try exact dqd)only[evg1,simprocAttr,Cc,Ca,Cd,ga15,e0,aj,i9,Ga,xfs,puQ];rw [hΦ,jv];exact ⟨S',n',rfl,gf,hT,bm⟩
 | false =>
 rw [ag] at fi i9;rw [if_neg Nz] at fi;simp only [intA] at aj;simp (maxSteps:=10^6)+contextual(disch:=try exact dqd)only[evg1,simprocAttr,Cc,Ca,Cd,ga15,e0,aj,i9,Ga,xfs,puQ];refine Gm (P:=prog) (fun x st=>st.T.length=46/\(x.2<=t1.real)/\(colF t1.cost t1.real 0=colF t1.cost (t1.real - x.2) x.2)/\getT st.T 0=.ref I.it I.et 0/\getT st.T 3=.int (-1)/\getT st.T 14=.int (t1.real:Nat)/\getT st.T 15=.int (x.2:Nat)/\st.S=S'/\st.tk=tk'/\st.n=x.1) (fun x=>t1.real - x.2) (n',0) ?_ ?_;case refine_2=>exact ⟨rfl,Cl _,rfl,rfl,rfl,rfl,rfl,rfl,rfl,rfl⟩
 rintro ⟨n2,j⟩ ⟨T,S',tk',n'⟩ ⟨hl,hj,hc,e0,e3,e14,e15,eS,eT,eN⟩ IH;simp only at hj hc e0 e3 e14 e15 eS eT eN;subst eS eT eN;obtain ⟨g,hg,hT⟩:=Ao hl;rw [hg] at e0 e3 e14 e15;subst hT;clear hg hl;by_cases sa:j<t1.real
 ·have c1:decide ((j:Int)<(t1.real:Int))=true:=fQ
  have hw:Ce.wrap ((j:Int)+1)=((j+1:Nat):Int):=aY
  have o8:j<t1.cost.length:=aA
  obtain ⟨x,hx⟩:=Ab o8;have ox:=hT.okc x (Ak hx);have jx:=Ax (ce:=ga0) ga1 hx;have hs:=Aey S' tk' n' iq eq t1.fl x ox hT.fa;have jq:=hT.costE;have zd:colF t1.cost (t1.real - j) j=if sgn x<0 then some j else colF t1.cost (t1.real - (j+1)) (j+1):=by
   rw [show t1.real - j=(t1.real - (j+1))+1 by omega];simp only [colF,Bb hx]
  by_cases hneg:sgn x<0
  ·have c2:decide (sgn x<0)=true:=bV
   have c3:decide ((j:Int)<0)=false:=by simp
   rw [hc,zd,if_pos hneg] at fi;simp only at fi;obtain ⟨r,ov,S2,k2,rfl,hl2,au,cj⟩:=Aq1 S' tk' (n'+ua3) iq eq I t1 cc j hT o8;obtain ⟨lv,x9⟩:∃ lv,lv=Br qF t1 j:=⟨_,rfl⟩;rw [<- x9] at fi ov au;obtain ⟨lb,lf⟩:=lv;cases lb with
   | none =>
    simp only [A3,Ch] at fi;obtain ⟨rfl,rfl⟩:=fi;have c4:decide ((-1:Int)<0)=true:=rfl;simp only [Ny] at ov;have ya:Oq S.length S2=S2:=Dc aA;simp (maxSteps:=10^6)+contextual(disch:=try exact dqd)only[evg1,simprocAttr,Cc,Ca,Cd,ga15,e0,e3,e14,e15,c1,c2,c3,c4,aj,jq,jx,o8,hs,ov,Ga,xfs,puQ,tkQ];rw [hΦ,ya];exact ⟨S2,k2,rfl,aA,au,fun j hj=>by rw [cj j hj]; exact bm j hj⟩
   | some bq =>
    obtain ⟨i,q⟩:=bq;simp only at fi;have zf:i<t1.rows.length:=Amu (F:=qF) (t:=t1) (c:=j) (q:=q) (f:=lf) x9.symm;obtain ⟨r,qf,S3,k3,rfl,fg,ee,d8⟩:=Axz S2 tk' k2 iq eq I _ cc i j au zf o8;have c4:decide ((i:Int)<0)=false:=by simp
    simp only [Ny] at ov;have yb:Oq S'.length S3=S3:=Dc aA;simp (maxSteps:=10^6)+contextual(disch:=try exact dqd)only[evg1,simprocAttr,Cc,Ca,Cd,ga15,e0,e3,e14,e15,c1,c2,c3,c4,aj,jq,jx,o8,hs,ov,qf,yb,Ga,xfs,puQ,tkQ];exact IHA (S3,k3,K1,Ef qF { t1 with fl:=Ck t1.fl lf } i j) _ aF ⟨rfl,fi,ee,aE,fun j hj=>by rw [d8 j hj,cj j hj]; exact bm j hj,bD⟩
  ·have c2:decide (sgn x<0)=false:=bV
   rw [zd,if_neg hneg] at hc;simp (maxSteps:=10^6)+contextual(disch:=try exact dqd)only[evg1,simprocAttr,Cc,Ca,Cd,ga15,e0,e3,e14,e15,c1,c2,hw,aj,jq,jx,o8,hs,Ga,xfs,puQ,tkQ];exact IH (n'+ua3,j+1) _ aF ⟨rfl,aE,hc,bD⟩
 ·have c1:decide ((j:Int)<(t1.real:Int))=false:=fQ
  have c3:decide ((-1:Int)<0)=true:=rfl;have po:t1.real - j=0:=aA
  rw [hc,po] at fi;simp only [colF,A3,Ch] at fi;obtain ⟨rfl,rfl⟩:=fi;simp (maxSteps:=10^6)+contextual(disch:=try exact dqd)only[evg1,simprocAttr,Cc,Ca,Cd,ga15,e0,e3,e14,e15,c1,c3,aj];rw [hΦ,jv];exact ⟨S',n',rfl,gf,hT,bm⟩):p:=h
namespace QQ
theorem Aqe:Ay10:=Ma10
end QQ
end
end
section
open Go Go.Proofs.Tryz
open Go.Proofs.Tryz renaming func117->ga16,ntmps117->ga17,results117->ga18,func145->ga19,ntmps145->ga20,results145->ga21
open Go.Proofs.YthelkgdmgihhiaaGreat renaming ceQ->ga0,Aw->ga1,Bx->ga5
set_option maxRecDepth 100000
namespace QQ
abbrev ua8:Nat:=117
abbrev ua9:Nat:=145
end QQ
set_option maxHeartbeats 4000000
set_option maxRecDepth 100000
theorem Aaw {basis:List Nat} {k:Nat} : ∀ {l:List (List Q)} {i j:Nat},K4 basis k i l=some j->i<=j/\j<i+l.length/\at_ 0 basis j=k
 | [],_,_,h=>by simp [K4] at h
 | r :: l,i,j,h=>by
  unfold K4 at h;split at h
  ·simp only [A3] at h; subst h; rename_i h; exact ⟨Cf _,by simp,h⟩
  ·have:=Aaw h; simp only [Cm]; omega
namespace QQ
def Av3 (S:List Ent) (tk:List Nat) (iq eq:Nat) (y:Q × Bool) (r:Rs):Prop:=∃ k',r=(.agg (ceQ y.1),flS S iq eq y.2,tk,k')
end QQ
section
variable (S:List Ent) (tk:List Nat) (k iq eq:Nat)
abbrev Ay11 (p:Prop:=by exact ∀ (S:List Ent)(tk:List Nat)(k iq eq:Nat)(I:TI)(t:Tb)(cc:Cap)(hT:A2 S iq eq I t cc),∃ r,cL prog ua8 [.ref I.it I.et 0] S tk k=some r/\Z9 S tk iq eq I t cc (.bool (Jc t)) r):=p
theorem Ma11 {p:Prop} (h:p:=by
 intro S tk k iq eq I t cc hT;obtain ⟨Φ,hΦ⟩:∃ Φ,Φ=Z9 S tk iq eq I t cc (.bool (Jc t)):=⟨_,rfl⟩;rw [<- hΦ];have aj:=hT.top;have hW:=hT.bigW;have dh:=hT.real;have jq:=hT.costE;obtain ⟨z,hz⟩:=Ab (show t.cost.length - 1<t.cost.length by omega);have oz:=hT.okc z (Ak hz);have o4:=Ax (ce:=ga0) ga1 hz;have hs:=Aey S tk k iq eq t.fl z oz hT.fa;have jh:Ce.wrap ((t.cost.length:Int) - 1)=((t.cost.length - 1:Nat):Int):=aP
 have o6:t.cost.length - 1<t.cost.length:=aA
 refine opG ga16 ga17 ?_;simp (maxSteps:=10^6)+contextual(disch:=try exact dqd)only[evg1,simprocAttr,Cc,Ca,Cd,ga18,aj,jq,o4,jh,o6,hs,Ga,xfs,puQ,tkQ];rw [hΦ];exact ⟨S,_,by simp only [Jc,Bb hz]; rfl,rfl,hT,fun j _=>rfl⟩):p:=h
namespace QQ
theorem Al2:Ay11:=Ma11
end QQ
abbrev Ay12 (p:Prop:=by exact ∀ (S:List Ent)(tk:List Nat)(k iq eq:Nat)(I:TI)(t:Tb)(cc:Cap)(c:Nat)(hT:A2 S iq eq I t cc),∃ r,cL prog ua9 [.ref I.it I.et 0,.int c] S tk k=some r/\Av3 S tk iq eq (Dd qF t c) r):=p
theorem Ma12 {p:Prop} (h:p:=by
 intro S tk k iq eq I t cc c hT;obtain ⟨Φ,hΦ⟩:∃ Φ,Φ=Av3 S tk iq eq (Dd qF t c):=⟨_,rfl⟩;rw [<- hΦ];have aj:=hT.top;have hM:=hT.bigM;have hW:=hT.bigW;have dh:=hT.real;have az:=hT.low;obtain ⟨y,hy⟩:∃ y,y=qF.whole 0:=⟨_,rfl⟩;obtain ⟨h,hh⟩:∃ h,h=dq I.ib I.eb 1 t.rows.length:=⟨_,rfl⟩;have hlen:lenV false true h=some (.int (t.rows.length:Nat)):=by
  rw [hh];cases t.rows.length with
  | zero=>rfl
  | succ n=>rfl
 rw [<- hh] at aj;have ca:=hT.fa.app (L:=[⟨k,zeroQ⟩]);have gv:=Ly (S++[⟨k,zeroQ⟩]) tk (k+1) iq eq t.fl 0 aD ca;rw [<- hy,Hs hT.fa] at gv;have hl1:(flS S iq eq y.2).length=S.length:=Bi;have hE:=Al (k:=k) (cs:=zeroQ) hl1;have vg:=Al (k:=k) (cs:=ga0 y.1) hl1;have hP e e':=Dp (e:=e) (e':=e') hl1;have vf L:=Kb (L:=L) hl1;have htA:=Ad (L:=[⟨k,zeroQ⟩]) aj;refine opG ga19 ga20 ?_;simp (maxSteps:=10^6)+contextual(disch:=try exact dqd)only[evg1,simprocAttr,Cc,Ca,Cd,ga21,aj,htA,hlen];refine Gm (P:=prog) (fun x st=>st.T.length=44/\(t.rows=x.1++x.2)/\(K4 t.basis c 0 t.rows=K4 t.basis c x.1.length x.2)/\getT st.T 0=.ref I.it I.et 0/\getT st.T 1=.int (c:Nat)/\getT st.T 4=.ref S.length k 0/\getT st.T 10=h/\getT st.T 11=.int (t.rows.length:Nat)/\getT st.T 12=.int (x.1.length:Nat)/\st.S=S++[⟨k,zeroQ⟩]/\st.tk=tk/\st.n=k+1) (fun x=>x.2.length) (([]:List (List Q)),t.rows) ?_ ?_;case refine_2=>exact ⟨rfl,rfl,rfl,rfl,rfl,rfl,rfl,rfl,rfl,rfl,rfl,rfl⟩
 rintro ⟨P,U⟩ ⟨T,S',tk',n'⟩ ⟨hl,fh,hR,e0,e1,e4,e10,e11,e12,eS,eT,eN⟩ IH;simp only at fh hR e0 e1 e4 e10 e11 e12 eS eT eN;subst eS eT eN;obtain ⟨g,hg,hT⟩:=Ao hl;rw [hg] at e0 e1 e4 e10 e11 e12;subst hT;clear hg hl;have q9:t.rows.length=P.length+U.length:=fU
 by_cases ck:P.length<t.rows.length
 ·have c1:decide ((P.length:Int)<(t.rows.length:Int))=true:=dM
  have dk:0<t.rows.length:=aA
  have ci:t.rows≠[]:=fun h0=>by rw [h0] at dk; simp at dk
  rw [Bm dk] at hh;subst hh;have dj:=hT.top;rw [Bm dk,Bm dk] at dj;obtain ⟨r0,U,rfl⟩:∃ r0 U',U=r0 :: U':=by
   exact Ya3l
  have xq:U.length<(r0 :: U).length:=by simp
  have hw2:Ce.wrap ((P.length:Int)+1)=(((P++[r0]).length:Nat):Int):=bU
  have lz:(P++[r0]).length=P.length+1:=by simp
  obtain ⟨bk,oq⟩:=Ab (show P.length<t.basis.length by rw [hT.nb]; exact ck);have jz:nth (jW P.length (t.basis.map intA)) 0=some (.prim (.int .i64 (bk:Int))):=Eg (by rw [Ae] at oq ⊢; rw [F1,oq]; rfl);have ve:=Ad (L:=[⟨k,zeroQ⟩]) (hT.basisE ci);have htB:=Ad (L:=[⟨k,zeroQ⟩]) dj;by_cases hb:bk=c
  ·have c2:((bk:Int) == (c:Int))=true:=by simp [hb]
   obtain ⟨pk,ip⟩:=Ab (show P.length<I.ids.length by rw [hT.nids]; exact ck);have dw:nth (jW P.length (I.ids.map (g8 t.cost.length ua2))) 0=some (.sref pk.1 pk.2 0 t.cost.length ua2):=Eg (by rw [Ae] at ip ⊢; rw [F1,ip]; rfl);have jw:nth t.rows P.length=some r0:=by rw [fh]; exact Er
   have dy:=hT.rowW r0 (Ak jw);have nj:=Ad (L:=[⟨k,zeroQ⟩]) (hT.rowsE ci);have eh:=Ad (L:=[⟨k,zeroQ⟩]) (hT.rowE P.length pk r0 ip jw);obtain ⟨z,hz⟩:=Ab (show t.cost.length - 1<r0.length by omega);have o4:=Ax (ce:=ga0) ga1 hz;have jh:Ce.wrap ((t.cost.length:Int) - 1)=((t.cost.length - 1:Nat):Int):=aP
   have o6:t.cost.length - 1<t.cost.length:=aA
   have fe:Dd qF t c=(z,false):=by
    unfold Dd;rw [hR];unfold K4;rw [Bb oq,if_pos hb];simp only [Da,Bb jw,Bb hz]
   have cd:entAt (S++[⟨k,ga0 z⟩]) S.length k=some (ga0 z):=Al rfl;have bj:∀ e e',put (S++[e]) S.length e'=S++[e']:=fun e e'=>Dp rfl;simp (maxSteps:=10^6)+contextual(disch:=try exact dqd)only[evg1,simprocAttr,Cc,Ca,Cd,ga21,e0,e1,e4,e10,e11,e12,c1,c2,htB,ve,jz,nj,dw,eh,o4,jh,o6,ck,cd,bj,H3,Asj,tkQ,ga1,ga5,ovQ,Fa];rw [hΦ,fe];exact ⟨_,rfl⟩
  ·have c2:((bk:Int) == (c:Int))=false:=aC
   simp (maxSteps:=10^6)+contextual(disch:=try exact dqd)only[evg1,simprocAttr,Cc,Ca,Cd,ga21,e0,e1,e4,e10,e11,e12,c1,c2,htB,ve,jz,ck,hw2,Fa];exact IH (P++[r0],U) _ aF ⟨rfl,fU,by rw [hR,lz]; simp only [K4]; rw [Bb oq,if_neg hb],bD⟩
 ·have c1:decide ((P.length:Int)<(t.rows.length:Int))=false:=dM
  have xt:U=[]:=Fc.1 aA;subst xt;have fe:Dd qF t c=y:=by unfold Dd; rw [hR]; simp only [K4]; exact hy.symm
  simp (maxSteps:=10^6)+contextual(disch:=try exact dqd)only[evg1,simprocAttr,Cc,Ca,Cd,ga21,e0,e1,e4,e10,e11,e12,c1,htA,gv,hE,vg,hP,vf,Ga,xfs,puQ,Asj,tkQ,ga1,ga5,ovQ];rw [hΦ,fe];exact ⟨_,rfl⟩):p:=h
namespace QQ
theorem Ala:Ay12:=Ma12
end QQ
end
end
section
open Go
set_option maxRecDepth 100000
namespace QQ
theorem E3 (n:Int) (hn:i64 n):qF.ok (qF.whole n).1:=Dk.whole n hn
end QQ
abbrev Ay13 (p:Prop:=by exact ∀ {S:List Ent}{iq eq:Nat}{I:TI}{t:Tb}{cc:Cap}{c:Nat}(hT:A2 S iq eq I t cc),qF.ok (Dd qF t c).1):=p
theorem Ma13 {p:Prop} (h:p:=by
 intro hT;unfold Dd;split
 ·rename_i i hi;have hlt:=(Aaw hi).2.1;obtain ⟨r0,ci⟩:=Ab (show i<t.rows.length by omega);have dy:=hT.rowW r0 (Ak ci);have dh:=hT.real;obtain ⟨z,hz⟩:=Ab (show t.cost.length - 1<r0.length by omega);simp only [Da,Bb ci,Bb hz];exact hT.okr r0 (Ak ci) z (Ak hz)
 ·exact E3 0 aD):p:=h
namespace QQ
theorem Ak7:Ay13:=fun {S iq eq I t cc c}=>Ma13
end QQ
end
section
open Go Go.Proofs.Tryz
open Go.Proofs.Tryz renaming func119->ga22,ntmps119->ga23,results119->ga24,func118->ga25,ntmps118->ga26,results118->ga27
open Go.Proofs.YthelkgdmgihhiaaGreat renaming ceQ->ga0,Aw->ga1,Bx->ga5,A1->ga6
set_option maxRecDepth 100000
namespace QQ
abbrev ua10:Nat:=119
abbrev ua11:Nat:=3
abbrev ua12:Nat:=118
end QQ
set_option maxHeartbeats 8000000
set_option maxRecDepth 100000
namespace QQ
def Lp (l:List Q):List (List AV):=l.map fun q=>ceW (qF.rat q)
theorem Ag5 (l:List Q):Dz 4 (Lp l)=true:=Za1b
def Apa (S:List Ent) (iq eq:Nat) (I:TI) (t':Tb) (cc:Cap) (l:List Q) (r:Rs):Prop :=
 ∃ S' k' tk' c,r=(.frz (Lp l) c,S',tk',k')/\S'.length=S.length/\A2 S' iq eq I t' cc/\∀ j,OutQ I iq j->nth S' j=nth S j
end QQ
section
variable (S:List Ent) (tk:List Nat) (k iq eq:Nat)
abbrev Ay14 (p:Prop:=by exact ∀ (S:List Ent)(tk:List Nat)(k iq eq:Nat)(I:TI)(t:Tb)(cc:Cap)(ai:A2 S iq eq I t cc)(hv:2*t.vars<=t.real),∃ r,cL prog ua10 [.ref I.it I.et 0] S tk k=some r/\Apa S iq eq I { t with fl:=Ck t.fl (Gg qF t).2 } cc (Gg qF t).1 r):=p
theorem Ma14 {p:Prop} (h:p:=by
 intro S tk k iq eq I t cc ai hv;obtain ⟨Φ,hΦ⟩:∃ Φ,Φ=Apa S iq eq I { t with fl:=Ck t.fl (Gg qF t).2 } cc (Gg qF t).1:=⟨_,rfl⟩;rw [<- hΦ];have aj:=ai.top;have hW:=ai.bigW;have dh:=ai.real;simp only [intA] at aj;refine opG ga22 ga23 ?_;simp (maxSteps:=10^6)+contextual(disch:=try exact dqd)only[evg1,simprocAttr,Cc,Ca,Cd,ga24,aj];refine Gm (P:=prog) (fun x st=>st.T.length=40/\(x.2.2.2.2.1<=t.vars)/\(Gg qF t=(x.2.2.2.2.2.1++(Dy (ptF qF t) (t.vars - x.2.2.2.2.1) x.2.2.2.2.1).1,Ck x.2.2.2.2.2.2 (Dy (ptF qF t) (t.vars - x.2.2.2.2.1) x.2.2.2.2.1).2))/\(x.2.2.2.2.2.1.length=x.2.2.2.2.1)/\(Be x.2.2.1 x.2.2.2.1 4=true)/\(A2 x.1 iq eq I { t with fl:=Ck t.fl x.2.2.2.2.2.2 } cc)/\(x.1.length=S.length)/\(∀ v,OutQ I iq v->nth x.1 v=nth S v)/\getT st.T 0=.ref I.it I.et 0/\getT st.T 3=.frz (Lp x.2.2.2.2.2.1) x.2.2.2.1/\getT st.T 8=.int (t.vars:Nat)/\getT st.T 9=.int (x.2.2.2.2.1:Nat)/\st.S=x.1/\st.tk=x.2.2.1/\st.n=x.2.1) (fun x=>t.vars - x.2.2.2.2.1) (S,k,tk,Cap.nilc,0,([]:List Q),false) ?_ ?_;case refine_2=>exact ⟨rfl,Cl _,by simp [Gg],rfl,rfl,by simp only [Fs]; exact ai,rfl,fun j _=>rfl,rfl,rfl,rfl,rfl,rfl,rfl,rfl⟩
 rintro ⟨SS,n1,tk1,cp,j,out,fq⟩ ⟨T,S',tk',n'⟩ ⟨hl,hj,hR,m8,ae,hT,gf,bm,e0,e3,e8,e9,eS,eT,eN⟩ IH;simp only at hj hR m8 ae hT gf bm e0 e3 e8 e9 eS eT eN;subst eS eT eN;obtain ⟨g,hg,hT⟩:=Ao hl;rw [hg] at e0 e3 e8 e9;subst hT;clear hg hl;have jv:Oq S.length S'=S':=Dc aA;by_cases hjv:j<t.vars
 ·have c1:decide ((j:Int)<(t.vars:Int))=true:=by simpa using hjv
  have hw:Ce.wrap ((j:Int)+1)=((j+1:Nat):Int):=aY
  have hwm:Ce.wrap (2*(j:Int))=((2*j:Nat):Int):=aY
  have a07:Ce.wrap (((2*j:Nat):Int)+1)=((2*j+1:Nat):Int):=aY
  have dj:=hT.top;obtain ⟨a,ha⟩:∃ a,a=Dd qF t (2*j):=⟨_,rfl⟩;obtain ⟨b,hb⟩:∃ b,b=Dd qF t (2*j+1):=⟨_,rfl⟩;obtain ⟨d,hd⟩:∃ d,d=qF.minus a.1 b.1:=⟨_,rfl⟩;have oa:qF.ok a.1:=by rw [ha]; exact Ak7 ai
  have ob:qF.ok b.1:=by rw [hb]; exact Ak7 ai
  have od:qF.ok d.1:=by rw [hd]; exact Dk.minus _ _ oa ob
  obtain ⟨r,fv,k1,rfl⟩:=Ala S' tk' n' iq eq I _ cc (2*j) hT;have ea:Dd qF { t with fl:=Ck t.fl fq } (2*j)=a:=ha.symm;rw [ea] at fv;have hg1:=Es (c:=a.2) hT.fa;have nd:=hT.fa.fS (c:=a.2);obtain ⟨S1,di⟩:∃ S1,S1=flS S' iq eq a.2:=⟨_,rfl⟩;have gz:=hT.flag (S':=flS S' iq eq a.2) (fun j hj=>ga6 hj) nd;rw [<- di] at fv hg1 nd gz;obtain ⟨r,hcb,k2,rfl⟩:=Ala S1 tk' k1 iq eq I _ cc (2*j+1) gz;have eb:Dd qF { t with fl:=Ck (Ck t.fl fq) a.2 } (2*j+1)=b:=hb.symm;rw [eb] at hcb;have hg2:=Es (c:=b.2) nd;have cj:=nd.fS (c:=b.2);obtain ⟨S2,bg⟩:∃ S2,S2=flS S1 iq eq b.2:=⟨_,rfl⟩;rw [<- bg] at hcb hg2 cj;have hm:=M1 S2 tk' k2 iq eq _ a.1 b.1 oa ob cj;rw [<- hd] at hm;have hg3:=Es (c:=d.2) cj;have d8:=cj.fS (c:=d.2);obtain ⟨S3,de⟩:∃ S3,S3=flS S2 iq eq d.2:=⟨_,rfl⟩;rw [<- de] at hm hg3 d8;have hr:=Vn S3 tk' (k2+ua4) iq eq _ d.1 od d8;have cr:∀ v,v≠iq->nth S3 v=nth S' v:=fun v hv=>by rw [de,ga6 hv,bg,ga6 hv,di,ga6 hv]
  have fg:S3.length=S'.length:=by rw [de,Bi,bg,Bi,di,Bi]
  have a3e:entAt S1 I.it I.et=_:=gz.top;have hpt:ptF qF t j=(d.1,Ck (Ck a.2 b.2) d.2):=by rw [hd,hb,ha]; rfl
  have l9:Dy (ptF qF t) (t.vars - j) j=(d.1 :: (Dy (ptF qF t) (t.vars - (j+1)) (j+1)).1,Ck (Ck (Ck a.2 b.2) d.2) (Dy (ptF qF t) (t.vars - (j+1)) (j+1)).2):=by
   rw [show t.vars - j=(t.vars - (j+1))+1 by omega];simp only [Dy,hpt]
  have jp:=Ag5 out;have q7:(Lp out).length+1<=1048576:=Za3u
  have hle:Lp (out++[d.1])=Lp out++[ceW (qF.rat d.1)]:=by unfold Lp; simp
  have bo:=apB_one (y:=ceW (qF.rat d.1)) ae jp rfl q7;have ff:=Bw ae;have yc:Oq S'.length S3=S3:=Dc aA;simp (maxSteps:=10^6)+contextual(disch:=try exact dqd)only[evg1,simprocAttr,Cc,Ca,Cd,ga24,e0,e3,e8,e9,c1,hw,hwm,a07,dj,fv,hcb,hm,hr,hg1,hg2,hg3,bo,yc,Ga,xfs,puQ,tkQ,Aq,Bg,Wu,Wv];have ee:=hT.flag (S':=S3) cr d8;exact IH (S3,k2+ua4+ua11,Gj tk' cp,A4 tk' cp 4,j+1,out++[d.1],Ck fq (Ck (Ck a.2 b.2) d.2)) _ aF ⟨rfl,aE,by rw [hR,l9]; simp only [Fh,Cp,Cz,F7],by simp [m8],ff,by simpa only [F7] using ee,aE,fun v hv=>by rw [cr v hv.1]; exact bm v hv,Za07⟩
 ·have c1:decide ((j:Int)<(t.vars:Int))=false:=by simpa using hjv
  have po:t.vars - j=0:=aA
  rw [po] at hR;simp only [Dy,Fp,Fs] at hR;simp (maxSteps:=10^6)+contextual(disch:=try exact dqd)only[evg1,simprocAttr,Cc,Ca,Cd,ga24,e0,e3,e8,e9,c1];rw [hΦ,hR,jv];exact ⟨S',n',tk',cp,rfl,gf,hT,bm⟩):p:=h
namespace QQ
theorem Ax1:Ay14:=Ma14
end QQ
abbrev Ay15 (p:Prop:=by exact ∀ (S:List Ent)(tk:List Nat)(k iq eq:Nat)(I:TI)(t:Tb)(cc:Cap)(ai:A2 S iq eq I t cc)(hv:t.real+t.rows.length<t.cost.length),∃ r,cL prog ua12 [.ref I.it I.et 0] S tk k=some r/\Apa S iq eq I { t with fl:=Ck t.fl (Hc qF t).2 } cc (Hc qF t).1 r):=p
theorem Ma15 {p:Prop} (h:p:=by
 intro S tk k iq eq I t cc ai hv;obtain ⟨Φ,hΦ⟩:∃ Φ,Φ=Apa S iq eq I { t with fl:=Ck t.fl (Hc qF t).2 } cc (Hc qF t).1:=⟨_,rfl⟩;rw [<- hΦ];have aj:=ai.top;have hW:=ai.bigW;have hM:=ai.bigM;have dh:=ai.real;have az:=ai.low;obtain ⟨one,cg⟩:∃ one,one=qF.whole 1:=⟨_,rfl⟩;obtain ⟨z0,hz0⟩:∃ z0,z0=qF.whole 0:=⟨_,rfl⟩;have o1:qF.ok one.1:=by rw [cg]; exact E3 1 aD
 have o0:qF.ok z0.1:=by rw [hz0]; exact E3 0 aD
 have hw1:=Ly S tk k iq eq t.fl 1 aD ai.fa;rw [<- cg] at hw1;have nd:=ai.fa.fS (c:=one.2);obtain ⟨S1,di⟩:∃ S1,S1=flS S iq eq one.2:=⟨_,rfl⟩;have gz:=ai.flag (S':=flS S iq eq one.2) (fun j hj=>ga6 hj) nd;have hl1:(flS S iq eq one.2).length=S.length:=Bi;have cd:∀ v,v≠iq->nth (flS S iq eq one.2) v=nth S v:=fun v hv=>ga6 hv;rw [<- di] at hw1 nd gz hl1 cd;obtain ⟨h,hh⟩:∃ h,h=dq I.ir I.er 1 t.rows.length:=⟨_,rfl⟩;have hlen:lenV false true h=some (.int (t.rows.length:Nat)):=by
  rw [hh];cases t.rows.length with
  | zero=>rfl
  | succ n=>rfl
 rw [<- hh] at aj;have dj:entAt (S1++[⟨k+ua3,ga0 one.1⟩]) I.it I.et=_:=Ad gz.top;simp only at dj;rw [<- hh] at dj;refine opG ga25 ga26 ?_;simp (maxSteps:=10^6)+contextual(disch:=try exact dqd)only[evg1,simprocAttr,Cc,Ca,Cd,ga27,aj,hw1,dj,hlen,Ga,xfs,puQ,ga1,ga5,ovQ];rw [hl1];refine Gm (P:=prog) (fun x st=>st.T.length=71/\(x.2.2.2.2.1<=t.rows.length)/\(Dy (mulF qF t) t.rows.length 0=(x.2.2.2.2.2.1++(Dy (mulF qF t) (t.rows.length - x.2.2.2.2.1) x.2.2.2.2.1).1,Ck x.2.2.2.2.2.2 (Dy (mulF qF t) (t.rows.length - x.2.2.2.2.1) x.2.2.2.2.1).2))/\(x.2.2.2.2.2.1.length=x.2.2.2.2.1)/\(Be x.2.2.1 x.2.2.2.1 4=true)/\(A2 x.1 iq eq I { t with fl:=Ck (Ck t.fl one.2) x.2.2.2.2.2.2 } cc)/\(x.1.length=S.length+1)/\(∀ v,v<S.length->OutQ I iq v->nth x.1 v=nth S v)/\(entAt x.1 S.length (k+ua3)=some (ga0 one.1))/\getT st.T 0=.ref I.it I.et 0/\getT st.T 3=.frz (Lp x.2.2.2.2.2.1) x.2.2.2.1/\getT st.T 4=.ref S.length (k+ua3) 0/\getT st.T 16=.int (t.rows.length:Nat)/\getT st.T 17=.int (x.2.2.2.2.1:Nat)/\st.S=x.1/\st.tk=x.2.2.1/\st.n=x.2.1) (fun x=>t.rows.length - x.2.2.2.2.1) ((S1++[⟨k+ua3,ga0 one.1⟩]),(k+ua3+1),tk,Cap.nilc,0,([]:List Q),false) ?_ ?_;case refine_2=>exact ⟨rfl,Cl _,by simp,rfl,rfl,by simp only [Fs]; exact gz.app _,by simp [hl1],fun v hv ho=>by rw [Bv aA]; exact cd v ho.1,Al hl1,rfl,rfl,rfl,rfl,rfl,rfl,rfl,rfl⟩
 rintro ⟨SS,n1,tk1,cp,j,out,fq⟩ ⟨T,S',tk',n'⟩ ⟨hl,hj,hR,m8,ae,hT,gf,bm,yd,e0,e3,e4,e16,e17,eS,eT,eN⟩ IH;simp only at hj hR m8 ae hT gf bm yd e0 e3 e4 e16 e17 eS eT eN;subst eS eT eN;obtain ⟨g,hg,hT⟩:=Ao hl;rw [hg] at e0 e3 e4 e16 e17;subst hT;clear hg hl;by_cases hjm:j<t.rows.length
 ·have c1:decide ((j:Int)<(t.rows.length:Int))=true:=by simpa using hjm
  have hw:Ce.wrap ((j:Int)+1)=((j+1:Nat):Int):=aY
  have xe:Ce.wrap ((t.real:Int)+(j:Int))=((t.real+j:Nat):Int):=aY
  have hrc:t.real+j<t.cost.length:=aA
  have htj:=hT.top;simp only [intA] at htj;have jq:=hT.costE;obtain ⟨x,hx⟩:=Ab hrc;have ox:=ai.okc x (Ak hx);have jx:=Ax (ce:=ga0) ga1 hx;obtain ⟨y,hy⟩:∃ y,y=qF.minus x one.1:=⟨_,rfl⟩;have oy:qF.ok y.1:=by rw [hy]; exact Dk.minus _ _ ox o1
  have c9:=M1 S' tk' n' iq eq (Ck (Ck t.fl one.2) fq) x one.1 ox o1 hT.fa;rw [<- hy] at c9;have hg1:=Es (c:=y.2) hT.fa;have cj:=hT.fa.fS (c:=y.2);obtain ⟨S2,bg⟩:∃ S2,S2=flS S' iq eq y.2:=⟨_,rfl⟩;have au:=hT.flag (S':=flS S' iq eq y.2) (fun j hj=>ga6 hj) cj;have hl2:(flS S' iq eq y.2).length=S'.length:=Bi;have bj:∀ v,v≠iq->nth (flS S' iq eq y.2) v=nth S' v:=fun v hv=>ga6 hv;have ju:nth S2 S.length=nth S' S.length:=Za5n
  rw [<- bg] at c9 hg1 cj au hl2 bj;obtain ⟨n2,r7⟩:∃ n2,n2=n'+ua4:=⟨_,rfl⟩;rw [<- r7] at c9;have ye:entAt (S2++[⟨n2,ga0 y.1⟩]) S2.length n2=some (ga0 y.1):=B8;obtain ⟨bf,z6⟩:=Ab (show j<t.flip.length by rw [ai.nf]; exact hjm);have yf:nth (t.flip.map Dx) j=some [.prim (.bool bf)]:=by rw [Ae] at z6 ⊢; rw [F1,z6]; rfl
  have o9:=au.app [⟨n2,ga0 y.1⟩];have l8:=o9.top;simp only [intA] at l8;have j9:∀ v,mulF qF t j=v->Dy (mulF qF t) (t.rows.length - j) j=(v.1 :: (Dy (mulF qF t) (t.rows.length - (j+1)) (j+1)).1,Ck v.2 (Dy (mulF qF t) (t.rows.length - (j+1)) (j+1)).2):=by
   intro v hv;rw [show t.rows.length - j=(t.rows.length - (j+1))+1 by omega];simp only [Dy,hv]
  have jp:=Ag5 out;have q7:(Lp out).length+1<=1048576:=Za3u
  have ff:=Bw ae;cases bf with
  | false =>
   have xo:mulF qF t j=y:=by
    unfold mulF;rw [Bb hx,Bb z6,<- cg,<- hy]; rfl
   have hr:=Vn (S2++[⟨n2,ga0 y.1⟩]) tk' (n2+1) iq eq _ y.1 oy o9.fa;have bo:=apB_one (y:=ceW (qF.rat y.1)) ae jp rfl q7;have ma:Oq S'.length (S2++[⟨n2,ga0 y.1⟩])=S2:=by rw [<- hl2]; simp
   simp (maxSteps:=10^6)+contextual(disch:=try exact dqd)only[evg1,simprocAttr,Cc,Ca,Cd,ga27,e0,e3,e4,e16,e17,c1,hw,xe,htj,jq,jx,hrc,yd,c9,hg1,ye,l8,yf,hr,bo,ma,Ga,xfs,puQ,tkQ,ga1,ga5,ovQ,Aq,Bg,Wu,Wv];exact IH (S2,n2+1+ua11,Gj tk' cp,A4 tk' cp 4,j+1,out++[y.1],Ck fq y.2) _ aF ⟨rfl,aE,by rw [hR,j9 y xo]; simp only [Fh,Cp,Cz,F7],by simp [m8],ff,by simpa only [F7] using au,aE,fun v hv ho=>by rw [bj v ho.1]; exact bm v hv ho,by rw [Ac ju]; exact yd,Za07⟩
  | true =>
   obtain ⟨d,hd⟩:∃ d,d=qF.minus z0.1 y.1:=⟨_,rfl⟩;have od:qF.ok d.1:=by rw [hd]; exact Dk.minus _ _ o0 oy
   have xo:mulF qF t j=(d.1,Ck y.2 (Ck z0.2 d.2)):=by
    unfold mulF;rw [Bb hx,Bb z6,<- cg,<- hy,<- hz0,hd]; rfl
   have z7:=Ly (S2++[⟨n2,ga0 y.1⟩]) tk' (n2+1) iq eq _ 0 aD o9.fa;have hg2:=Es (c:=z0.2) o9.fa;rw [<- hz0] at z7;rw [Hs cj] at z7 hg2;have d8:=cj.fS (c:=z0.2);obtain ⟨S3,de⟩:∃ S3,S3=flS S2 iq eq z0.2:=⟨_,rfl⟩;have ee:=au.flag (S':=flS S2 iq eq z0.2) (fun j hj=>ga6 hj) d8;have fg:(flS S2 iq eq z0.2).length=S2.length:=Bi;have cr:∀ v,v≠iq->nth (flS S2 iq eq z0.2) v=nth S2 v:=fun v hv=>ga6 hv;have l7:nth S3 S.length=nth S2 S.length:=by rw [de]; first|rfl|exact A1 dC
   rw [<- de] at z7 hg2 d8 ee fg cr;have yg:=d8.app (L:=[⟨n2,ga0 y.1⟩]);have fu:=M1 (S3++[⟨n2,ga0 y.1⟩]) tk' (n2+1+ua3) iq eq _ z0.1 y.1 o0 oy yg;have hg3:=Es (c:=d.2) yg;rw [<- hd] at fu;rw [Hs d8] at fu hg3;have hf4:=d8.fS (c:=d.2);obtain ⟨S4,hS4⟩:∃ S4,S4=flS S3 iq eq d.2:=⟨_,rfl⟩;have xu:=ee.flag (S':=flS S3 iq eq d.2) (fun j hj=>ga6 hj) hf4;have oi:(flS S3 iq eq d.2).length=S3.length:=Bi;have hn4:∀ v,v≠iq->nth (flS S3 iq eq d.2) v=nth S3 v:=fun v hv=>ga6 hv;have a08:nth S4 S.length=nth S3 S.length:=by rw [hS4]; first|rfl|exact A1 dC
   rw [<- hS4] at fu hg3 hf4 xu oi hn4;have hE3:entAt (S3++[⟨n2,ga0 y.1⟩]) S2.length n2=some (ga0 y.1):=Al fg;have pb:S4.length=S2.length:=aA
   have sb:entAt (S4++[⟨n2,ga0 y.1⟩]) S2.length n2=some (ga0 y.1):=Al pb;have sc:entAt (S4++[⟨n2,ga0 d.1⟩]) S2.length n2=some (ga0 d.1):=Al pb;have hP4 e e':=Dp (e:=e) (e':=e') pb;have yh:=xu.app [⟨n2,ga0 d.1⟩];have z8:=yh.top;simp only [intA] at z8;have hr:=Vn (S4++[⟨n2,ga0 d.1⟩]) tk' (n2+1+ua3+ua4) iq eq _ d.1 od yh.fa;have bo:=apB_one (y:=ceW (qF.rat d.1)) ae jp rfl q7;have ma:Oq S'.length (S4++[⟨n2,ga0 d.1⟩])=S4:=by rw [<- hl2,<- pb]; simp
   simp (maxSteps:=10^6)+contextual(disch:=try exact dqd)only[evg1,simprocAttr,Cc,Ca,Cd,ga27,e0,e3,e4,e16,e17,c1,hw,xe,htj,jq,jx,hrc,yd,c9,hg1,ye,l8,yf,z7,hg2,hE3,fu,hg3,sb,hP4,sc,z8,hr,bo,ma,Ga,xfs,puQ,tkQ,ga1,ga5,ovQ,ovQ2,Aq,Bg,Wu,Wv];exact IH (S4,n2+1+ua3+ua4+ua11,Gj tk' cp,A4 tk' cp 4,j+1,out++[d.1],Ck fq (Ck y.2 (Ck z0.2 d.2))) _ aF ⟨rfl,aE,by rw [hR,j9 _ xo]; simp only [Fh,Cp,Cz,F7],by simp [m8],ff,by simpa only [F7] using xu,aE,fun v hv ho=>by rw [hn4 v ho.1,cr v ho.1,bj v ho.1]; exact bm v hv ho,by rw [Ac a08,Ac l7,Ac ju]; exact yd,Za07⟩
 ·have c1:decide ((j:Int)<(t.rows.length:Int))=false:=by simpa using hjm
  have po:t.rows.length - j=0:=aA
  rw [po] at hR;simp only [Dy,Fp,Fs] at hR;have hmf:Hc qF t=(out,Ck one.2 fq):=by unfold Hc; rw [hR,<- cg]
  simp (maxSteps:=10^6)+contextual(disch:=try exact dqd)only[evg1,simprocAttr,Cc,Ca,Cd,ga27,e0,e3,e4,e16,e17,c1];rw [hΦ,hmf];have hT5:=hT.take (n:=S.length) (az.of fun h=>h);exact ⟨_,n',tk',cp,rfl,cV,by simpa only [F7] using hT5,fun v hv=>by
   by_cases jn:v<S.length
   ·rw [Gs jn]; exact bm v jn hv
   ·rw [Ae,Ae,Et cV,Et aA]⟩):p:=h
namespace QQ
theorem Ab8:Ay15:=Ma15
end QQ
end
end
section
open Go Go.Proofs.Tryz
def Rg (i:Nat):List ByteArray->ByteArray->Int
 | [],_=>-1
 | x :: l,s=>if sEq x s then i else Rg (i+1) l s
theorem Art (a b:ByteArray):sEq a b=sEq b a:=by
 unfold sEq; rw [iB,beq_iff_eq,beq_iff_eq]; exact ⟨Eq.symm,Eq.symm⟩
section
variable (S:List Ent) (tk:List Nat) (k:Nat)
theorem Acw (l:List ByteArray) (s:ByteArray) (hlen:l.length<=1000000):cL prog 68 [.frz (l.map strC) .unk,.str s] S tk k=some (.int (Rg 0 l s),S,tk,k):=by
 refine opP func68 ntmps68 (hp3:=rfl) ?_;simp (maxSteps:=10^6)+contextual(disch:=try exact dqd)only[ev1,simprocAttr,Cc,Ca,Cd,results68];refine loop1 (P:=prog) (fun x st=>st.T.length=19/\(x<=l.length)/\(Rg 0 l s=Rg x (l.drop x) s)/\getT st.T 0=.frz (l.map strC) .unk/\getT st.T 1=.str s/\getT st.T 7=.int (l.length:Nat)/\getT st.T 8=.int (x:Nat)/\st.S=[]) (fun x=>l.length - x) (fun x=>.int (Rg 0 l s)) (0) ?_ ?_;case refine_2=>exact ⟨rfl,Cl _,rfl,rfl,rfl,rfl,rfl,rfl⟩
 rintro i ⟨T,S',tk',n'⟩ ⟨hl,hi,hA,e0,e1,e7,e8,eS⟩ IH;subst eS;obtain ⟨g,hg,hT⟩:=Ao hl;rw [hg] at e0 e1 e7 e8;subst hT;clear hg hl;by_cases la:i<l.length
 ·have d1:decide ((i:Int)<(l.length:Int))=true:=bR
  obtain ⟨x,hx⟩:=Ab la;have hx':nth (l.map strC) i=some (strC x):=by rw [Bj,hx]; rfl
  have hw:Ce.wrap ((i:Int)+1)=((i+1:Nat):Int):=aY
  rw [Au hx] at hA;simp only [Rg] at hA;have hcm:=Art s x;cases hq:sEq x s <;> rw [hq] at hA hcm
  ·simp (maxSteps:=10^6)+contextual(disch:=try exact dqd)only[ev1,simprocAttr,Cc,Ca,Cd,results68,e0,e1,e7,e8,d1,hx',hw,strC,hq,hcm];exact IH (i+1) _ aF ⟨rfl,aE,by simpa using hA,rfl,rfl,rfl,rfl,rfl⟩
  ·simp (maxSteps:=10^6)+contextual(disch:=try exact dqd)only[ev1,simprocAttr,Cc,Ca,Cd,results68,e0,e1,e7,e8,d1,hx',hw,strC,hq,hcm];simpa using hA.symm
 ·have d1:decide ((i:Int)<(l.length:Int))=false:=bR
  have he:i=l.length:=aA
  simp (maxSteps:=10^6)+contextual(disch:=try exact dqd)only[ev1,simprocAttr,Cc,Ca,Cd,results68,e0,e1,e7,e8,d1];rw [hA,he,C9]; rfl
theorem Xd (l:List ByteArray) (s:ByteArray) (hlen:l.length<=1000000):cL prog 142 [.frz (l.map strC) .unk,.str s] S tk k=some (.int (Rg 0 l s),S,tk,k):=by
 have h S tk k:=Acw S tk k l s hlen;refine opP func142 ntmps142 (hp3:=rfl) ?_;simp (maxSteps:=10^6)+contextual(disch:=try exact dqd)only[ev1,simprocAttr,Cc,Ca,Cd,results142,h]
end
theorem Uc:∀ {l:List ByteArray} {s:ByteArray} {i:Nat},s ∈ l->∃ j,j<l.length/\Rg i l s=((i+j:Nat):Int)/\nth l j=some s
 | [],_,_,h=>aO
 | x :: l,s,i,h=>by
  by_cases hx:sEq x s=true
  ·refine ⟨0,by simp,?_,?_⟩
   ·unfold Rg; rw [if_pos hx]; rfl
   ·have:x=s:=by rw [Pz] at hx; simpa using hx
    rw [this]; rfl
  ·rcases C6.1 h with rfl|h
   ·exact absurd (by rw [Pz]; simp) hx
   ·obtain ⟨j,h1,h2,h3⟩:=Uc (i:=i+1) h;refine ⟨j+1,aW,?_,h3⟩;unfold Rg; rw [if_neg hx,h2]; congr 1; omega
def idxV (vars:List ByteArray) (s:ByteArray):Nat:=(Rg 0 vars s).toNat
theorem Ma {l:List ByteArray} {s:ByteArray} (h:s ∈ l):Rg 0 l s=((idxV l s:Nat):Int)/\idxV l s<l.length:=by
 obtain ⟨j,h1,h2,h3⟩:=Uc (i:=0) h;unfold idxV;rw [h2];exact ⟨aA,aA⟩
def setC (F:Fld) (u z:Q) (ix:Nat) (row:List Q) (n:Int):List Q × Bool :=
 (put (put row (2*ix) (F.times u (F.whole n).1).1) (2*ix+1) (F.minus z (F.times u (F.whole n).1).1).1,((F.whole n).2 || (F.times u (F.whole n).1).2) || (F.minus z (F.times u (F.whole n).1).1).2)
def coefsC (F:Fld) (u z:Q) (vars:List ByteArray):List (ByteArray × Int)->List Q->List Q × Bool
 | [],row=>(row,false)
 | c :: cs,row=>((coefsC F u z vars cs (setC F u z (idxV vars c.1) row c.2).1).1,(setC F u z (idxV vars c.1) row c.2).2 || (coefsC F u z vars cs (setC F u z (idxV vars c.1) row c.2).1).2)
def Jw (F:Fld) (real W k:Nat) (c r:Q):Q × Bool:=if k<real\/k=W - 1 then F.minus c r else (c,false)
def costL (F:Fld) (real W:Nat):Nat->List Q->List Q->List Q × Bool
 | k,c :: cs,r :: rs=>((Jw F real W k c r).1 :: (costL F real W (k+1) cs rs).1,(Jw F real W k c r).2 || (costL F real W (k+1) cs rs).2)
 | _,cs,_=>(cs,false)
def Kc (F:Fld) (flip:Bool):Q × Bool:=if flip=true then ((F.whole (-1)).1,(F.whole 1).2 || (F.whole (-1)).2) else F.whole 1
def Uw (F:Fld) (u z:Q) (n:Int):Q × Bool:=((F.minus z (F.times u (F.whole n).1).1).1,((F.whole n).2 || (F.times u (F.whole n).1).2) || (F.minus z (F.times u (F.whole n).1).1).2)
def P2 (eq:Bool) (row:List Q) (slack:Nat) (u:Q):List Q:=if eq=true then row else put row slack u
def Dm (r:RowT):Bool:=decide (0<r.2.1)
def rowF (F:Fld) (z:Q) (vars:List ByteArray) (real W i slack:Nat) (r:RowT):List Q × Bool :=
 let u:=Kc F (Dm r)
 let a:=coefsC F u.1 z vars r.1 (Cg W z)
 let y:=Uw F u.1 z r.2.1
 (put (put (P2 r.2.2 a.1 slack u.1) (real+i) (F.whole 1).1) (W - 1) y.1,((u.2 || a.2) || (F.whole 1).2) || y.2)
def begS (F:Fld) (z:Q) (vars:List ByteArray) (real W:Nat):List RowT->Nat->Nat->Tb->Tb
 | [],_,_,t=>t
 | r :: l,i,slack,t =>
  let a:=rowF F z vars real W i slack r
  let c:=costL F real W 0 t.cost a.1
  begS F z vars real W l (i+1) (if r.2.2=true then slack else slack+1) { t with rows:=t.rows++[a.1],cost:=c.1,basis:=t.basis++[real+i],flip:=t.flip++[Dm r],fl:=(t.fl || a.2) || c.2 }
def neqs:List RowT->Nat
 | []=>0
 | r :: l=>(if r.2.2=true then 0 else 1)+neqs l
def Bl (F:Fld) (l:List RowT) (vars:List ByteArray) (fl:Bool):Tb :=
 let z:=F.whole 0
 let real:=2*vars.length+neqs l
 let W:=real+l.length+1
 begS F z.1 vars real W l 0 (2*vars.length) { vars:=vars.length,real:=real,rows:=[],cost:=Cg W z.1,basis:=[],flip:=[],fl:=fl || z.2 }
end
section
open Go
open Go.Proofs.YthelkgdmgihhiaaGreat renaming ceQ->ga0
set_option maxRecDepth 100000
abbrev Ay16 (p:Prop:=by exact ∀ {S S':List Ent}{iq eq:Nat}{I:TI}{t:Tb}{c c':Cap}{ir er ib eb id nr b:Nat}{f fl':Bool}{row:List Q}(h:A2 S iq eq I t c)(aj:entAt S' I.it I.et=some [.ifc ua0 (rcvQ iq eq),intA t.vars,intA t.real,.sref ir er 0 (t.rows.length+1) 1,.sref I.ic I.ec 0 t.cost.length ua2,.sref ib eb 0 (t.rows.length+1) 1,.frz ((t.flip++[f]).map Dx) c'])(i8:entAt S' ir er=some ((I.ids++[(id,nr)]).map (g8 t.cost.length ua2)))(sd:entAt S' ib eb=some ((t.basis++[b]).map intA))(b7:entAt S' id nr=some (flat ga0 row))(jp:row.length=t.cost.length)(og:okL qF row)(jj:∀ p ∈ I.ids,nth S' p.1=nth S p.1)(mb:nth S' I.ic=nth S I.ic)(d9:FAq S' iq eq fl')(bo:Apart ⟨I.it,I.et,ir,er,I.ic,I.ec,ib,eb,I.ids++[(id,nr)]⟩ iq)(hm:t.rows.length+1<=1000000)(hb:b<t.cost.length),A2 S' iq eq ⟨I.it,I.et,ir,er,I.ic,I.ec,ib,eb,I.ids++[(id,nr)]⟩ { t with rows:=t.rows++[row],basis:=t.basis++[b],flip:=t.flip++[f],fl:=fl' } c'):=p
theorem Ma16 {p:Prop} (h:p:=by
 intro h aj i8 sd b7 jp og jj mb d9 bo hm hb;have hlen:(t.rows++[row]).length=t.rows.length+1:=by simp
 refine ⟨?_,by simp [h.nids],fun _=>i8,fun i p r hp hr=>?_,fun r hr=>?_,?_,fun _=>sd,by simp [h.nb],by simp [h.nf],d9,bo,fun r hr=>?_,h.okc,h.bigW,by rw [hlen]; exact hm,h.real,fun x hx=>?_⟩
 ·rw [aj]; simp only [hlen,dq]
 ·rw [Ae] at hp hr;by_cases hi:i<I.ids.length
  ·rw [Cu hi,<- Ae] at hp;rw [Cu (by rw [<- h.nids]; exact hi),<- Ae] at hr;rw [Ac (jj p (Ak hp))];exact h.rowE i p r hp hr
  ·have yi:i=I.ids.length:=by
    have:=(Fk.1 hp).1;simp at this; omega
   rw [yi,C3 (Cf _),Mg] at hp;rw [yi,h.nids,C3 (Cf _),Mg] at hr;simp only [M2,A3] at hp hr;subst hp; subst hr;exact b7
 ·rcases Cw.1 hr with hr|hr
  ·exact h.rowW r hr
  ·simp only [F0] at hr; subst hr; exact jp
 ·rw [Ac mb]; exact h.costE
 ·rcases Cw.1 hr with hr|hr
  ·exact h.okr r hr
  ·simp only [F0] at hr; subst hr; exact og
 ·rcases Cw.1 hx with hx|hx
  ·exact h.bB x hx
  ·simp only [F0] at hx; subst hx; exact hb):p:=h
namespace QQ
theorem A2.add:Ay16:=fun {S S' iq eq I t c c' ir er ib eb id nr b f fl' row}=>Ma16
structure G1 (S SS:List Ent) (iq eq:Nat) (I:TI) (t:Tb) (cp:Cap) (L nz n15 n16 n19:Nat) (z:Q) (r:RowT) (row:List Q) (u:Q):Prop where
 T:A2 SS iq eq I t cp
 low:LowQ I iq L t
 Z:entAt SS (S.length+1) nz=some (ceQ z)
 E15:entAt SS L n15=some (rowC r)
 E16:entAt SS (L+1) n16=some (flat ceQ row)
 E19:entAt SS (L+2) n19=some (ceQ u)
 len:SS.length=L+3
 fr:∀ j,j<S.length->j≠iq->nth SS j=nth S j
 qL:iq<S.length
 SL:S.length+3<=L
 ic:I.ic=S.length+2
end QQ
section
variable {S SS S':List Ent} {iq eq:Nat} {I:TI} {t:Tb} {cp:Cap} {L nz n15 n16 n19:Nat} {z u:Q} {r:RowT} {row:List Q}
abbrev Ay17 (p:Prop:=by exact ∀ {S SS S':List Ent}{iq eq:Nat}{I:TI}{t:Tb}{cp:Cap}{L nz n15 n16 n19:Nat}{z u:Q}{r:RowT}{row:List Q}{fl':Bool}(h:G1 S SS iq eq I t cp L nz n15 n16 n19 z r row u)(hS:∀ j,j≠iq->nth S' j=nth SS j)(hl:S'.length=SS.length)(hf:FAq S' iq eq fl'),G1 S S' iq eq I { t with fl:=fl' } cp L nz n15 n16 n19 z r row u):=p
theorem Ma17 {p:Prop} (h:p:=by
 intro h hS hl hf;have hq:=h.qL;have hL:=h.SL;exact ⟨h.T.flag hS hf,h.low.of fun h=>h,by rw [Ac (hS _ aA)]; exact h.Z,by rw [Ac (hS _ aA)]; exact h.E15,by rw [Ac (hS _ aA)]; exact h.E16,by rw [Ac (hS _ aA)]; exact h.E19,by rw [hl]; exact h.len,fun j h1 h2=>by rw [hS j h2]; exact h.fr j h1 h2,hq,hL,h.ic⟩):p:=h
namespace QQ
theorem G1.flag:Ay17:=fun {S SS S' iq eq I t cp L nz n15 n16 n19 z u r row fl'}=>Ma17
end QQ
abbrev Ay18 (p:Prop:=by exact ∀ {S SS:List Ent}{iq eq:Nat}{I:TI}{t:Tb}{cp:Cap}{L nz n15 n16 n19:Nat}{z u:Q}{r:RowT}{row:List Q}(h:G1 S SS iq eq I t cp L nz n15 n16 n19 z r row u)(row':List Q),G1 S (put SS (L+1) ⟨n16,flat ga0 row'⟩) iq eq I t cp L nz n15 n16 n19 z r row' u):=p
theorem Ma18 {p:Prop} (h:p:=by
 intro h row';have hq:=h.qL;have hL:=h.SL;have hl:=h.len;have key:∀ j,j≠L+1->nth (Go.Proofs.YthelkgdmgihhiaaGreat.put SS (L+1) ⟨n16,flat ga0 row'⟩) j=nth SS j:=fun j hj=>Af (O3 hj);have hT:=h.T.frame (S':=Go.Proofs.YthelkgdmgihhiaaGreat.put SS (L+1) ⟨n16,flat ga0 row'⟩) (fl':=t.fl) h.low (fun j h1 h2=>key j aA) (h.T.fa.put aA);exact ⟨hT,h.low,Za5q,Za5o,Ai aA,by rw [Ac (key _ aA)]; exact h.E19,by rw [Am]; exact hl,fun j h1 h2=>Za5l,hq,hL,h.ic⟩):p:=h
namespace QQ
theorem G1.put:Ay18:=fun {S SS iq eq I t cp L nz n15 n16 n19 z u r row}=>Ma18
end QQ
abbrev Ay19 (p:Prop:=by exact ∀ {S SS:List Ent}{iq eq:Nat}{I:TI}{t:Tb}{cp:Cap}{L nz n15 n16 n19:Nat}{z u:Q}{r:RowT}{row:List Q}(h:G1 S SS iq eq I t cp L nz n15 n16 n19 z r row u)(u':Q),G1 S (Go.Proofs.YthelkgdmgihhiaaGreat.put SS (L+2) ⟨n19,ga0 u'⟩) iq eq I t cp L nz n15 n16 n19 z r row u'):=p
theorem Ma19 {p:Prop} (h:p:=by
 intro h u';have hq:=h.qL;have hL:=h.SL;have hl:=h.len;have key:∀ j,j≠L+2->nth (Go.Proofs.YthelkgdmgihhiaaGreat.put SS (L+2) ⟨n19,ga0 u'⟩) j=nth SS j:=fun j hj=>Af (O3 hj);have hT:=h.T.frame (S':=Go.Proofs.YthelkgdmgihhiaaGreat.put SS (L+2) ⟨n19,ga0 u'⟩) (fl':=t.fl) h.low (fun j h1 h2=>key j aA) (h.T.fa.put aA);exact ⟨hT,h.low,Za5q,Za5o,by rw [Ac (key _ aA)]; exact h.E16,Ai aA,by rw [Am]; exact hl,fun j h1 h2=>Za5l,hq,hL,h.ic⟩):p:=h
namespace QQ
theorem G1.unit:Ay19:=fun {S SS iq eq I t cp L nz n15 n16 n19 z u r row}=>Ma19
end QQ
abbrev Ay20 (p:Prop:=by exact ∀ {S SS:List Ent}{iq eq:Nat}{I:TI}{t:Tb}{cp:Cap}{L nz n15 n16 n19:Nat}{z u:Q}{r:RowT}{row:List Q}{k':List Q}(h:G1 S SS iq eq I t cp L nz n15 n16 n19 z r row u)(hk:k'.length=t.cost.length)(ho:okL qF k'),G1 S (Go.Proofs.YthelkgdmgihhiaaGreat.put SS I.ic ⟨I.ec,flat ga0 k'⟩) iq eq I { t with cost:=k' } cp L nz n15 n16 n19 z r row u):=p
theorem Ma20 {p:Prop} (h:p:=by
 intro h hk ho;have hq:=h.qL;have hL:=h.SL;have hl:=h.len;have hic:=h.ic;have key:∀ j,j≠I.ic->nth (Go.Proofs.YthelkgdmgihhiaaGreat.put SS I.ic ⟨I.ec,flat ga0 k'⟩) j=nth SS j:=fun j hj=>Af (O3 hj);have hT:=h.T.setCost (S':=Go.Proofs.YthelkgdmgihhiaaGreat.put SS I.ic ⟨I.ec,flat ga0 k'⟩) (fl':=t.fl) hk ho (fun j h1 h2=>key j h1) (Ai aA) (h.T.fa.put aA);exact ⟨hT,h.low.of fun h=>h,Za5q,Za5o,by rw [Ac (key _ aA)]; exact h.E16,by rw [Ac (key _ aA)]; exact h.E19,by rw [Am]; exact hl,fun j h1 h2=>Za5l,hq,hL,h.ic⟩):p:=h
namespace QQ
theorem G1.cost:Ay20:=fun {S SS iq eq I t cp L nz n15 n16 n19 z u r row k'}=>Ma20
end QQ
end
end
section
open Go
def N8:Code->Nat
 | .seq a _=>N8 a
 | .region id _ _=>id
 | .block _ c=>N8 c
 | .loop c=>N8 c
 | .scope c=>N8 c
 | _=>0
def Lf (n:Nat):Code->List Nat->List Kont->Option (Code × List Kont)
 | .seq a b,lv,k=>match Lf n a lv (.seq b :: k) with|some r=>some r|none=>Lf n b lv k
 | .block id c,lv,k=>Lf n c lv (.block id :: k)
 | .scope c,lv,k=>Lf n c lv k
 | .cond _ a b,lv,k=>match Lf n a lv k with|some r=>some r|none=>Lf n b lv k
 | .loop c,lv,k=>if (N8 c == n)=true then some (.loop c,k) else match lv with
  | x :: lv=>Lf n c lv (.loop c x :: k)
  | []=>none
 | _,_,_=>none
def Am0 (fn:Func) (n:Nat) (lv:List Nat):Option (Code × List Kont):=match fn.body with|some c=>Lf n c lv []|none=>none
section
variable [Globs] {P:Program} [Ext P] {fn:Func}
noncomputable def KA (P:Program) [Ext P] (fn:Func) (n:Nat) (lv:List Nat) (st:St):Option (AV × St):=match Am0 fn n lv with|some (c,k)=>RK P fn c st k|none=>none
theorem Ahv {n:Nat} {lv:List Nat} {c:Code} {k:List Kont} (h:Am0 fn n lv=some (c,k)) {st:St} {fin:Option (AV × St)->Option Rs} {Φ:Rs->Prop} {t:Tag (c,k)} (hg:Gd fin Φ (KX P fn c st k t)):Gd fin Φ (KA P fn n lv st):=by unfold KA; rw [h]; exact hg
theorem Rj {n:Nat} {lv:List Nat} {c:Code} {k:List Kont} (h:Am0 fn n lv=some (c,k)) {st:St} {fin:Option (AV × St)->Option Rs} {Φ:Rs->Prop} {t:Tag (c,k)} (hg:Gd fin Φ (KA P fn n lv st)):Gd fin Φ (KX P fn c st k t):=by unfold KA at hg; rw [h] at hg; exact hg
end
theorem Nj:∀ l:List RowT,neqs l<=l.length
 | []=>Cf _
 | r :: l=>by
  have:=Nj l;unfold neqs;split <;> simp only [Cm] <;> omega
theorem Pm {l:List RowT} {q:Nat} {r:RowT} (h:nth l q=some r):neqs (l.drop q)=(if r.2.2=true then 0 else 1)+neqs (l.drop (q+1)):=by
 rw [Au h]; rfl
section
variable {P:Program} {t:TypeId} {x:AV} {S:List Ent} {n:Nat}
theorem R2 {a b c d e:Nat} : lit1 1 1 [(0,.sref a b c d e)]=some (.lit 1 [.sref a b c d e]):=rfl
theorem Akd (h:apT P t=some 1) (hx:leafOk x=true):apO P t (.frz [] .nilc) (.lit 1 [x]) S n=some (.sref S.length n 0 1 1,S++[⟨n,[x]⟩],n+1):=by
 have hl:litC 1 (.lit 1 [x])=some (1,[x]):=by simp [litC,hx]
 exact Ya34
theorem Akc {c:Cap} (h:apT P t=some 1) (hx:leafOk x=true):apO P t (.frz [] .nilc) (.frz [[x]] c) S n=some (.sref S.length n 0 1 1,S++[⟨n,[x]⟩],n+1):=by
 have hl:litC 1 (.frz [[x]] c)=some (1,[x]):=by simp [litC,hx,Dz]
 exact Ya34
theorem Afg {id ep len:Nat} {cs:List AV} (h:apT P t=some 1) (hx:leafOk x=true) (hE:entAt S id ep=some cs) (hc:cs.length=len) (h0:0<len) (h1:len+1<=1048576):apO P t (.sref id ep 0 len 1) (.lit 1 [x]) S n=some (.sref id n 0 (len+1) 1,put S id ⟨n,cs++[x]⟩,n+1):=by
 have hl:litC 1 (.lit 1 [x])=some (1,[x]):=by simp [litC,hx]
 exact Ya0q
theorem Aff {id ep len:Nat} {cs:List AV} {c:Cap} (h:apT P t=some 1) (hx:leafOk x=true) (hE:entAt S id ep=some cs) (hc:cs.length=len) (h0:0<len) (h1:len+1<=1048576):apO P t (.sref id ep 0 len 1) (.frz [[x]] c) S n=some (.sref id n 0 (len+1) 1,put S id ⟨n,cs++[x]⟩,n+1):=by
 have hl:litC 1 (.frz [[x]] c)=some (1,[x]):=by simp [litC,hx,Dz]
 exact Ya0q
end
structure BegC (S:List Ent) (l:List RowT) (vars:List ByteArray) (iq c W:Nat):Prop where
 hl:l.length<=1000
 nw:vars.length<=1000
 hv:∀ r ∈ l,∀ c ∈ r.1,c.1 ∈ vars
 hc:∀ r ∈ l,i64 r.2.1/\∀ c ∈ r.1,i64 c.2
 fj:fewC l
 oc:iq<S.length
 pp:c=2*vars.length+neqs l
 wd:W=c+l.length+1
namespace QQ
def Ajq (S:List Ent) (l:List RowT) (vars:List ByteArray) (fl:Bool) (k iq eq c W nz:Nat) (z:Q) (i:Nat) (st:St):Prop :=
 ∃ sl t1 I cp,i<=l.length/\Bl qF l vars fl=begS qF z vars c W (l.drop i) i sl t1/\A2 st.S iq eq I t1 cp/\t1.rows.length=i/\t1.cost.length=W/\t1.real=c/\t1.vars=vars.length/\sl+neqs (l.drop i)=c/\Be st.tk cp 1=true/\entAt st.S (S.length+1) nz=some (ceQ z)/\S.length+3<=st.S.length/\(∀ j,j<S.length->j≠iq->nth st.S j=nth S j)/\(I.it=S.length/\I.et=k/\I.ic=S.length+2)/\(S.length+2<I.ir/\S.length+2<I.ib/\∀ p ∈ I.ids,S.length+2<p.1) /\
  st.T.length=270/\getT st.T 0=.ifc 118 (rcvQ iq eq)/\getT st.T 1=.frz (l.map rowC) .unk/\getT st.T 2=.frz (vars.map strC) .unk/\getT st.T 7=.ref S.length k 0/\getT st.T 10=.int (sl:Nat)/\getT st.T 11=.int (W:Nat)/\getT st.T 12=.ref (S.length+1) nz 0/\getT st.T 83=.frz (l.map rowC) .unk/\getT st.T 84=.int (l.length:Nat)/\getT st.T 85=.int (i:Nat)
end QQ
end
end Go.Proofs.YthelkgdmgihhiaaGreat
