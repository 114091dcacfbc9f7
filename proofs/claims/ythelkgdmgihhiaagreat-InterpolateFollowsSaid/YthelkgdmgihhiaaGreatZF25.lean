/- Part 25. -/
import Derived.Test.YthelkgdmgihhiaaGreatZF24
import Derived.Test.YthelkgdmgihhiaaGreatRows
import Derived.ProofKit
import Derived.Below
import Derived.Carry
import Derived.ChangeSame
import Derived.Lib.SmallJoins
open Bool renaming and_eq_true->Ch,or->Ck,false_eq_true->C6,or_false->Fy,or_assoc->F8,or_eq_true->Ib,false_ne_true->Iy,false_or->N2,eq_iff_iff->Vn,not_eq_true->jZ
open Go.DataW renaming trod->iZ,Trod->jX
open Go.IntKind renaming i64->Cd
open Go.Proofs.YthelkgdmgihhiaaGreat.AV renaming bool->Bm,int->Ca,str->Cb
open Go.Value renaming okWide->jK
open List renaming replicate->Cg,length_cons->Ci,length_append->Cm,map_cons->Cn,cons_append->Co,nil_append->Cr,map_nil->Cs,length_nil->Cu,getElem?_append_left->Cv,length_eq_zero_iff->Cw,append_assoc->Cy,mem_append->C3,mem_cons->C4,getElem?_eq_none->C5,getElem?_map->Et,take_length->Fb,take_of_length_le->Fc,length_map->Fg,getElem?_append_right->Fh,drop_length->Fi,map_append->Fk,append_nil->Fo,mem_singleton->F4,getElem?_eq_some_iff->F5,mem_map->F9,pairwise_cons->Ia,length_pos_iff->Ic,mem_of_getElem?->Il,length_take->I1,getElem?_cons_zero->Mf,take->Oe,drop->O7,singleton_append->iB,mem_of_mem_take->iK
open Nat renaming le_refl->Ce,zero_le->Cl,mul_one->Fj,zero_add->Fm,add_zero->Ik,sub_self->Ob
open Ne renaming symm->Ix
open Option.some renaming injEq->Ba
open Prod.mk renaming injEq->Cf
namespace Go.Proofs.YthelkgdmgihhiaaGreat
section
open Go Go.Proofs.Tryz Go.ChangeShapes Go.WideShapes Go.ChangeAt Go.RowKit
set_option maxRecDepth 100000
theorem Au1 {f:FuncId} {args:List AV} {W:World} {vs:Array Value} (h:cL prog f args [] [] 0=some (.bool true,[],[],0)) (hv:VRs (C0 W) args vs.toList) :
  Calls prog f vs W fun e w'=>e=.returned (.bool true)/\Below W.heap.size W w':=by
 refine (Aet mixed h (C:=C0 W) rfl rfl rfl Atj hv).mono ?_;rintro e w' ⟨v,C',rfl,rfl,hle,-,-,-,-,hr⟩;simp only [VR] at hr;refine ⟨by rw [hr],⟨hle.os,hle.tape,hle.output,hle.size,fun b hb=>hle.keep b hb fun o hm=>Zg hm⟩⟩
def types:List TypeId:=[4,3,9,67,23,28,30,22,24]
theorem closed:Acp prog types=true:=aM
theorem Arh {n:Int} (h:(Lit.int .i64 n).wf=true):i64 n:=by
 simp only [Lit.wf,Ch,decide_eq_true_eq] at h;exact ⟨h.1,h.2⟩
theorem As9 {avs:List AV} (h:Sh prog 67 avs):∃ c:ByteArray × Int,avs=Ao c/\i64 c.2:=by
 obtain ⟨p0,p1,rfl,h0,h1⟩:=Rg underlying67 h;obtain ⟨s,rfl,-⟩:=Avw underlying9 h0;obtain ⟨n,rfl,hn⟩:=Are underlying3 h1;exact ⟨(s,n),rfl,Arh hn⟩
theorem Ap5 {avs:List AV} (h:Sh prog 23 avs):∃ cs:List (ByteArray × Int),avs=[Ag cs]/\∀ c ∈ cs,i64 c.2:=by
 obtain ⟨es,rfl,h1,-⟩:=Agm underlying23 h;obtain ⟨cs,rfl,h2⟩:=Alz (f:=Ao) (Q:=fun c=>i64 c.2) fun x hx=>As9 (h1 x hx);exact ⟨cs,rfl,h2⟩
def rowI (r:RowT):Prop:=i64 r.2.1/\∀ c ∈ r.1,i64 c.2
theorem Arf {avs:List AV} (h:Sh prog 30 avs):∃ r:RowT,avs=rowC r/\rowI r:=by
 obtain ⟨p0,p1,rfl,h0,h1⟩:=Rg underlying30 h;obtain ⟨q0,q1,rfl,g0,g1⟩:=Rg underlying28 h0;obtain ⟨cs,rfl,hc⟩:=Ap5 g0;obtain ⟨n,rfl,hn⟩:=Are underlying3 g1;obtain ⟨b,rfl⟩:=As8 underlying4 h1;exact ⟨(cs,n,b),rfl,Arh hn,hc⟩
section
variable {H:Type} {enc:TypeId × Value->H} {w:World} {r:Go.Reach} {b0:Nat} {sp:Nat->Bool} {ka:Bool} {v:Value} {d:DataW H} {p:List MemPlace}
theorem read {t:TypeId} (ht:t ∈ types) (h:jX enc prog w 0 sp ka t v d p):∃ avs,Sh prog t avs/\PRs w (C0 w).Avoid avs v.cells.toList :=
 Ast closed (fun b o v h=>absurd h Xc) ht h
theorem Abo (hv:jK prog w r b0 22 v) (h:jX enc prog w 0 sp ka 22 v d p):∃ l:List RowT,VR (C0 w) (Au l) v/\(∀ r ∈ l,rowI r)/\l.length<=maxLen:=by
 obtain ⟨avs,h1,h2⟩:=read (by simp [types]) h;obtain ⟨es,rfl,h3,h5⟩:=Agm underlying22 h1;obtain ⟨l,rfl,h4⟩:=Alz (f:=rowC) (Q:=rowI) fun x hx=>Arf (h3 x hx);obtain ⟨a,n,c,rfl⟩:=okWide_slice underlying22 hv;exact ⟨l,Avb rfl h2,h4,by simpa using h5⟩
theorem Apq (hv:jK prog w r b0 30 v) (h:jX enc prog w 0 sp ka 30 v d p):∃ r:RowT,VR (C0 w) (.agg (rowC r)) v:=by
 obtain ⟨xs,rfl,-⟩:=okWide_struct underlying30 hv;obtain ⟨avs,h1,h2⟩:=read (by simp [types]) h;obtain ⟨r,rfl,-⟩:=Arf h1;exact ⟨r,Aub h2⟩
end
section
variable {H:Type} {enc:TypeId × Value->H} {P:Program}
theorem Yq {f:Func} {s:ChangeSpec} {apart fresh a0f again:Bool} {W W':World} {args:Array Value} {v:Value} {ds gs:List (DataW H)} {before pa pv:List MemPlace}
  (hW:DataW.Whole enc P f.params.toList s.vars apart W args.toList ds gs before)
  (a2n:∀ (b:Nat) (sp:Nat->Bool) (hd:Bool),DataW.TrodAll enc P W' b sp hd f.resultTypes.toList (v.resultList f.resultTypes.size) (s.fn H (ds++gs)).results [])
  (aa:∀ sp:Nat->Bool,(∀ p ∈ before,sp p.block=true)->DataW.TrodAll enc P W' 0 sp true f.params.toList args.toList (s.fn H (ds++gs)).args pa)
  (a0r:∀ sp:Nat->Bool,(∀ p ∈ before,sp p.block=true)->DataW.TrodVars enc P W' sp s.vars (s.fn H (ds++gs)).vars pv)
  (qa:before=pa++pv) (hb:Below W.heap.size W W')
  (ab:∀ (j:Nat) (t:TypeId) (r:Value),f.resultTypes[j]?=some t->(v.resultList f.resultTypes.size)[j]?=some r->jK P W' .any 0 t r) :
  s.post enc P f apart fresh a0f again W args v W':=by
 have hlt:∀ p ∈ before,p.block<W.heap.size:=fun p hp=>hW.lt p hp;have gg:∀ p ∈ before,(fun b=>decide (b<W.heap.size)) p.block=true:=fun p hp=>by simpa using hlt p hp
 refine ⟨ds,gs,before,[],pa,pv,hW,a2n _ _ _,aa _ gg,a0r _ gg,World.keptBut_mono (fun p hp=>⟨hp,?_⟩) (hb.frame (· ∈ before)),fun _=>?_⟩
 ·rw [qa,C3] at hp;exact Or.inr hp
 ·obtain ⟨_,_,_,_,_,hz,hn⟩:=hW;refine ⟨ab,_,_,([]++pa)++pv,⟨[]++pa,pv,trodAll_append (aa _ (fun _ _=>rfl)) (a2n _ _ _),a0r _ (fun _ _=>rfl),rfl,?_,?_⟩,?_⟩
  ·intro b off hp;have g8:MemPlace.cell b off ∈ before:=by rw [qa]; simpa using hp
   rw [hb.frozen (hlt _ g8)];exact hz b off g8
  ·intro ha;have:=hn ha;rw [qa] at this;exact Ya1y
  ·intro p hp _;rw [qa];simpa using hp
end
theorem Amz {H:Type} {enc:TypeId × Value->H} {W:World} {base:Nat} {sp:Nat->Bool} {ka:Bool} (b:Bool):jX enc prog W base sp ka 4 (.bool b) (.lit (.bool b)) []:=⟨1,by simp [iZ,Value.cells,underlying4]⟩
theorem Adn {W:World} (c:Bool):jK prog W .any 0 4 (.bool c):=by simp [jK,underlying4,Cell.okWide,Cell.ok]
theorem Try.own:ownKnob prog.godebug=none:=aM
theorem Try.laidOut:laidOutB prog=true:=aM
end
section
open Go Go.Proofs.Tryz
set_option maxRecDepth 100000
theorem W2 {l:List RowT} {i:Nat} {r:RowT} (h:nth l i=some r):Ec (l.take (i+1))=Ec (l.take i)++r.1.map (·.1):=by
 rw [D4 h,Ahx]
theorem Ao8 {l:List RowT} (h:fewC l) (i:Nat):fewC (l.take i):=fun r hr=>h r (iK hr)
theorem Ak3 {l:List RowT} (h:fewC l) (hl:l.length<=64) (i:Nat):(Ec (l.take i)).length<=1536:=by
 have h1:=Abj (Ao8 h i);have:(l.take i).length<=64:=aC
 omega
theorem Ate (l:List ByteArray):(uniS l).length<=l.length:=(Kj l).2.2
section
variable (S:List Ent) (tk:List Nat) (k:Nat)
theorem N7 (l:List RowT) (hf:fewC l) (hl:l.length<=64):cL prog 70 [Au l] S tk k=some (Ap (Ee l),S,tk,k):=by
 refine opP func70 ntmps70 ?_;simp (maxSteps:=10^6)+contextual(disch:=try exact dqd)only[ev1,simprocAttr,Ca,Bm,Cb,results70,Au];refine loop1 (P:=prog) (fun x st=>st.T.length=30/\(x.1<=l.length)/\(x.2.1=uniS (Ec (l.take x.1)))/\getT st.T 3=.frz (x.2.1.map strC) x.2.2/\getT st.T 8=Au l/\getT st.T 9=.int l.length/\getT st.T 10=.int (x.1:Nat)/\st.S=[]) (fun x=>l.length - x.1) (fun x=>Ap (Ee l)) (0,[],.nilc) ?_ ?_;case refine_2=>exact ⟨rfl,Cl _,rfl,rfl,rfl,rfl,rfl,rfl⟩
 rintro ⟨i,out,c⟩ ⟨T,S',tk',n'⟩ ⟨hl,hi,ho,e3,e8,e9,e10,eS⟩ IH;simp only at hi ho e3 e8 e9 e10 eS;subst eS;obtain ⟨g,hg,hT⟩:=Ar hl;rw [hg] at e3 e8 e9 e10;subst hT;clear hg hl;have OUT:=IH;clear IH;have dx:=A4 (i:=i) aA;by_cases hlt:i<l.length
 ·have d1:decide ((i:Int)<(l.length:Int))=true:=aN
  obtain ⟨r,hx⟩:=Ac hlt;have hx':=Kx hx;have i5:=hf r (U9 hx);have sf:=Ak3 hf hl i;have lh:=W2 hx;simp only [rowC,Ag] at hx';simp (maxSteps:=10^6)+contextual(disch:=try exact dqd)only[ev1,simprocAttr,Ca,Bm,Cb,results70,e3,e8,e9,e10,d1,Au,hx'];refine loop1 (P:=prog) (fun x st=>st.T.length=30/\(x.1<=r.1.length)/\(x.2.1=uniS (Ec (l.take i)++(r.1.take x.1).map (·.1)))/\getT st.T 3=.frz (x.2.1.map strC) x.2.2/\getT st.T 8=Au l/\getT st.T 9=.int l.length/\getT st.T 10=.int (i:Nat)/\getT st.T 16=.frz (r.1.map Ao) .unk/\getT st.T 17=.int r.1.length/\getT st.T 18=.int (x.1:Nat)/\st.S=[⟨n',[.frz (r.1.map Ao) .unk,.int r.2.1,.bool r.2.2]⟩]) (fun x=>r.1.length - x.1) (fun x=>Ap (Ee l)) (0,out,c) ?_ ?_;case refine_2=>exact ⟨rfl,Cl _,by simp [ho],rfl,rfl,rfl,rfl,rfl,rfl,rfl,rfl⟩
  rintro ⟨j,out2,c2⟩ ⟨T,S',tk',n'⟩ ⟨hl,hj,j5,e3,e8,e9,e10,e16,e17,e18,eS⟩ IH;simp only at hj j5 e3 e8 e9 e10 e16 e17 e18 eS;subst eS;obtain ⟨g,hg,hT⟩:=Ar hl;rw [hg] at e3 e8 e9 e10 e16 e17 e18;subst hT;clear hg hl;have s5:=A4 (i:=j) aA;have rt:(Ec (l.take i)++(r.1.take j).map (·.1)).length<=1600:=aC
  have hul:=Ate (Ec (l.take i)++(r.1.take j).map (·.1));by_cases cd:j<r.1.length
  ·have d2:decide ((j:Int)<(r.1.length:Int))=true:=bY
   obtain ⟨q,hq⟩:=Ac cd;have l7:=Afz hq;simp only [Ao] at l7;have hU S tk k:=Ai1 S tk k out2 q.1 c2 .tight (by rw [j5]; exact (Kj _).1) (by rw [j5]; omega);have vf:=D4 hq;simp only [Ap] at hU;simp (maxSteps:=10^6)+contextual(disch:=try exact dqd)only[ev1,simprocAttr,Ca,Bm,Cb,results70,e3,e8,e9,e10,e16,e17,e18,d2,l7,s5,hU];exact IH (j+1,putS out2 q.1,.unk) _ aF ⟨rfl,aE,by rw [vf,Fk,<- Cy,Cn,Cs,Aqa,j5],aI,aI,aI,aI,aI,aI,aI,aI⟩
  ·have d2:decide ((j:Int)<(r.1.length:Int))=false:=bY
   have qo:j=r.1.length:=aA
   subst qo;rw [Fb] at j5;simp (maxSteps:=10^6)+contextual(disch:=try exact dqd)only[ev1,simprocAttr,Ca,Bm,Cb,results70,e3,e8,e9,e10,e16,e17,e18,d2,dx];exact OUT (i+1,out2,c2) _ aF ⟨rfl,aE,by rw [lh,j5],aI,aI,aI,aI,aI⟩
 ·have d1:decide ((i:Int)<(l.length:Int))=false:=aN
  have g9:i=l.length:=aA
  subst g9;rw [Fb] at ho;simp (maxSteps:=10^6)+contextual(disch:=try exact dqd)only[ev1,simprocAttr,Ca,Bm,Cb,results70,e3,e8,e9,e10,d1,Au];rw [ho]; rfl
theorem Gi (l:List RowT) (hf:fewC l) (hl:l.length<=64):cL prog 41 [Au l] S tk k=some (Ap (Ee l),S,tk,k):=by
 refine opP func41 ntmps41 ?_;simp (maxSteps:=10^6)+contextual(disch:=try exact dqd)only[ev1,simprocAttr,Ca,Bm,Cb,results41,Au];refine loop1 (P:=prog) (fun x st=>st.T.length=31/\(x.1<=l.length)/\(x.2.1=Ec (l.take x.1))/\(Be st.tk x.2.2 1=true)/\((!x.2.1.isEmpty || Ur x.2.2)=true)/\getT st.T 3=.frz (x.2.1.map strC) x.2.2/\getT st.T 8=Au l/\getT st.T 9=.int l.length/\getT st.T 10=.int (x.1:Nat)/\st.S=[]) (fun x=>l.length - x.1) (fun x=>Ap (Ee l)) (0,[],.nilc) ?_ ?_;case refine_2=>exact ⟨rfl,Cl _,rfl,rfl,rfl,rfl,rfl,rfl,rfl,rfl⟩
 rintro ⟨i,out,c⟩ ⟨T,S',tk',n'⟩ ⟨hl,hi,ho,ab,hc,e3,e8,e9,e10,eS⟩ IH;simp only at hi ho ab hc e3 e8 e9 e10 eS;subst eS;obtain ⟨g,hg,hT⟩:=Ar hl;rw [hg] at e3 e8 e9 e10;subst hT;clear hg hl;have OUT:=IH;clear IH;have dx:=A4 (i:=i) aA;have sf:=Ak3 hf hl i;by_cases hlt:i<l.length
 ·have d1:decide ((i:Int)<(l.length:Int))=true:=aN
  obtain ⟨r,hx⟩:=Ac hlt;have hx':=Kx hx;have i5:=hf r (U9 hx);have lh:=W2 hx;simp only [rowC,Ag] at hx';simp (maxSteps:=10^6)+contextual(disch:=try exact dqd)only[ev1,simprocAttr,Ca,Bm,Cb,results41,e3,e8,e9,e10,d1,Au,hx'];refine loop1 (P:=prog) (fun x st=>st.T.length=31/\(x.1<=r.1.length)/\(x.2.1=Ec (l.take i)++(r.1.take x.1).map (·.1))/\(Be st.tk x.2.2 1=true)/\((!x.2.1.isEmpty || Ur x.2.2)=true)/\getT st.T 3=.frz (x.2.1.map strC) x.2.2/\getT st.T 8=Au l/\getT st.T 9=.int l.length/\getT st.T 10=.int (i:Nat)/\getT st.T 16=.frz (r.1.map Ao) .unk/\getT st.T 17=.int r.1.length/\getT st.T 18=.int (x.1:Nat)/\st.S=[⟨n',[.frz (r.1.map Ao) .unk,.int r.2.1,.bool r.2.2]⟩]) (fun x=>r.1.length - x.1) (fun x=>Ap (Ee l)) (0,out,c) ?_ ?_;case refine_2=>exact ⟨rfl,Cl _,by simp [ho],ab,hc,rfl,rfl,rfl,rfl,rfl,rfl,rfl,rfl⟩
  rintro ⟨j,out2,c2⟩ ⟨T,S',tk',n'⟩ ⟨hl,hj,j5,dy,hc2,e3,e8,e9,e10,e16,e17,e18,eS⟩ IH;simp only at hj j5 dy hc2 e3 e8 e9 e10 e16 e17 e18 eS;subst eS;obtain ⟨g,hg,hT⟩:=Ar hl;rw [hg] at e3 e8 e9 e10 e16 e17 e18;subst hT;clear hg hl;have s5:=A4 (i:=j) aA;have rt:out2.length<=1600:=by rw [j5]; simp; omega
  have hr:=Gg out2;have am:=Bi dy;have ci:(out2.map strC).length+1<=1048576:=aC
  by_cases cd:j<r.1.length
  ·have d2:decide ((j:Int)<(r.1.length:Int))=true:=bY
   obtain ⟨q,hq⟩:=Ac cd;have l7:=Afz hq;simp only [Ao] at l7;have vf:=D4 hq;simp (maxSteps:=10^6)+contextual(disch:=try exact dqd)only[ev1,simprocAttr,Ca,Bm,Cb,results41,e3,e8,e9,e10,e16,e17,e18,d2,l7,s5,hr];exact IH (j+1,out2++[q.1],Az tk' c2 1) _ aF ⟨rfl,aE,by rw [vf,Fk,<- Cy,j5]; rfl,am,by simp,aI,aI,aI,aI,aI,aI,aI,aI⟩
  ·have d2:decide ((j:Int)<(r.1.length:Int))=false:=bY
   have qo:j=r.1.length:=aA
   subst qo;rw [Fb] at j5;simp (maxSteps:=10^6)+contextual(disch:=try exact dqd)only[ev1,simprocAttr,Ca,Bm,Cb,results41,e3,e8,e9,e10,e16,e17,e18,d2,dx];exact OUT (i+1,out2,c2) _ aF ⟨rfl,aE,by rw [lh,j5],dy,hc2,aI,aI,aI,aI,aI⟩
 ·have d1:decide ((i:Int)<(l.length:Int))=false:=aN
  have g9:i=l.length:=aA
  subst g9;rw [Fb] at ho sf;have hU S tk k:=Adg S tk k out c (by rw [ho]; omega) hc;simp only [Ap] at hU;simp (maxSteps:=10^6)+contextual(disch:=try exact dqd)only[ev1,simprocAttr,Ca,Bm,Cb,results41,e3,e8,e9,e10,d1,Au,hU];rw [ho]; rfl
def G1:List RowT->Int
 | []=>0
 | r :: l=>if A1 r.1 r.2.1 != 0 then A1 r.1 r.2.1 else G1 l
def sysE (l:List RowT):Int:=if 64<l.length then 7 else if G1 l != 0 then G1 l else if 24<(Ee l).length then 7 else 0
theorem Kd {cs:List (ByteArray × Int)} {n:Int} (h:A1 cs n=0):cs.length<=24:=by
 unfold A1 at h;split at h
 ·cases h
 ·omega
theorem Pk:∀ {l:List RowT},G1 l=0->fewC l
 | [],_=>fun r hr=>by simp at hr
 | r :: l,h=>by
  unfold G1 at h;by_cases h0:A1 r.1 r.2.1=0
  ·rw [h0] at h;simp only [bne_self_eq_false,C6,if_false] at h;intro x hx;rcases C4.1 hx with rfl|hx
   ·exact Kd h0
   ·exact Pk h x hx
  ·exact Ya3u
theorem Ld (l:List RowT) (b8:∀ r ∈ l,r.1.length<=1048576):cL prog 69 [Au l] S tk k=some (.int (sysE l),S,tk,k):=by
 refine opP func69 ntmps69 ?_;by_cases h64:64<l.length
 ·have d0:decide ((l.length:Int) > 64)=true:=aC
  simp (maxSteps:=10^6)+contextual(disch:=try exact dqd)only[ev1,simprocAttr,Ca,Bm,Cb,results69,Au,d0];simp [sysE,h64]
 have d0:decide ((l.length:Int) > 64)=false:=aC
 simp (maxSteps:=10^6)+contextual(disch:=try exact dqd)only[ev1,simprocAttr,Ca,Bm,Cb,results69,Au,d0];refine loop1 (P:=prog) (fun x st=>st.T.length=26/\(x<=l.length)/\(G1 l=G1 (l.drop x))/\getT st.T 0=Au l/\getT st.T 9=Au l/\getT st.T 10=.int l.length/\getT st.T 11=.int (x:Nat)/\st.S=[]) (fun x=>l.length - x) (fun x=>.int (sysE l)) (0) ?_ ?_;case refine_2=>exact ⟨rfl,Cl _,rfl,rfl,rfl,rfl,rfl,rfl⟩
 rintro i ⟨T,S',tk',n'⟩ ⟨hl,hi,hE,e0,e9,e10,e11,eS⟩ IH;subst eS;obtain ⟨g,hg,hT⟩:=Ar hl;rw [hg] at e0 e9 e10 e11;subst hT;clear hg hl;have dx:=A4 (i:=i) aA;by_cases hlt:i<l.length
 ·have d1:decide ((i:Int)<(l.length:Int))=true:=aN
  obtain ⟨r,hx⟩:=Ac hlt;have hx':=Kx hx;have hC S tk k:=Kb S tk k r.1 r.2.1 (b8 r (U9 hx));simp only [rowC,Ag] at hx';simp only [linA,Ag] at hC;rw [Aw hx,G1] at hE;generalize A1 r.1 r.2.1=e at *;cases h0:(e != 0) with
  | true =>
   simp (maxSteps:=10^6)+contextual(disch:=try exact dqd)only[ev1,simprocAttr,Ca,Bm,Cb,results69,e0,e9,e10,e11,d1,Au,hx',hC,dx,h0];exact Ya41
  | false =>
   rw [h0,if_neg (by simp)] at hE;simp (maxSteps:=10^6)+contextual(disch:=try exact dqd)only[ev1,simprocAttr,Ca,Bm,Cb,results69,e0,e9,e10,e11,d1,Au,hx',hC,dx,h0];exact IH (i+1) _ aF ⟨rfl,aE,hE,aI,aI,aI,aI,aI⟩
 ·have d1:decide ((i:Int)<(l.length:Int))=false:=aN
  have g9:i=l.length:=aA
  subst g9;rw [Fi] at hE;have q7:G1 l=0:=hE;have hV S tk k:=N7 S tk k l (Pk q7) aA;have hs:sysE l=if 24<(Ee l).length then 7 else 0:=by unfold sysE; rw [if_neg h64,q7]; rfl
  rw [hs];simp only [Au,Ap] at hV;by_cases h24:24<(Ee l).length
  ·have d2:decide (((Ee l).length:Int) > 24)=true:=aC
   simp (maxSteps:=10^6)+contextual(disch:=try exact dqd)only[ev1,simprocAttr,Ca,Bm,Cb,results69,e0,e9,e10,e11,d1,Au,hV,d2];rw [if_pos h24]
  ·have d2:decide (((Ee l).length:Int) > 24)=false:=aC
   simp (maxSteps:=10^6)+contextual(disch:=try exact dqd)only[ev1,simprocAttr,Ca,Bm,Cb,results69,e0,e9,e10,e11,d1,Au,hV,d2];rw [if_neg h24]
theorem H3 (l:List RowT) (b8:∀ r ∈ l,r.1.length<=1048576):cL prog 18 [Au l] S tk k=some (.int (sysE l),S,tk,k):=by
 refine opP func18 ntmps18 ?_;by_cases h64:64<l.length
 ·have d0:decide ((l.length:Int) > 64)=true:=aC
  simp (maxSteps:=10^6)+contextual(disch:=try exact dqd)only[ev1,simprocAttr,Ca,Bm,Cb,results18,Au,d0];simp [sysE,h64]
 have d0:decide ((l.length:Int) > 64)=false:=aC
 simp (maxSteps:=10^6)+contextual(disch:=try exact dqd)only[ev1,simprocAttr,Ca,Bm,Cb,results18,Au,d0];refine loop1 (P:=prog) (fun x st=>st.T.length=26/\(x<=l.length)/\(G1 l=G1 (l.drop x))/\getT st.T 0=Au l/\getT st.T 9=Au l/\getT st.T 10=.int l.length/\getT st.T 11=.int (x:Nat)/\st.S=[]) (fun x=>l.length - x) (fun x=>.int (sysE l)) (0) ?_ ?_;case refine_2=>exact ⟨rfl,Cl _,rfl,rfl,rfl,rfl,rfl,rfl⟩
 rintro i ⟨T,S',tk',n'⟩ ⟨hl,hi,hE,e0,e9,e10,e11,eS⟩ IH;subst eS;obtain ⟨g,hg,hT⟩:=Ar hl;rw [hg] at e0 e9 e10 e11;subst hT;clear hg hl;have dx:=A4 (i:=i) aA;by_cases hlt:i<l.length
 ·have d1:decide ((i:Int)<(l.length:Int))=true:=aN
  obtain ⟨r,hx⟩:=Ac hlt;have hx':=Kx hx;have hC S tk k:=G2 S tk k r.1 r.2.1 (b8 r (U9 hx));simp only [rowC,Ag] at hx';simp only [linA,Ag] at hC;rw [Aw hx,G1] at hE;generalize A1 r.1 r.2.1=e at *;cases h0:(e != 0) with
  | true =>
   simp (maxSteps:=10^6)+contextual(disch:=try exact dqd)only[ev1,simprocAttr,Ca,Bm,Cb,results18,e0,e9,e10,e11,d1,Au,hx',hC,dx,h0];exact Ya41
  | false =>
   rw [h0,if_neg (by simp)] at hE;simp (maxSteps:=10^6)+contextual(disch:=try exact dqd)only[ev1,simprocAttr,Ca,Bm,Cb,results18,e0,e9,e10,e11,d1,Au,hx',hC,dx,h0];exact IH (i+1) _ aF ⟨rfl,aE,hE,aI,aI,aI,aI,aI⟩
 ·have d1:decide ((i:Int)<(l.length:Int))=false:=aN
  have g9:i=l.length:=aA
  subst g9;rw [Fi] at hE;have q7:G1 l=0:=hE;have hV S tk k:=Gi S tk k l (Pk q7) aA;have hs:sysE l=if 24<(Ee l).length then 7 else 0:=by unfold sysE; rw [if_neg h64,q7]; rfl
  rw [hs];simp only [Au,Ap] at hV;by_cases h24:24<(Ee l).length
  ·have d2:decide (((Ee l).length:Int) > 24)=true:=aC
   simp (maxSteps:=10^6)+contextual(disch:=try exact dqd)only[ev1,simprocAttr,Ca,Bm,Cb,results18,e0,e9,e10,e11,d1,Au,hV,d2];rw [if_pos h24]
  ·have d2:decide (((Ee l).length:Int) > 24)=false:=aC
   simp (maxSteps:=10^6)+contextual(disch:=try exact dqd)only[ev1,simprocAttr,Ca,Bm,Cb,results18,e0,e9,e10,e11,d1,Au,hV,d2];rw [if_neg h24]
theorem L9 {l:List RowT} (h:sysE l=0):fewC l/\l.length<=64/\(Ee l).length<=24/\G1 l=0:=by
 unfold sysE at h;split at h
 ·cases h
 ·split at h
  ·rename_i h1 h2; rw [h] at h2; cases h2
  ·rename_i h1 h2;split at h
   ·cases h
   ·have h0:G1 l=0:=cF
    exact ⟨Pk h0,aA,aA,h0⟩
theorem An3 (l:List RowT) (h:sysE l=0):cL prog 32 [Au l] S tk k=some (Ap (Ee l),S,tk,k):=by
 obtain ⟨h1,h2,-,-⟩:=L9 h;have hC S tk k:=Ld S tk k l (fun r hr=>by have:=h1 r hr; omega);have hV S tk k:=N7 S tk k l h1 h2;rw [h] at hC;have d0:((0:Int) != 0)=false:=rfl;simp only [Au,Ap] at hC hV;refine opP func32 ntmps32 ?_;simp (maxSteps:=10^6)+contextual(disch:=try exact dqd)only[ev1,simprocAttr,Ca,Bm,Cb,results32,Au,Ap,hC,hV,d0]
theorem Abx (l:List RowT) (h:sysE l=0):cL prog 27 [Au l] S tk k=some (Ap (Ee l),S,tk,k):=by
 obtain ⟨h1,h2,-,-⟩:=L9 h;have hC S tk k:=H3 S tk k l (fun r hr=>by have:=h1 r hr; omega);have hV S tk k:=Gi S tk k l h1 h2;rw [h] at hC;have d0:((0:Int) != 0)=false:=rfl;simp only [Au,Ap] at hC hV;refine opP func27 ntmps27 ?_;simp (maxSteps:=10^6)+contextual(disch:=try exact dqd)only[ev1,simprocAttr,Ca,Bm,Cb,results27,Au,Ap,hC,hV,d0]
end
end
section
open Go
def IncC (cs:List (ByteArray × Int)):Prop:=Inc (cs.map (·.1))
theorem Aqw:∀ {n:Int} {p:Option ByteArray} {cs:List (ByteArray × Int)},A6 n p cs=0->inB n=true/\∀ c ∈ cs,inB c.2=true
 | n,p,[],h=>by
  unfold A6 at h;split at h
  ·rename_i h1; exact ⟨h1,fun c hc=>by simp at hc⟩
  ·cases h
 | n,p,c :: cs,h=>by
  unfold A6 at h;split at h
  ·cases h
  ·split at h
   ·cases h
   ·rename_i h1;split at h
    ·cases h
    ·obtain ⟨a,b⟩:=Aqw h;refine ⟨a,fun x hx=>?_⟩;rcases C4.1 hx with rfl|hx
     ·simp at h1; exact h1.2
     ·exact b x hx
theorem Alc {n:Int} (h:inB n=true):i64 n:=by unfold inB at h; simp at h; unfold i64; omega
theorem Aff:∀ {l:List RowT},G1 l=0->∀ r ∈ l,i64 r.2.1/\∀ c ∈ r.1,i64 c.2
 | [],_=>fun r hr=>by simp at hr
 | r :: l,h=>by
  unfold G1 at h;by_cases h0:A1 r.1 r.2.1=0
  ·rw [h0] at h;simp only [bne_self_eq_false,C6,if_false] at h;intro x hx;rcases C4.1 hx with rfl|hx
   ·unfold A1 at h0;split at h0
    ·cases h0
    ·obtain ⟨a,b⟩:=Aqw h0;exact ⟨Alc a,fun c hc=>Alc (b c hc)⟩
   ·exact Aff h x hx
  ·exact Ya3u
theorem Aj8:∀ {n:Int} {p:Option ByteArray} {cs:List (ByteArray × Int)},A6 n p cs=0->IncC cs/\∀ c ∈ cs,∀ b,p=some b->nm b<nm c.1
 | n,p,[],h=>⟨List.Pairwise.nil,fun c hc=>by simp at hc⟩
 | n,p,c :: cs,h=>by
  unfold A6 at h;split at h
  ·cases h
  ·split at h
   ·cases h
   ·split at h
    ·cases h
    ·rename_i h3;obtain ⟨a,b⟩:=Aj8 h;have hc:∀ x ∈ cs,nm c.1<nm x.1:=fun x hx=>b x hx c.1 rfl;refine ⟨Ia.2 ⟨fun y hy=>?_,a⟩,?_⟩
     ·obtain ⟨x,hx,rfl⟩:=F9.1 hy; exact hc x hx
     ·intro x hx d hd;subst hd;have q6:nm d<nm c.1:=by
       simp only [Jz,Ib,not_or,jZ] at h3;obtain ⟨e1,e2⟩:=h3;rw [Agj] at e1;rw [Nf] at e2;rcases Al7 d c.1 with h|h|h
       ·exact h
       ·exact absurd h.symm (by simpa using e2)
       ·exact absurd h (by simpa using e1)
      rcases C4.1 hx with rfl|hx
      ·exact q6
      ·exact List.lt_trans q6 (hc x hx)
theorem Aj5 {cs:List (ByteArray × Int)} {n:Int} (h:A1 cs n=0):IncC cs:=by
 unfold A1 at h;split at h
 ·cases h
 ·exact (Aj8 h).1
theorem Aj9:∀ {n:Int} {p:Option ByteArray} {cs:List (ByteArray × Int)},A6 n p cs=0->n.natAbs<=1000000000000/\∀ c ∈ cs,c.2.natAbs<=1000000000000/\c.2≠0
 | n,p,[],h=>by
  unfold A6 at h;split at h
  ·rename_i h1;unfold inB at h1;simp at h1;exact ⟨aA,fun c hc=>by simp at hc⟩
  ·cases h
 | n,p,c :: cs,h=>by
  unfold A6 at h;split at h
  ·cases h
  ·split at h
   ·cases h
   ·rename_i h1;split at h
    ·cases h
    ·obtain ⟨a,b⟩:=Aj9 h;refine ⟨a,fun x hx=>?_⟩;rcases C4.1 hx with rfl|hx
     ·unfold inB at h1;simp at h1;exact ⟨aA,h1.1⟩
     ·exact b x hx
theorem Aj6 {cs:List (ByteArray × Int)} {n:Int} (h:A1 cs n=0):n.natAbs<=1000000000000/\∀ c ∈ cs,c.2.natAbs<=1000000000000/\c.2≠0:=by
 unfold A1 at h;split at h
 ·cases h
 ·exact Aj9 h
theorem Lm:∀ {l:List RowT},G1 l=0->∀ r ∈ l,A1 r.1 r.2.1=0
 | [],_=>fun r hr=>by simp at hr
 | r :: l,h=>by
  unfold G1 at h;by_cases h0:A1 r.1 r.2.1=0
  ·rw [h0] at h;simp only [bne_self_eq_false,C6,if_false] at h;intro x hx;rcases C4.1 hx with rfl|hx
   ·exact h0
   ·exact Lm h x hx
  ·exact Ya3u
end
section
open Go Go.Proofs.Tryz
open Go.Proofs.Tryz renaming func147->ga2,ntmps147->ga3,results147->ga4
open Go.Proofs.YthelkgdmgihhiaaGreat renaming ceQ->ga0,A0->ga1,B2->ga5,A7->ga6
set_option maxRecDepth 100000
namespace QQ
abbrev ua0:Nat:=118
abbrev ua1:Nat:=147
abbrev ua2:Nat:=2
abbrev ua3:Nat:=1
abbrev ua4:Nat:=4
end QQ
set_option maxHeartbeats 4000000
set_option maxRecDepth 100000
namespace QQ
def Aqh (S:List Ent) (tk:List Nat) (ia ea iq eq:Nat) (l:List Q) (fl:Bool) (r:Rs):Prop :=
 ∃ S' k',r=(.tup [],S',tk,k')/\S'.length=S.length/\entAt S' ia ea=some (flat ceQ l)/\FAq S' iq eq fl/\∀ j,j≠ia->j≠iq->nth S' j=nth S j
end QQ
section
variable (S:List Ent) (tk:List Nat) (k iq eq:Nat) (fl:Bool)
abbrev Aw0 (p:Prop:=by exact ∀ (S:List Ent)(tk:List Nat)(k iq eq:Nat)(fl:Bool)(it et ia ea ij ej W c:Nat)(rest:List AV)(a row:List Q)(ht:entAt S it et=some (.ifc ua0 (rcvQ iq eq) :: rest))(hq:FAq S iq eq fl)(ha:entAt S ia ea=some (flat ga0 a))(hr:entAt S ij ej=some (flat ga0 row))(la:a.length=W)(lr:row.length=W)(hc:c<W)(hWb:W<=1000000)(oa:okL qF a)(orr:okL qF row)(ne1:ia≠ij)(ne2:ia≠it)(ne3:ia≠iq)(ne4:iq≠it)(ne5:iq≠ij),∃ r,cL prog ua1 [.ref it et 0,.sref ia ea 0 W ua2,.sref ij ej 0 W ua2,.int c] S tk k=some r/\Aqh S tk ia ea iq eq (lessT qF a row c).1 (fl || (lessT qF a row c).2) r):=p
theorem Ma0 {p:Prop} (h:p:=by
 intro S tk k iq eq fl it et ia ea ij ej W c rest a row ht hq ha hr la lr hc hWb oa orr ne1 ne2 ne3 ne4 ne5;obtain ⟨Φ,hΦ⟩:∃ Φ,Φ=Aqh S tk ia ea iq eq (lessT qF a row c).1 (fl || (lessT qF a row c).2):=⟨_,rfl⟩;rw [<- hΦ];obtain ⟨b,hb⟩:=Ac (show c<a.length by omega);have ob:qF.ok b:=oa b (by rw [Af] at hb; exact Il hb);have pf:=Aq ga1 hb;have hlt:lessT qF a row c=if sgn b=0 then (a,false) else lessL qF b a row:=by unfold lessT; rw [hb]
 have hs:=Ad2 S tk k iq eq fl b ob hq;refine opG ga2 ga3 ?_;by_cases h0:sgn b=0
 ·have d1:(sgn b == 0)=true:=aV
  simp (maxSteps:=10^6)+contextual(disch:=try exact dqd)only[evg1,simprocAttr,Ca,Bm,Cb,ga4,ht,ha,hc,pf,hs,d1,Ge,xfs,puQ];rw [hlt,if_pos h0] at hΦ;rw [hΦ];exact ⟨S,_,rfl,rfl,ha,by rw [Fy]; exact hq,fun j _ _=>rfl⟩
 have d1:(sgn b == 0)=false:=aV
 rw [hlt,if_neg h0] at hΦ;simp (maxSteps:=10^6)+contextual(disch:=try exact dqd)only[evg1,simprocAttr,Ca,Bm,Cb,ga4,ht,ha,hc,pf,hs,d1,Ge,xfs,puQ,ga1,ga5,ovQ];refine D8 (P:=prog) (fun x st=>st.T.length=70/\(lessL qF b a row=(x.2.2.1++(lessL qF b x.2.2.2.1 x.2.2.2.2.1).1,x.2.2.2.2.2 || (lessL qF b x.2.2.2.1 x.2.2.2.2.1).2))/\(x.2.2.1.length+x.2.2.2.1.length=W)/\(x.2.2.2.1.length=x.2.2.2.2.1.length)/\(∃ pr,row=pr++x.2.2.2.2.1/\pr.length=x.2.2.1.length)/\(x.1.length=S.length)/\(entAt x.1 ia ea=some (flat ga0 (x.2.2.1++x.2.2.2.1)))/\(FAq x.1 iq eq (fl || x.2.2.2.2.2))/\(∀ j,j≠ia->j≠iq->nth x.1 j=nth S j)/\(okL qF x.2.2.2.1)/\(okL qF x.2.2.2.2.1)/\getT st.T 0=.ref it et 0/\getT st.T 1=.sref ia ea 0 W ua2/\getT st.T 2=.sref ij ej 0 W ua2/\getT st.T 8=.ref S.length (k+ua3) 0/\getT st.T 27=.int (W:Nat)/\getT st.T 28=.int (x.2.2.1.length:Nat)/\st.S=x.1++[⟨k+ua3,ga0 b⟩]/\st.tk=tk/\st.n=x.2.1) (fun x=>x.2.2.2.2.1.length) (S,(k+ua3+1),([]:List Q),a,row,false) ?_ ?_;case refine_2=>exact ⟨rfl,by simp,aY,la.trans lr.symm,⟨[],rfl,rfl⟩,rfl,ha,by rw [Fy]; exact hq,fun j _ _=>rfl,oa,orr,rfl,rfl,rfl,rfl,rfl,rfl,rfl,rfl,rfl⟩
 rintro ⟨S1,n1,p,u,rs,fp⟩ ⟨T,S',tk',n'⟩ ⟨hl,hR,hW,hu,bl,ck,he,hf,hj,ou,ors,e0,e1,e2,e8,e27,e28,eS,eT,eN⟩ IH;simp only at hR hW hu bl ck he hf hj ou ors e0 e1 e2 e8 e27 e28 eS eT eN;subst eS eT eN;obtain ⟨g,hg,hT⟩:=Ar hl;rw [hg] at e0 e1 e2 e8 e27 e28;subst hT;clear hg hl;by_cases cd:p.length<W
 ·have c1:decide ((p.length:Int)<(W:Int))=true:=bY
  obtain ⟨a0,u,rfl⟩:∃ a0 u',u=a0 :: u':=by
   cases u with
   | nil=>simp at hW; omega
   | cons x u=>exact ⟨x,u,rfl⟩
  obtain ⟨r0,rs,rfl⟩:∃ r0 rs',rs=r0 :: rs':=by
   cases rs with
   | nil=>simp at hu
   | cons x u=>exact ⟨x,u,rfl⟩
  obtain ⟨pr,i6,o8⟩:=bl;have oa0:=ou a0 (by simp);have or0:=ors r0 (by simp);have vg:nth row p.length=some r0:=by rw [i6,<- o8]; exact D9
  have cq:=Aq ga1 vg;have pm:=Aq (ce:=ga0) ga1 (D9 (p:=p) (u:=u) (x:=a0));obtain ⟨E,hE⟩:∃ E:Ent,E=⟨k+ua3,ga0 b⟩:=⟨_,rfl⟩;have hbT:entAt (S1++[E]) S.length (k+ua3)=some (ga0 b):=by rw [hE]; exact An ck
  rw [<- hE];have dq:entAt S1 it et=some (.ifc ua0 (rcvQ iq eq) :: rest):=by rw [Ab (hj it ne2.symm ne4.symm)]; exact ht
  have bz:entAt S1 ij ej=some (flat ga0 row):=by rw [Ab (hj ij ne1.symm ne5.symm)]; exact hr
  have htT:entAt (S1++[E]) it et=some (.ifc ua0 (rcvQ iq eq) :: rest):=Ad dq;have hrT:entAt (S1++[E]) ij ej=some (flat ga0 row):=Ad bz;have heT:entAt (S1++[E]) ia ea=some (flat ga0 (p++a0 :: u)):=Ad he;have hfT:=hf.app (L:=[E]);have gd:=Ad2 (S1++[E]) tk' n' iq eq (fl || fp) r0 or0 hfT;have b6:=A5 he;have vj:rs.length<(r0 :: rs).length:=by simp
  have hw:Cd.wrap ((p.length:Int)+1)=(((p++[a0]).length:Nat):Int):=bP
  by_cases hz:sgn r0=0
  ·have c2:(sgn r0 != 0)=false:=cQ
   simp (maxSteps:=10^6)+contextual(disch:=try exact dqd)only[evg1,simprocAttr,Ca,Bm,Cb,ga4,e0,e1,e2,e8,e27,e28,c1,c2,hw,htT,hrT,cq,cd,gd,Ge,xfs,puQ];have aj:Kh qF b a0 r0=(a0,false):=by unfold Kh; rw [if_pos hz]
   exact IH (S1,n'+ua3,p++[a0],u,rs,fp) _ aF ⟨rfl,by rw [hR]; simp only [lessL,aj,Cy,Co,Cr,N2],by show (p++[a0]).length+u.length=W; simp only [Cm,Ci,Cu] at hW ⊢; omega,eQ,⟨pr++[r0],by rw [i6]; simp,by simp [o8]⟩,ck,gH,hf,hj,fun q hq=>ou q bS,fun q hq=>ors q bS,aJ,aJ,aJ,aJ,aJ,aJ,by simp only [hE],rfl,rfl⟩
  ·have c2:(sgn r0 != 0)=true:=cQ
   obtain ⟨x,hx⟩:∃ x,x=qF.times b r0:=⟨_,rfl⟩;obtain ⟨y,hy⟩:∃ y,y=qF.minus a0 x.1:=⟨_,rfl⟩;have s6:Cd.wrap ((p.length:Int)+1)=(((p++[y.1]).length:Nat):Int):=bP
   have ox:qF.ok x.1:=by rw [hx]; exact Dp.times _ _ ob or0
   have oy:qF.ok y.1:=by rw [hy]; exact Dp.minus _ _ oa0 ox
   have dk:=Agq (S1++[E]) tk' (n'+ua3) iq eq (fl || fp) b r0 ob or0 hfT;have hg1:=Es (c:=x.2) hfT;rw [<- hx] at dk;rw [Hr hf] at dk hg1;obtain ⟨S2,bm⟩:∃ S2,S2=flS S1 iq eq x.2:=⟨_,rfl⟩;rw [<- bm] at dk hg1;have c8:FAq S2 iq eq ((fl || fp) || x.2):=by rw [bm]; exact hf.fS
   have fi:=Nc (S2++[E]) tk' (n'+ua3+ua4) iq eq ((fl || fp) || x.2) a0 x.1 oa0 ox (c8.app (L:=[E]));have hg2:=Es (c:=y.2) (c8.app (L:=[E]));rw [<- hy] at fi;rw [Hr c8] at fi hg2;obtain ⟨S3,cz⟩:∃ S3,S3=flS S2 iq eq y.2:=⟨_,rfl⟩;rw [<- cz] at fi hg2;have d6:FAq S3 iq eq (((fl || fp) || x.2) || y.2):=by rw [cz]; exact c8.fS
   have ei:S3.length=S.length:=by rw [cz,Bp,bm,Bp,ck]
   have cj:∀ j,j≠iq->nth S3 j=nth S1 j:=fun j hj=>by rw [cz,ga6 hj,bm,ga6 hj]
   have ny:entAt S3 ia ea=some (flat ga0 (p++a0 :: u)):=by rw [Ab (cj ia ne3)]; exact he
   have a1a:entAt (S3++[E]) ia ea=some (flat ga0 (p++a0 :: u)):=Ad ny;have ho:=Bl (ce:=ga0) ga1 (l:=p++a0 :: u) (k:=p.length) (q':=y.1) (by simp);rw [E5] at ho;have hp3 x:=Dk (L:=[E]) (x:=x) (A5 ny);have js:∀ x,Oe (S1++[E]).length (put S3 ia x++[E])=put S3 ia x++[E]:=fun x=>Fc (by simp [Am,ei,ck]);simp (maxSteps:=10^6)+contextual(disch:=try exact dqd)only[evg1,simprocAttr,Ca,Bm,Cb,ga4,e0,e1,e2,e8,e27,e28,c1,c2,js,s6,htT,hrT,heT,hbT,cq,pm,cd,gd,dk,fi,hg1,hg2,a1a,ho,hp3,Ge,xfs,puQ,ga1,ga5,tkQ];have aj:Kh qF b a0 r0=(y.1,x.2 || y.2):=by unfold Kh; rw [if_neg hz,hy,hx]
   exact IH (put S3 ia ⟨ea,flat ga0 (p++y.1 :: u)⟩,n'+ua3+ua4+ua4,p++[y.1],u,rs,Ck fp (Ck x.2 y.2)) _ aF ⟨rfl,by rw [hR]; simp only [lessL,aj,Cy,Co,Cr,F8],by show (p++[y.1]).length+u.length=W; simp only [Cm,Ci,Cu] at hW ⊢; omega,eQ,⟨pr++[r0],by rw [i6]; simp,by simp [o8]⟩,Am.trans ei,by rw [Ah (A5 ny)]; simp,by have:=d6.put (x:=⟨ea,flat ga0 (p++y.1 :: u)⟩) ne3; simpa only [F8] using this,fun j h1 h2=>by rw [Ae (Ix h1),cj j h2]; exact hj j h1 h2,fun q hq=>ou q bS,fun q hq=>ors q bS,aJ,aJ,aJ,aJ,aJ,aJ,by simp only [hE],rfl,rfl⟩
 ·have c1:decide ((p.length:Int)<(W:Int))=false:=bY
  have wz:u=[]:=Cw.1 aA;subst wz;simp (maxSteps:=10^6)+contextual(disch:=try exact dqd)only[evg1,simprocAttr,Ca,Bm,Cb,ga4,e0,e1,e2,e8,e27,e28,c1];rw [hΦ,Ki ck];simp only [lessL] at hR;rw [hR];exact ⟨S1,n',rfl,ck,he,by rw [Fy]; exact hf,hj⟩):p:=h
namespace QQ
theorem Au3:Aw0:=Ma0
end QQ
end
end
section
open Go
open Go.Proofs.YthelkgdmgihhiaaGreat renaming ceQ->ga0
set_option maxRecDepth 100000
namespace QQ
structure A9 (S:List Ent) (iq eq:Nat) (I:TI) (t:Tb) (c:Cap):Prop where
 top:entAt S I.it I.et=some [.ifc 118 (rcvQ iq eq),intA t.vars,intA t.real,dd I.ir I.er 1 t.rows.length,.sref I.ic I.ec 0 t.cost.length 2,dd I.ib I.eb 1 t.rows.length,.frz (t.flip.map Dc) c]
 nids:I.ids.length=t.rows.length
 rowsE:t.rows≠[]->entAt S I.ir I.er=some (I.ids.map (dm t.cost.length 2))
 rowE:∀ i p r,nth I.ids i=some p->nth t.rows i=some r->entAt S p.1 p.2=some (flat ceQ r)
 rowW:∀ r ∈ t.rows,r.length=t.cost.length
 costE:entAt S I.ic I.ec=some (flat ceQ t.cost)
 basisE:t.rows≠[]->entAt S I.ib I.eb=some (t.basis.map intA)
 nb:t.basis.length=t.rows.length
 nf:t.flip.length=t.rows.length
 fa:FAq S iq eq t.fl
 ap:Apart I iq
 okr:∀ r ∈ t.rows,okL qF r
 okc:okL qF t.cost
 bigW:t.cost.length<=1000000
 bigM:t.rows.length<=1000000
 real:t.real<t.cost.length
 bB:∀ b ∈ t.basis,b<t.cost.length
end QQ
section
variable {S S':List Ent} {iq eq:Nat} {I:TI} {t:Tb} {c:Cap}
abbrev Aw1 (p:Prop:=by exact ∀ {S S':List Ent}{iq eq:Nat}{I:TI}{t:Tb}{c:Cap}(h:A9 S iq eq I t c){i:Nat}{p:Nat × Nat}{r0 r':List Q}{fl':Bool}(hp:nth I.ids i=some p)(hr:nth t.rows i=some r0)(hl:r'.length=t.cost.length)(ho:okL qF r')(hS:∀ j,j≠p.1->j≠iq->nth S' j=nth S j)(he:entAt S' p.1 p.2=some (flat ga0 r'))(hf:FAq S' iq eq fl'),A9 S' iq eq I { t with rows:=put t.rows i r',fl:=fl' } c):=p
theorem Ma1 {p:Prop} (h:p:=by
 intro h i p r0 r' fl' hp hr hl ho hS he hf;have b6:i<t.rows.length:=Bn hr;have ke:=h.ap.row p (Aj hp);have key:∀ j e,j≠p.1->j≠iq->entAt S' j e=entAt S j e:=fun j e h1 h2=>Ab (hS j h1 h2);have hne:put t.rows i r'≠[]->t.rows≠[]:=fun hn h0=>hn (Aml.2 h0);refine ⟨?_,by rw [Ak]; exact h.nids,fun hn=>?_,fun j q r hq ae=>?_,fun r ae=>?_,?_,fun hn=>?_,Za61,by rw [Ak]; exact h.nf,hf,h.ap,fun r ae=>?_,h.okc,h.bigW,by rw [Ak]; exact h.bigM,h.real,h.bB⟩
 ·rw [key _ _ ke.1.symm h.ap.qt.symm,Ak]; exact h.top
 ·rw [key _ _ ke.2.1.symm h.ap.qr.symm]; exact h.rowsE (hne hn)
 ·rw [J8 b6] at ae;by_cases e:j=i
  ·exact Ya1q
  ·rw [if_neg e] at ae;have hq2:=h.ap.row q (Aj hq);rw [key _ _ (h.ap.rows j i q p hq hp e) hq2.2.2.2.2];exact Ya2m
 ·exact Ya20
 ·rw [key _ _ ke.2.2.1.symm h.ap.qc.symm]; exact h.costE
 ·rw [key _ _ ke.2.2.2.1.symm h.ap.qb.symm]; exact h.basisE (hne hn)
 ·rcases Bw ae with rfl|ae
  ·exact ho
  ·exact h.okr r ae):p:=h
namespace QQ
theorem A9.row:Aw1:=fun {S S' iq eq I t c}=>Ma1
end QQ
abbrev Aw2 (p:Prop:=by exact ∀ {S S':List Ent}{iq eq:Nat}{I:TI}{t:Tb}{c:Cap}(h:A9 S iq eq I t c){k':List Q}{fl':Bool}(hl:k'.length=t.cost.length)(ho:okL qF k')(hS:∀ j,j≠I.ic->j≠iq->nth S' j=nth S j)(he:entAt S' I.ic I.ec=some (flat ga0 k'))(hf:FAq S' iq eq fl'),A9 S' iq eq I { t with cost:=k',fl:=fl' } c):=p
theorem Ma2 {p:Prop} (h:p:=by
 intro h k' fl' hl ho hS he hf;have key:∀ j e,j≠I.ic->j≠iq->entAt S' j e=entAt S j e:=fun j e h1 h2=>Ab (hS j h1 h2);refine ⟨?_,h.nids,fun hn=>?_,fun j q r hq ae=>?_,fun r ae=>by rw [hl]; exact h.rowW r ae,he,fun hn=>?_,h.nb,h.nf,hf,h.ap,h.okr,ho,by rw [hl]; exact h.bigW,h.bigM,by rw [hl]; exact h.real,fun b hb=>by rw [hl]; exact h.bB b hb⟩
 ·rw [key _ _ h.ap.tc h.ap.qt.symm,hl]; exact h.top
 ·rw [key _ _ h.ap.rc h.ap.qr.symm,hl]; exact h.rowsE hn
 ·have hq2:=h.ap.row q (Aj hq);rw [key _ _ hq2.2.2.1 hq2.2.2.2.2];exact Ya2m
 ·rw [key _ _ h.ap.cb.symm h.ap.qb.symm]; exact h.basisE hn):p:=h
namespace QQ
theorem A9.setCost:Aw2:=fun {S S' iq eq I t c}=>Ma2
end QQ
abbrev Aw3 (p:Prop:=by exact ∀ {S:List Ent}{iq eq:Nat}{I:TI}{t:Tb}{c:Cap}(h:A9 S iq eq I t c){i b:Nat}(eh:t.rows≠[])(hb:b<t.cost.length),A9 (put S I.ib ⟨I.eb,(put t.basis i b).map intA⟩) iq eq I { t with basis:=put t.basis i b } c):=p
theorem Ma3 {p:Prop} (h:p:=by
 intro h i b eh hb;have b6:=A5 (h.basisE eh);have key:∀ j e,j≠I.ib->entAt (put S I.ib ⟨I.eb,(put t.basis i b).map intA⟩) j e=entAt S j e:=fun j e h1=>Ai (Ix h1);refine ⟨?_,h.nids,fun hn=>?_,fun j q r hq ae=>?_,h.rowW,?_,fun hn=>Ah b6,Za61,h.nf,h.fa.put h.ap.qb.symm,h.ap,h.okr,h.okc,h.bigW,h.bigM,h.real,fun x hx=>?_⟩
 ·rw [key _ _ h.ap.tb]; exact h.top
 ·rw [key _ _ h.ap.rb]; exact h.rowsE hn
 ·have hq2:=h.ap.row q (Aj hq);rw [key _ _ hq2.2.2.2.1];exact Ya2m
 ·rw [key _ _ h.ap.cb]; exact h.costE
 ·rcases Bw hx with rfl|hx
  ·exact hb
  ·exact h.bB x hx):p:=h
namespace QQ
theorem A9.setBasis:Aw3:=fun {S iq eq I t c}=>Ma3
end QQ
abbrev Aw4 (p:Prop:=by exact ∀ {S S':List Ent}{iq eq:Nat}{I:TI}{t:Tb}{c:Cap}(h:A9 S iq eq I t c){fl':Bool}(hS:∀ j,j≠iq->nth S' j=nth S j)(hf:FAq S' iq eq fl'),A9 S' iq eq I { t with fl:=fl' } c):=p
theorem Ma4 {p:Prop} (h:p:=by
 intro h fl' hS hf;have key:∀ j e,j≠iq->entAt S' j e=entAt S j e:=fun j e h1=>Ab (hS j h1);refine ⟨?_,h.nids,fun hn=>?_,fun j q r hq ae=>?_,h.rowW,?_,fun hn=>?_,h.nb,h.nf,hf,h.ap,h.okr,h.okc,h.bigW,h.bigM,h.real,h.bB⟩
 ·rw [key _ _ h.ap.qt.symm]; exact h.top
 ·rw [key _ _ h.ap.qr.symm]; exact h.rowsE hn
 ·have hq2:=h.ap.row q (Aj hq);rw [key _ _ hq2.2.2.2.2];exact Ya2m
 ·rw [key _ _ h.ap.qc.symm]; exact h.costE
 ·rw [key _ _ h.ap.qb.symm]; exact h.basisE hn):p:=h
namespace QQ
theorem A9.flag:Aw4:=fun {S S' iq eq I t c}=>Ma4
end QQ
abbrev Aw5 (p:Prop:=by exact ∀ {S:List Ent}{iq eq:Nat}{I:TI}{t:Tb}{c:Cap}(h:A9 S iq eq I t c)(L:List Ent),A9 (S++L) iq eq I t c):=p
theorem Ma5 {p:Prop} (h:p:=by
 intro h L;exact ⟨Ad h.top,h.nids,fun hn=>Ad (h.rowsE hn),fun j q r hq hr=>Ad (h.rowE j q r hq hr),h.rowW,Ad h.costE,fun hn=>Ad (h.basisE hn),h.nb,h.nf,h.fa.app,h.ap,h.okr,h.okc,h.bigW,h.bigM,h.real,h.bB⟩):p:=h
namespace QQ
theorem A9.app:Aw5:=fun {S iq eq I t c}=>Ma5
structure LowQ (I:TI) (iq n:Nat) (t:Tb):Prop where
 it:I.it<n
 ic:I.ic<n
 ir:t.rows≠[]->I.ir<n
 ib:t.rows≠[]->I.ib<n
 row:∀ p ∈ I.ids,p.1<n
 iq:iq<n
theorem A9.low (h:A9 S iq eq I t c):LowQ I iq S.length t:=by
 refine ⟨A5 h.top,A5 h.costE,fun hn=>A5 (h.rowsE hn),fun hn=>A5 (h.basisE hn),fun p hp=>?_,A5 h.fa⟩;exact Yat
end QQ
abbrev Aw6 (p:Prop:=by exact ∀ {S:List Ent}{iq eq:Nat}{I:TI}{t:Tb}{c:Cap}(h:A9 S iq eq I t c){n:Nat}(hl:LowQ I iq n t),A9 (S.take n) iq eq I t c):=p
theorem Ma6 {p:Prop} (h:p:=by
 intro h n hl;refine ⟨by rw [Eb hl.it]; exact h.top,h.nids,fun hn=>by rw [Eb (hl.ir hn)]; exact h.rowsE hn,fun j q r hq hr=>by rw [Eb (hl.row q (Aj hq))]; exact h.rowE j q r hq hr,h.rowW,by rw [Eb hl.ic]; exact h.costE,fun hn=>by rw [Eb (hl.ib hn)]; exact h.basisE hn,h.nb,h.nf,h.fa.take hl.iq,h.ap,h.okr,h.okc,h.bigW,h.bigM,h.real,h.bB⟩):p:=h
namespace QQ
theorem A9.take:Aw6:=fun {S iq eq I t c}=>Ma6
theorem LowQ.of {n:Nat} {t':Tb} (h:LowQ I iq n t) (hn:t'.rows≠[]->t.rows≠[]):LowQ I iq n t':=⟨h.it,h.ic,fun h'=>h.ir (hn h'),fun h'=>h.ib (hn h'),h.row,h.iq⟩
end QQ
abbrev Aw7 (p:Prop:=by exact ∀ {S S':List Ent}{iq eq:Nat}{I:TI}{t:Tb}{c:Cap}(h:A9 S iq eq I t c){n:Nat}{fl':Bool}(hl:LowQ I iq n t)(hS:∀ j,j<n->j≠iq->nth S' j=nth S j)(hf:FAq S' iq eq fl'),A9 S' iq eq I { t with fl:=fl' } c):=p
theorem Ma7 {p:Prop} (h:p:=by
 intro h n fl' hl hS hf;have key:∀ j e,j<n->j≠iq->entAt S' j e=entAt S j e:=fun j e h1 h2=>Ab (hS j h1 h2);refine ⟨?_,h.nids,fun hn=>?_,fun j q r hq ae=>?_,h.rowW,?_,fun hn=>?_,h.nb,h.nf,hf,h.ap,h.okr,h.okc,h.bigW,h.bigM,h.real,h.bB⟩
 ·rw [key _ _ hl.it h.ap.qt.symm]; exact h.top
 ·rw [key _ _ (hl.ir hn) h.ap.qr.symm]; exact h.rowsE hn
 ·have hq2:=h.ap.row q (Aj hq);rw [key _ _ (hl.row q (Aj hq)) hq2.2.2.2.2];exact Ya2m
 ·rw [key _ _ hl.ic h.ap.qc.symm]; exact h.costE
 ·rw [key _ _ (hl.ib hn) h.ap.qb.symm]; exact h.basisE hn):p:=h
namespace QQ
theorem A9.frame:Aw7:=fun {S S' iq eq I t c}=>Ma7
end QQ
def OutQ (I:TI) (iq j:Nat):Prop:=j≠iq/\j≠I.ic/\j≠I.ib/\∀ p ∈ I.ids,j≠p.1
namespace QQ
def Zs (S:List Ent) (tk:List Nat) (iq eq:Nat) (I:TI) (t':Tb) (cc:Cap) (v:AV) (r:Rs):Prop :=
 ∃ S' k',r=(v,S',tk,k')/\S'.length=S.length/\A9 S' iq eq I t' cc/\∀ j,OutQ I iq j->nth S' j=nth S j
end QQ
end
end
section
open Go Go.Proofs.Tryz
open Go.Proofs.Tryz renaming func144->ga7,ntmps144->ga8,results144->ga9
open Go.Proofs.YthelkgdmgihhiaaGreat renaming ceQ->ga0,A0->ga1,B2->ga5,A7->ga6
set_option maxRecDepth 100000
namespace QQ
abbrev ua5:Nat:=144
end QQ
set_option maxHeartbeats 8000000
set_option maxRecDepth 100000
theorem Ae3 {F:Fld} (hF:F.Keeps) {b:Q} (hb:F.ok b):∀ {l:List Q},okL F l->okL F (divL F b l).1
 | [],h=>h
 | x :: l,h=>by
  intro q hq;simp only [divL,C4] at hq;rcases hq with rfl|hq
  ·unfold dvS;split
   ·exact h _ (by simp)
   ·exact hF.over _ _ (h _ (by simp)) hb
  ·exact Ae3 hF hb (fun q hq=>h q bS) q hq
theorem Q3 {F:Fld} {l m:List Q} {c:Nat} : (lessT F l m c).1.length=l.length:=by
 unfold lessT;split
 ·split
  ·rfl
  ·exact Px
 ·rfl
theorem Aa7 {F:Fld} (hF:F.Keeps) {l m:List Q} {c:Nat} (h:okL F l) (h':okL F m):okL F (lessT F l m c).1:=by
 unfold lessT;split
 ·rename_i b hb;split
  ·exact h
  ·exact Yd hF (h b (Aj hb)) h h'
 ·exact h
section
variable (S:List Ent) (tk:List Nat) (k iq eq:Nat)
abbrev Aw8 (p:Prop:=by exact ∀ (S:List Ent)(tk:List Nat)(k iq eq:Nat)(I:TI)(t:Tb)(cc:Cap)(i c:Nat)(ai:A9 S iq eq I t cc)(hi:i<t.rows.length)(hc:c<t.cost.length),∃ r,cL prog ua5 [.ref I.it I.et 0,.int i,.int c] S tk k=some r/\Zs S tk iq eq I (Eh qF t i c) cc (.tup []) r):=p
theorem Ma8 {p:Prop} (h:p:=by
 intro S tk k iq eq I t cc i c ai hi hc;obtain ⟨Φ,hΦ⟩:∃ Φ,Φ=Zs S tk iq eq I (Eh qF t i c) cc (.tup []):=⟨_,rfl⟩;rw [<- hΦ];obtain ⟨row,bl⟩:=Ac hi;obtain ⟨pi,ik⟩:=Ac (show i<I.ids.length by rw [ai.nids]; exact hi);have i5:=ai.rowW row (Aj bl);have kx:=ai.okr row (Aj bl);obtain ⟨b,hb⟩:=Ac (show c<row.length by omega);have ob:qF.ok b:=kx b (Aj hb);have eh:t.rows≠[]:=fun h=>by rw [h] at hi; simp at hi
 have dc:0<t.rows.length:=aA
 have ag:=ai.top;rw [Bs dc,Bs dc] at ag;have jg:=ai.rowsE eh;have nj:nth (O7 i (I.ids.map (dm t.cost.length ua2))) 0=some (.sref pi.1 pi.2 0 t.cost.length ua2):=B9 (by rw [Af] at ik ⊢; rw [Et,ik]; rfl);have pf:=Aq (ce:=ga0) ga1 hb;have cr:=ai.rowE i pi row ik bl;refine opG ga7 ga8 ?_;simp (maxSteps:=10^6)+contextual(disch:=try exact dqd)only[evg1,simprocAttr,Ca,Bm,Cb,ga9,ag,jg,nj,pf,cr,hi,hc,Fj,intA,ga1,ga5,ovQ];have hW:=ai.bigW;have hM:=ai.bigM;have bh:=ai.low;have d9:=bh.row pi (Aj ik);have ke:=ai.ap.row pi (Aj ik);have qa:=Ve bl;have eT:({ t with rows:=t.rows,fl:=t.fl } : Tb)=t:=rfl;refine D8 (P:=prog) (fun x st=>st.T.length=89/\(divL qF b row=(x.2.2.1++(divL qF b x.2.2.2.1).1,Ck x.2.2.2.2 (divL qF b x.2.2.2.1).2))/\(x.2.2.1.length+x.2.2.2.1.length=t.cost.length)/\(A9 x.1 iq eq I { t with rows:=put t.rows i (x.2.2.1++x.2.2.2.1),fl:=Ck t.fl x.2.2.2.2 } cc)/\(entAt x.1 S.length k=some (ga0 b))/\(x.1.length=S.length+1)/\(∀ j,j<S.length->OutQ I iq j->nth x.1 j=nth S j)/\(okL qF x.2.2.2.1)/\getT st.T 0=.ref I.it I.et 0/\getT st.T 1=.int (i:Nat)/\getT st.T 2=.int (c:Nat)/\getT st.T 6=.sref pi.1 pi.2 0 t.cost.length ua2/\getT st.T 7=.ref S.length k 0/\getT st.T 23=.int (t.cost.length:Nat)/\getT st.T 24=.int (x.2.2.1.length:Nat)/\st.S=x.1/\st.tk=tk/\st.n=x.2.1) (fun x=>x.2.2.2.1.length) ((S++[⟨k,ga0 b⟩]),(k+1),([]:List Q),row,false) ?_ ?_;case refine_2=>exact ⟨rfl,by simp,by simpa using i5,by simp only [Cr,qa,Fy]; exact ai.app _,An rfl,by simp,fun j hj _=>Bh hj,kx,rfl,rfl,rfl,rfl,rfl,rfl,rfl,rfl,rfl,rfl⟩
 rintro ⟨SS,n1,p,u,fp⟩ ⟨T,S',tk',n'⟩ ⟨hl,hR,jm,hT,wd,ed,au,ou,e0,e1,e2,e6,e7,e23,e24,eS,eT,eN⟩ IH;simp only at hR jm hT wd ed au ou e0 e1 e2 e6 e7 e23 e24 eS eT eN;subst eS eT eN;obtain ⟨g,hg,hT⟩:=Ar hl;rw [hg] at e0 e1 e2 e6 e7 e23 e24;subst hT;clear hg hl;by_cases cd:p.length<t.cost.length
 ·have c1:decide ((p.length:Int)<(t.cost.length:Int))=true:=bY
  obtain ⟨a0,u,rfl⟩:∃ a0 u',u=a0 :: u':=by
   exact Ya3v
  have oa0:=ou a0 (by simp);have pm:=Aq (ce:=ga0) ga1 (D9 (p:=p) (u:=u) (x:=a0));have vg:nth (put t.rows i (p++a0 :: u)) i=some (p++a0 :: u):=De hi;have he:=hT.rowE i pi _ ik vg;have dq:=hT.top;have hs:=Ad2 S' tk' n' iq eq (Ck t.fl fp) a0 oa0 hT.fa;have vj:u.length<(a0 :: u).length:=by simp
  have hw:Cd.wrap ((p.length:Int)+1)=(((p++[a0]).length:Nat):Int):=bP
  by_cases hz:sgn a0=0
  ·have c2:(sgn a0 != 0)=false:=cQ
   have aj:dvS qF b a0=(a0,false):=by unfold dvS; rw [if_pos hz]
   simp (maxSteps:=10^6)+contextual(disch:=try exact dqd)only[evg1,simprocAttr,Ca,Bm,Cb,ga9,e0,e1,e2,e6,e7,e23,e24,c1,c2,hw,dq,he,pm,cd,hs,Ge,xfs,puQ,tkQ];exact IH (S',n'+ua3,p++[a0],u,fp) _ aF ⟨rfl,by rw [hR]; simp only [divL,aj,Cy,Co,Cr,N2],by show (p++[a0]).length+u.length=t.cost.length; simp only [Cm,Ci,Cu] at jm ⊢; omega,by simpa using hT,wd,ed,au,fun q hq=>ou q bS,aT⟩
  ·have c2:(sgn a0 != 0)=true:=cQ
   obtain ⟨y,hy⟩:∃ y,y=qF.over a0 b:=⟨_,rfl⟩;have oy:qF.ok y.1:=by rw [hy]; exact Dp.over _ _ oa0 ob
   have aj:dvS qF b a0=y:=by unfold dvS; rw [if_neg hz,hy]
   have s6:Cd.wrap ((p.length:Int)+1)=(((p++[y.1]).length:Nat):Int):=bP
   have dk:=Avd S' tk' (n'+ua3) iq eq (Ck t.fl fp) a0 b oa0 ob hT.fa;have hg1:=Es (c:=y.2) hT.fa;rw [<- hy] at dk;obtain ⟨S2,bm⟩:∃ S2,S2=flS S' iq eq y.2:=⟨_,rfl⟩;rw [<- bm] at dk hg1;have c8:FAq S2 iq eq (Ck (Ck t.fl fp) y.2):=by rw [bm]; exact hT.fa.fS
   have hl2:S2.length=S'.length:=by rw [bm,Bp]
   have bo:∀ j,j≠iq->nth S2 j=nth S' j:=fun j hj=>by rw [bm,ga6 hj]
   have kg:nth S2 S.length=nth S' S.length:=Za6s
   have he2:entAt S2 pi.1 pi.2=some (flat ga0 (p++a0 :: u)):=by rw [Ab (bo _ ke.2.2.2.2)]; exact he
   have ho:=Bl (ce:=ga0) ga1 (l:=p++a0 :: u) (k:=p.length) (q':=y.1) (by simp);rw [E5] at ho;have js:∀ x,Oe S'.length (put S2 pi.1 x)=put S2 pi.1 x:=fun x=>Fc (by simp [Am,hl2]);simp (maxSteps:=10^6)+contextual(disch:=try exact dqd)only[evg1,simprocAttr,Ca,Bm,Cb,ga9,e0,e1,e2,e6,e7,e23,e24,c1,c2,s6,js,dq,he,pm,wd,cd,hs,dk,hg1,he2,ho,Ge,xfs,puQ,ga1,ga5,tkQ];have kh:Ck t.fl (Ck fp y.2)=Ck (Ck t.fl fp) y.2:=(F8 _ _ _).symm;have c9:=hT.row (S':=put S2 pi.1 ⟨pi.2,flat ga0 (p++y.1 :: u)⟩) (r':=p++y.1 :: u) (fl':=Ck (Ck t.fl fp) y.2) ik vg Za1x (fun q hq=>by
    rcases C3.1 hq with h|h
    ·exact hT.okr _ (Aj vg) q cB
    ·rcases C4.1 h with rfl|h
     ·exact oy
     ·exact ou q cB) (fun j h1 h2=>by rw [Ae (Ix h1),bo j h2]) (Ah (A5 he2)) (c8.put ke.2.2.2.2)
   simp only [Lw] at c9;exact IH (put S2 pi.1 ⟨pi.2,flat ga0 (p++y.1 :: u)⟩,n'+ua3+Aaz b,p++[y.1],u,Ck fp y.2) _ aF ⟨rfl,by rw [hR]; simp only [divL,aj,Cy,Co,Cr,F8],by show (p++[y.1]).length+u.length=t.cost.length; simp only [Cm,Ci,Cu] at jm ⊢; omega,by simp only [Cy,Co,Cr,kh]; exact c9,by rw [Ai aE,Ab kg]; exact wd,by rw [Am,hl2]; exact ed,fun j h1 h2=>by rw [Ae (Ix (h2.2.2.2 pi (Aj ik))),bo j h2.1]; exact au j h1 h2,fun q hq=>ou q bS,aT⟩
 ·have c1:decide ((p.length:Int)<(t.cost.length:Int))=false:=bY
  have wz:u=[]:=Cw.1 aA;subst wz;simp only [divL] at hR;simp only [Fo,Cu,Ik,Fy] at hR jm hT;have yf:Eh qF t i c={ t with rows:=(lessRows qF p c i 0 (put t.rows i p)).1,cost:=(lessT qF t.cost p c).1,basis:=put t.basis i c,fl:=Ck (Ck (Ck t.fl fp) (lessRows qF p c i 0 (put t.rows i p)).2) (lessT qF t.cost p c).2 }:=by
   unfold Eh Bj;rw [Ay bl,Ay hb,hR]
  have op:okL qF p:=by have:=Ae3 Dp ob kx; rw [hR] at this; exact this
  have i7:=hT.top;simp only [Ak] at i7;rw [Bs dc,Bs dc] at i7;simp (maxSteps:=10^6)+contextual(disch:=try exact dqd)only[evg1,simprocAttr,Ca,Bm,Cb,ga9,e0,e1,e2,e6,e7,e23,e24,c1,i7];refine D8 (P:=prog) (fun x st=>st.T.length=89/\(lessRows qF p c i 0 (put t.rows i p)=(x.2.2.1++(lessRows qF p c i x.2.2.1.length x.2.2.2.1).1,Ck x.2.2.2.2 (lessRows qF p c i x.2.2.1.length x.2.2.2.1).2))/\(x.2.2.1.length+x.2.2.2.1.length=t.rows.length)/\(A9 x.1 iq eq I { t with rows:=x.2.2.1++x.2.2.2.1,fl:=Ck (Ck t.fl fp) x.2.2.2.2 } cc)/\(nth (x.2.2.1++x.2.2.2.1) i=some p)/\(x.1.length=S.length+1)/\(∀ j,j<S.length->OutQ I iq j->nth x.1 j=nth S j)/\getT st.T 0=.ref I.it I.et 0/\getT st.T 1=.int (i:Nat)/\getT st.T 2=.int (c:Nat)/\getT st.T 6=.sref pi.1 pi.2 0 t.cost.length ua2/\getT st.T 58=.sref I.ir I.er 0 t.rows.length 1/\getT st.T 59=.int (t.rows.length:Nat)/\getT st.T 60=.int (x.2.2.1.length:Nat)/\st.S=x.1/\st.tk=tk'/\st.n=x.2.1) (fun x=>x.2.2.2.1.length) (S',n',([]:List (List Q)),(put t.rows i p),false) ?_ ?_;case refine_2=>exact ⟨rfl,by simp,by simp [Ak],by simp only [Cr,Fy]; exact hT,Za46,ed,au,rfl,rfl,rfl,rfl,rfl,rfl,rfl,rfl,rfl,rfl⟩
  rintro ⟨SS,n1,P,U,fq⟩ ⟨T,S',tk',n'⟩ ⟨hl,ez,dn,ah,b9,n9,il,e0,e1,e2,e6,e58,e59,e60,eS,eT,eN⟩ IH;simp only at ez dn ah b9 n9 il e0 e1 e2 e6 e58 e59 e60 eS eT eN;subst eS eT eN;obtain ⟨g,hg,hT⟩:=Ar hl;rw [hg] at e0 e1 e2 e6 e58 e59 e60;subst hT;clear hg hl;by_cases bu:P.length<t.rows.length
  ·have c2:decide ((P.length:Int)<(t.rows.length:Int))=true:=bZ
   obtain ⟨r0,U,rfl⟩:∃ r0 U',U=r0 :: U':=by
    exact Ya3w
   have vj:U.length<(r0 :: U).length:=by simp
   obtain ⟨pk,fv⟩:=Ac (show P.length<I.ids.length by rw [ai.nids]; exact bu);have cg:nth (O7 P.length (I.ids.map (dm t.cost.length ua2))) 0=some (.sref pk.1 pk.2 0 t.cost.length ua2):=B9 (by rw [Af] at fv ⊢; rw [Et,fv]; rfl);have ie:nth (P++r0 :: U) P.length=some r0:=D9;have x9:P++r0 :: U≠[]:=by simp
   have oc:=ah.rowsE x9;have hw2:∀ z:List Q,Cd.wrap ((P.length:Int)+1)=(((P++[z]).length:Nat):Int):=fun z=>bP
   by_cases ni:P.length=i
   ·have c3:((P.length:Int) != (i:Int))=false:=by rw [ni]; simp
    have u5:lessK qF p c i P.length r0=(r0,false):=by unfold lessK; rw [if_pos ni]
    have hw3:=hw2 r0;simp (maxSteps:=10^6)+contextual(disch:=try exact dqd)only[evg1,simprocAttr,Ca,Bm,Cb,ga9,e0,e1,e2,e6,e58,e59,e60,c2,c3,oc,cg,bu,hw3,Fj];exact IH (S',n',P++[r0],U,fq) _ aF ⟨rfl,by rw [ez]; simp only [lessRows,u5,Cy,Co,Cr,N2,Cm,Ci,Cu,Fm],Za0e,by simpa using ah,by simpa using b9,n9,il,aT⟩
   ·have c3:((P.length:Int) != (i:Int))=true:=aC
    have cn:=ah.rowE P.length pk r0 fv ie;have l8:=ah.rowE i pi p ik b9;have dj:=ah.rowW r0 (Aj ie);have l6:=ai.ap.row pk (Aj fv);obtain ⟨r,az,S3,k3,rfl,ei,ny,d6,cj⟩:=Au3 S' tk' n' iq eq _ I.it I.et pk.1 pk.2 pi.1 pi.2 t.cost.length c _ r0 p ah.top ah.fa cn l8 dj jm hc hW (ah.okr r0 (Aj ie)) op (ai.ap.rows _ _ pk pi fv ik ni) l6.1 l6.2.2.2.2 ai.ap.qt ke.2.2.2.2.symm;have u5:lessK qF p c i P.length r0=lessT qF r0 p c:=by unfold lessK; rw [if_neg ni]
    obtain ⟨z,hz⟩:∃ z,z=lessT qF r0 p c:=⟨_,rfl⟩;rw [<- hz] at ny d6 u5;have hw3:=hw2 z.1;have js:Oe S'.length S3=S3:=Fc aA;simp (maxSteps:=10^6)+contextual(disch:=try exact dqd)only[evg1,simprocAttr,Ca,Bm,Cb,ga9,e0,e1,e2,e6,e58,e59,e60,c2,c3,oc,cg,bu,hw3,az,js,Fj];have c9:=ah.row (S':=S3) (r':=z.1) (fl':=Ck (Ck (Ck t.fl fp) fq) z.2) fv ie (by rw [hz,Q3]; exact dj) (by rw [hz]; exact Aa7 Dp (ah.okr r0 (Aj ie)) op) cj ny d6;simp only [E5] at c9;exact IH (S3,k3,P++[z.1],U,Ck fq z.2) _ aF ⟨rfl,by rw [ez]; simp only [lessRows,u5,Cy,Co,Cr,F8,Cm,Ci,Cu,Fm],by show (P++[z.1]).length+U.length=t.rows.length; simp only [Cm,Ci,Cu] at dn ⊢; omega,by simpa [F8] using c9,Za0q,by rw [ei]; exact n9,fun j h1 h2=>by rw [cj j (h2.2.2.2 pk (Aj fv)) h2.1]; exact il j h1 h2,aT⟩
  ·have c2:decide ((P.length:Int)<(t.rows.length:Int))=false:=bZ
   have s8:U=[]:=Cw.1 aA;subst s8;simp only [lessRows] at ez;simp only [Fo,Cu,Ik,Fy] at ez dn ah b9;have s9:P≠[]:=fun h=>by rw [h] at dn; simp at dn; omega
   have ee:=ah.top;simp only [dn] at ee;rw [Bs dc,Bs dc] at ee;have l8:=ah.rowE i pi p ik b9;obtain ⟨r,az,S3,k3,rfl,ei,ny,d6,cj⟩:=Au3 S' tk' n' iq eq _ I.it I.et I.ic I.ec pi.1 pi.2 t.cost.length c _ t.cost p ah.top ah.fa ah.costE l8 rfl jm hc hW ai.okc op ke.2.2.1.symm ai.ap.tc.symm ai.ap.qc.symm ai.ap.qt ke.2.2.2.2.symm;have c9:=ah.setCost (S':=S3) (k':=(lessT qF t.cost p c).1) Q3 (Aa7 Dp ai.okc op) cj ny d6;have l9:=c9.top;simp only [dn] at l9;rw [Bs dc,Bs dc] at l9;have po:=c9.basisE s9;obtain ⟨b0,hb0⟩:=Ac (show i<t.basis.length by rw [ai.nb]; exact hi);have jo:over (t.basis.map intA) i [.prim (.int .i64 (c:Int))]=some ((put t.basis i c).map intA):=by
    exact Ya2n
   have vk:=c9.setBasis (i:=i) (b:=c) s9 (by simp only [Q3]; exact hc);simp (maxSteps:=10^6)+contextual(disch:=try exact dqd)only[evg1,simprocAttr,Ca,Bm,Cb,ga9,e0,e1,e2,e6,e58,e59,e60,c2,ee,az,l9,po,jo,hi,Fj];rw [hΦ,yf,ez];have yg:LowQ I iq S.length { t with rows:=P,cost:=(lessT qF t.cost p c).1,basis:=put t.basis i c,fl:=Ck (Ck (Ck t.fl fp) fq) (lessT qF t.cost p c).2 }:=bh.of fun _=>eh;exact ⟨_,_,rfl,by rw [I1,Am,ei]; omega,vk.take yg,fun j hj=>by
    by_cases jd:j<S.length
    ·rw [Gu jd,Ae (Ix hj.2.2.1),cj j hj.2.1 hj.1]; exact il j jd hj
    ·rw [Af,Af,C5 dJ,C5 aA]⟩):p:=h
namespace QQ
theorem Avg:Aw8:=Ma8
end QQ
end
end
section
open Go Go.Proofs.Tryz
open Go.Proofs.Tryz renaming func143->ga10,ntmps143->ga11,results143->ga12
open Go.Proofs.YthelkgdmgihhiaaGreat renaming ceQ->ga0,A0->ga1,B2->ga5,A7->ga6
set_option maxRecDepth 100000
namespace QQ
abbrev ua6:Nat:=143
end QQ
set_option maxHeartbeats 8000000
set_option maxRecDepth 100000
def Pc:Option (Nat × Q)->AV
 | none=>.int (-1)
 | some (i,_)=>.int (i:Nat)
theorem Mr {F:Fld} {basis:List Nat} {c W m:Nat} : ∀ {l:List (List Q)} {k:Nat} {b:Option (Nat × Q)} {i:Nat} {q:Q} {f:Bool},k+l.length<=m->(∀ i q,b=some (i,q)->i<m)->B7 F basis c W k l b=(some (i,q),f)->i<m
 | [],k,b,i,q,f,_,hb,h=>by
  simp only [B7,Cf] at h;exact hb i q h.1
 | r :: l,k,b,i,q,f,hl,hb,h=>by
  simp only [Ci] at hl;unfold B7 at h;split at h
  ·exact Mr aA hb h
  ·split at h
   ·simp only [Cf] at h;exact Mr (k:=k+1) (l:=l) aA (fun i q e=>by simp only [Ba,Cf] at e; omega) (Prod.ext h.1 rfl)
   ·rename_i bi least;simp only [Cf] at h;refine Mr (k:=k+1) (l:=l) aA (fun i' q' e=>?_) (Prod.ext h.1 rfl);split at e
    ·simp only [Ba,Cf] at e;exact hb i' least (by rw [e.1])
    ·simp only [Ba,Cf] at e; omega
theorem Alq {F:Fld} {t:Tb} {c i:Nat} {q:Q} {f:Bool} (h:Bv F t c=(some (i,q),f)):i<t.rows.length :=
 Mr (k:=0) (by simp) (fun _ _ e=>by cases e) h
section
variable (S:List Ent) (tk:List Nat) (k iq eq:Nat)
abbrev Aw9 (p:Prop:=by exact ∀ (S:List Ent)(tk:List Nat)(k iq eq:Nat)(I:TI)(t:Tb)(cc:Cap)(c:Nat)(ai:A9 S iq eq I t cc)(hc:c<t.cost.length),∃ r,cL prog ua6 [.ref I.it I.et 0,.int c] S tk k=some r/\Zs S tk iq eq I { t with fl:=Ck t.fl (Bv qF t c).2 } cc (Pc (Bv qF t c).1) r):=p
theorem Ma9 {p:Prop} (h:p:=by
 intro S tk k iq eq I t cc c ai hc;obtain ⟨Φ,hΦ⟩:∃ Φ,Φ=Zs S tk iq eq I { t with fl:=Ck t.fl (Bv qF t c).2 } cc (Pc (Bv qF t c).1):=⟨_,rfl⟩;rw [<- hΦ];have ag:=ai.top;by_cases cq:t.rows=[]
 ·have b8:t.rows.length=0:=by rw [cq]; rfl
  rw [b8] at ag;simp only [dd] at ag;have i8:Bv qF t c=(none,false):=by unfold Bv; rw [cq]; rfl
  refine opG ga10 ga11 ?_;have d0:decide ((0:Int)<((0:Nat):Int))=false:=rfl;simp (maxSteps:=10^6)+contextual(disch:=try exact dqd)only[evg1,simprocAttr,Ca,Bm,Cb,ga12,ag];refine D8 (P:=prog) (fun x st=>st.T.length=93/\getT st.T 5=.int (-1)/\getT st.T 15=.int ((0:Nat):Int)/\getT st.T 16=.int 0/\st.S=S++[⟨k,zeroQ⟩]/\st.tk=tk/\st.n=x) (fun x=>0) (k+1) ?_ ?_;case refine_2=>exact ⟨rfl,rfl,rfl,rfl,rfl,rfl,rfl⟩
  rintro n1 ⟨T,S',tk',n'⟩ ⟨hl,e5,e15,e16,eS,eT,eN⟩ IH;subst eS eT eN;obtain ⟨g,hg,hT⟩:=Ar hl;rw [hg] at e5 e15 e16;subst hT;clear hg hl;simp (maxSteps:=10^6)+contextual(disch:=try exact dqd)only[evg1,simprocAttr,Ca,Bm,Cb,ga12,e5,e15,e16,d0,H4];rw [hΦ,i8];exact ⟨S,_,rfl,rfl,by simp only [Fy]; exact ai,fun j _=>rfl⟩
 have dc:0<t.rows.length:=Ic.2 cq;rw [Bs dc,Bs dc] at ag;have jg:=ai.rowsE cq;have hW:=ai.bigW;have hM:=ai.bigM;have bh:=ai.low;have dw:=ai.real;refine opG ga10 ga11 ?_;simp (maxSteps:=10^6)+contextual(disch:=try exact dqd)only[evg1,simprocAttr,Ca,Bm,Cb,ga12,ag];refine D8 (P:=prog) (fun x st=>st.T.length=93/\(Bv qF t c=((B7 qF t.basis c t.cost.length x.2.2.1.length x.2.2.2.1 x.2.2.2.2.1).1,Ck x.2.2.2.2.2 (B7 qF t.basis c t.cost.length x.2.2.1.length x.2.2.2.1 x.2.2.2.2.1).2))/\(t.rows=x.2.2.1++x.2.2.2.1)/\(A9 x.1 iq eq I { t with fl:=Ck t.fl x.2.2.2.2.2 } cc)/\(∃ lc,entAt x.1 S.length k=some lc/\lc.length=ua2/\∀ bi q,x.2.2.2.2.1=some (bi,q)->lc=ga0 q/\bi<x.2.2.1.length/\qF.ok q)/\(x.1.length=S.length+1)/\(∀ j,j<S.length->OutQ I iq j->nth x.1 j=nth S j)/\getT st.T 0=.ref I.it I.et 0/\getT st.T 1=.int (c:Nat)/\getT st.T 5=Pc x.2.2.2.2.1/\getT st.T 6=.ref S.length k 0/\getT st.T 14=.sref I.ir I.er 0 t.rows.length 1/\getT st.T 15=.int (t.rows.length:Nat)/\getT st.T 16=.int (x.2.2.1.length:Nat)/\st.S=x.1/\st.tk=tk/\st.n=x.2.1) (fun x=>x.2.2.2.1.length) ((S++[⟨k,zeroQ⟩]),(k+1),([]:List (List Q)),t.rows,(none:Option (Nat × Q)),false) ?_ ?_;case refine_2=>exact ⟨rfl,by simp [Bv],rfl,by simp only [Fy]; exact ai.app _,⟨_,An rfl,rfl,fun _ _ h=>aR⟩,by simp,fun j hj _=>Bh hj,rfl,rfl,rfl,rfl,rfl,rfl,rfl,rfl,rfl,rfl⟩
 rintro ⟨SS,n1,P,U,bst,fq⟩ ⟨T,S',tk',n'⟩ ⟨hl,hR,dn,hT,k7,ed,au,e0,e1,e5,e6,e14,e15,e16,eS,eT,eN⟩ IH;simp only at hR dn hT k7 ed au e0 e1 e5 e6 e14 e15 e16 eS eT eN;subst eS eT eN;obtain ⟨g,hg,hT⟩:=Ar hl;rw [hg] at e0 e1 e5 e6 e14 e15 e16;subst hT;clear hg hl;have rt:t.rows.length=P.length+U.length:=dV
 obtain ⟨lc,hlc,yh,hlb⟩:=k7;by_cases bu:P.length<t.rows.length
 ·have c1:decide ((P.length:Int)<(t.rows.length:Int))=true:=bZ
  obtain ⟨r0,U,rfl⟩:∃ r0 U',U=r0 :: U':=by
   exact Ya1e
  have vj:U.length<(r0 :: U).length:=by simp
  obtain ⟨pk,fv⟩:=Ac (show P.length<I.ids.length by rw [ai.nids]; exact bu);have cg:nth (O7 P.length (I.ids.map (dm t.cost.length ua2))) 0=some (.sref pk.1 pk.2 0 t.cost.length ua2):=B9 (by rw [Af] at fv ⊢; rw [Et,fv]; rfl);have ie:nth t.rows P.length=some r0:=by rw [dn]; exact D9
  have dj:=ai.rowW r0 (Aj ie);have kx:=ai.okr r0 (Aj ie);have io:=hT.rowsE cq;have cn:=hT.rowE P.length pk r0 fv ie;have dq:=hT.top;simp only at dq;rw [Bs dc,Bs dc] at dq;obtain ⟨x,hx⟩:=Ac (show c<r0.length by omega);obtain ⟨z,hz⟩:=Ac (show t.cost.length - 1<r0.length by omega);have ox:=kx x (Aj hx);have oz:=kx z (Aj hz);have fc:=Aq (ce:=ga0) ga1 hx;have i9:=Aq (ce:=ga0) ga1 hz;have hs:=Ad2 S' tk' n' iq eq (Ck t.fl fq) x ox hT.fa;have hw2:Cd.wrap ((P.length:Int)+1)=(((P++[r0]).length:Nat):Int):=bP
  have fe:t.rows=(P++[r0])++U:=dV
  have j3:(P++[r0]).length=P.length+1:=by simp
  by_cases j6:sgn x<=0
  ·have c2:decide (sgn x<=0)=true:=gR
   simp (maxSteps:=10^6)+contextual(disch:=try exact dqd)only[evg1,simprocAttr,Ca,Bm,Cb,ga12,e0,e1,e5,e6,e14,e15,e16,c1,c2,hw2,dq,io,cg,cn,fc,bu,hc,hs,Ge,xfs,puQ,tkQ,Fj];exact IH (S',n'+ua3,P++[r0],U,bst,fq) _ aF ⟨rfl,by rw [hR,j3]; simp only [B7,Ay hx]; rw [if_pos j6],fe,hT,⟨lc,hlc,yh,fun bi q h=>by obtain ⟨h1,h2,h3⟩:=hlb bi q h; exact ⟨h1,Za3t,h3⟩⟩,ed,au,aT⟩
  ·have c2:decide (sgn x<=0)=false:=gR
   obtain ⟨y,hy⟩:∃ y,y=qF.over z x:=⟨_,rfl⟩;have oy:qF.ok y.1:=by rw [hy]; exact Dp.over _ _ oz ox
   have dk:=Avd S' tk' (n'+ua3) iq eq (Ck t.fl fq) z x oz ox hT.fa;have hg1:=Es (c:=y.2) hT.fa;rw [<- hy] at dk;obtain ⟨S2,bm⟩:∃ S2,S2=flS S' iq eq y.2:=⟨_,rfl⟩;rw [<- bm] at dk hg1;have c8:FAq S2 iq eq (Ck (Ck t.fl fq) y.2):=by rw [bm]; exact hT.fa.fS
   have hl2:S2.length=S'.length:=by rw [bm,Bp]
   have bo:∀ j,j≠iq->nth S2 j=nth S' j:=fun j hj=>by rw [bm,ga6 hj]
   have kg:nth S2 S.length=nth S' S.length:=Za6s
   have pp:entAt S2 S.length k=some lc:=by rw [Ab kg]; exact hlc
   have fy:Cd.wrap ((t.cost.length:Int) - 1)=((t.cost.length - 1:Nat):Int):=aS
   have j4:t.cost.length - 1<t.cost.length:=aA
   obtain ⟨n2,ta⟩:∃ n2,n2=n'+ua3+Aaz x:=⟨_,rfl⟩;rw [<- ta] at dk;obtain ⟨E,hE⟩:∃ E:Ent,E=⟨n2,ga0 y.1⟩:=⟨_,rfl⟩;have yi:entAt (S2++[⟨n2,ga0 y.1⟩]) S2.length n2=some (ga0 y.1):=Bk;have ma:=Ad (L:=[⟨n2,ga0 y.1⟩]) pp;have a1b:over lc 0 (ga0 y.1)=some (ga0 y.1):=by
    have:=Tj (e:=lc) (r:=[]) (e':=ga0 y.1) (by rw [yh]; rfl);exact Ya1y
   have hSl:S.length<S2.length:=aA
   have yj:∀ v,Oe S'.length (put S2 S.length v++[⟨n2,ga0 y.1⟩])=put S2 S.length v:=fun v=>by rw [<- hl2,<- Am (l:=S2) (i:=S.length) (v:=v)]; simp
   have a1c v:=Dk (L:=[⟨n2,ga0 y.1⟩]) (x:=v) hSl;cases bst with
   | none =>
    have c3:decide ((-1:Int) >= 0)=false:=rfl;simp only [Pc] at e5;simp (maxSteps:=10^6)+contextual(disch:=try exact dqd)only[evg1,simprocAttr,Ca,Bm,Cb,ga12,e0,e1,e5,e6,e14,e15,e16,c1,c2,c3,hw2,dq,io,cg,cn,fc,i9,fy,j4,bu,hc,hs,dk,hg1,yi,ma,a1b,a1c,yj,Ge,xfs,puQ,tkQ,ga1,ga5,ovQ,Fj];have c9:=hT.frame (S':=put S2 S.length ⟨k,ga0 y.1⟩) (n:=S.length) (fl':=Ck (Ck t.fl fq) y.2) (bh.of fun h=>h) (fun j h1 h2=>by rw [Ae aA,bo j h2]) (by first|exact ⟨⟩|exact c8.put (fun h=>dK));exact IH (put S2 S.length ⟨k,ga0 y.1⟩,n2+1,P++[r0],U,some (P.length,y.1),Ck fq y.2) _ aF ⟨rfl,by rw [hR,j3]; simp only [B7,Ay hx,Ay hz]; rw [if_neg j6,<- hy,<- F8],fe,by simpa only [F8] using c9,⟨_,Ah hSl,ga1 _,fun bi q h=>Za6m⟩,by rw [Am,hl2]; exact ed,fun j h1 h2=>by rw [Ae aE,bo j h2.1]; exact au j h1 h2,aT⟩
   | some bq =>
    obtain ⟨bi,least⟩:=bq;obtain ⟨a1d,hbi,ol⟩:=hlb bi least rfl;subst a1d;have c3:decide ((bi:Int) >= 0)=true:=by simp
    simp only [Pc] at e5;obtain ⟨d,hd⟩:∃ d,d=qF.minus y.1 least:=⟨_,rfl⟩;have fi:=Nc (S2++[⟨n2,ga0 y.1⟩]) tk' (n2+1) iq eq (Ck (Ck t.fl fq) y.2) y.1 least oy ol (c8.app (L:=[⟨n2,ga0 y.1⟩]));have hg2:=Es (c:=d.2) (b:=Ck (Ck t.fl fq) y.2) (c8.app (L:=[⟨n2,ga0 y.1⟩]));rw [<- hd] at fi;rw [Hr c8] at fi hg2;obtain ⟨S3,cz⟩:∃ S3,S3=flS S2 iq eq d.2:=⟨_,rfl⟩;rw [<- cz] at fi hg2;have od:qF.ok d.1:=by rw [hd]; exact Dp.minus _ _ oy ol
    have d6:FAq S3 iq eq (Ck (Ck (Ck t.fl fq) y.2) d.2):=by rw [cz]; exact c8.fS
    have o3:=Ad2 (S3++[⟨n2,ga0 y.1⟩]) tk' (n2+1+ua4) iq eq (Ck (Ck (Ck t.fl fq) y.2) d.2) d.1 od (d6.app (L:=[⟨n2,ga0 y.1⟩]));have ei:S3.length=S2.length:=by rw [cz,Bp]
    have cj:∀ j,j≠iq->nth S3 j=nth S2 j:=fun j hj=>by rw [cz,ga6 hj]
    have mb:nth S3 S.length=nth S2 S.length:=by rw [cz]; first|rfl|exact A7 dK
    have jy:entAt (S2++[⟨n2,ga0 y.1⟩]) I.it I.et=some [.ifc ua0 (rcvQ iq eq),intA t.vars,intA t.real,.sref I.ir I.er 0 t.rows.length 1,.sref I.ic I.ec 0 t.cost.length ua2,.sref I.ib I.eb 0 t.rows.length 1,.frz (t.flip.map Dc) cc]:=Ad (by rw [Ab (bo _ ai.ap.qt.symm)]; exact dq);have ph:entAt (S3++[⟨n2,ga0 y.1⟩]) I.it I.et=some [.ifc ua0 (rcvQ iq eq),intA t.vars,intA t.real,.sref I.ir I.er 0 t.rows.length 1,.sref I.ic I.ec 0 t.cost.length ua2,.sref I.ib I.eb 0 t.rows.length 1,.frz (t.flip.map Dc) cc]:=Ad (by rw [Ab (cj _ ai.ap.qt.symm),Ab (bo _ ai.ap.qt.symm)]; exact dq);have x8:entAt (S3++[⟨n2,ga0 y.1⟩]) I.ib I.eb=some (t.basis.map intA):=Ad (by rw [Ab (cj _ ai.ap.qb.symm),Ab (bo _ ai.ap.qb.symm)]; exact hT.basisE cq);obtain ⟨bk,oe⟩:=Ac (show P.length<t.basis.length by rw [ai.nb]; exact bu);obtain ⟨bb,td⟩:=Ac (show bi<t.basis.length by rw [ai.nb]; omega);have ip:nth (O7 P.length (t.basis.map intA)) 0=some (.prim (.int .i64 (bk:Int))):=B9 (by rw [Af] at oe ⊢; rw [Et,oe]; rfl);have og:nth (O7 bi (t.basis.map intA)) 0=some (.prim (.int .i64 (bb:Int))):=B9 (by rw [Af] at td ⊢; rw [Et,td]; rfl);have pq:bi<t.rows.length:=aA
    have yk:entAt (S3++[⟨n2,ga0 y.1⟩]) S2.length n2=some (ga0 y.1):=An ei;have yl:entAt (S3++[⟨n2,ga0 y.1⟩]) S.length k=some (ga0 least):=Ad Za5m;have ym:Oe S'.length (S3++[⟨n2,ga0 y.1⟩])=S3:=by rw [<- hl2,<- ei]; simp
    have yn:∀ v,Oe S'.length (put S3 S.length v++[⟨n2,ga0 y.1⟩])=put S3 S.length v:=fun v=>by rw [<- hl2,<- ei,<- Am (l:=S3) (i:=S.length) (v:=v)]; simp
    have yo v:=Dk (L:=[⟨n2,ga0 y.1⟩]) (x:=v) (show S.length<S3.length by omega);have hw:worse t.basis (sgn d.1) P.length bi=(decide (0<sgn d.1) || (sgn d.1 == 0 && decide (bb<bk))):=by unfold worse; rw [Ay oe,Ay td]
    have te:Ck fq (Ck (Ck y.2 d.2) (B7 qF t.basis c t.cost.length (P++[r0]).length U (if worse t.basis (sgn d.1) P.length bi=true then some (bi,least) else some (P.length,y.1))).2)=Ck (Ck fq (Ck y.2 d.2)) (B7 qF t.basis c t.cost.length (P++[r0]).length U (if worse t.basis (sgn d.1) P.length bi=true then some (bi,least) else some (P.length,y.1))).2:=(F8 _ _ _).symm;have jz:Bv qF t c=((B7 qF t.basis c t.cost.length (P++[r0]).length U (if worse t.basis (sgn d.1) P.length bi=true then some (bi,least) else some (P.length,y.1))).1,Ck (Ck fq (Ck y.2 d.2)) (B7 qF t.basis c t.cost.length (P++[r0]).length U (if worse t.basis (sgn d.1) P.length bi=true then some (bi,least) else some (P.length,y.1))).2):=by
     rw [hR,<- te,j3]; simp only [B7,Ay hx,Ay hz]; rw [if_neg j6,<- hy,<- hd]
    have we:A9 S3 iq eq I { t with fl:=Ck t.fl (Ck fq (Ck y.2 d.2)) } cc:=by
     have:=hT.frame (S':=S3) (n:=S.length) (fl':=Ck (Ck (Ck t.fl fq) y.2) d.2) (bh.of fun h=>h) (fun j h1 h2=>by rw [cj j h2,bo j h2]) d6;simpa only [F8] using this
    have hTn:A9 (put S3 S.length ⟨k,ga0 y.1⟩) iq eq I { t with fl:=Ck t.fl (Ck fq (Ck y.2 d.2)) } cc:=we.frame (n:=S.length) (bh.of fun h=>h) (fun j h1 h2=>by rw [Ae aA]) (by first|exact ⟨⟩|exact we.fa.put (fun h=>dK));by_cases h1:0<sgn d.1
    ·have k1:decide (sgn d.1 > 0)=true:=aW
     have jh:worse t.basis (sgn d.1) P.length bi=true:=by rw [hw]; simp [h1]
     rw [if_pos jh] at jz;simp (maxSteps:=10^6)+contextual(disch:=try exact dqd)only[evg1,simprocAttr,Ca,Bm,Cb,ga12,e0,e1,e5,e6,e14,e15,e16,c1,c2,c3,k1,hw2,dq,jy,ph,x8,io,cg,cn,fc,i9,fy,j4,bu,pq,hc,hs,o3,dk,fi,hg1,hg2,yi,ma,ip,og,ym,Ge,xfs,puQ,tkQ,ga1,ga5,ovQ,Fj];exact Ya0r
    have k1:decide (sgn d.1 > 0)=false:=aW
    by_cases h2:sgn d.1=0
    ·have k2:(sgn d.1 == 0)=true:=cF
     by_cases h3:bb<bk
     ·have k3:decide ((bk:Int) > (bb:Int))=true:=cG
      have jh:worse t.basis (sgn d.1) P.length bi=true:=by rw [hw]; simp [h2,h3]
      rw [if_pos jh] at jz;simp (maxSteps:=10^6)+contextual(disch:=try exact dqd)only[evg1,simprocAttr,Ca,Bm,Cb,ga12,e0,e1,e5,e6,e14,e15,e16,c1,c2,c3,k1,k2,k3,hw2,dq,jy,ph,x8,io,cg,cn,fc,i9,fy,j4,bu,pq,hc,hs,o3,dk,fi,hg1,hg2,yi,ma,ip,og,ym,Ge,xfs,puQ,tkQ,ga1,ga5,ovQ,Fj];exact Ya0r
     ·have k3:decide ((bk:Int) > (bb:Int))=false:=aC
      have jh:worse t.basis (sgn d.1) P.length bi=false:=by rw [hw]; simp [h2,h3]
      rw [jh,if_neg Iy] at jz;simp (maxSteps:=10^6)+contextual(disch:=try exact dqd)only[evg1,simprocAttr,Ca,Bm,Cb,ga12,e0,e1,e5,e6,e14,e15,e16,c1,c2,c3,k1,k2,k3,hw2,dq,jy,ph,x8,io,cg,cn,fc,i9,fy,j4,bu,pq,hc,hs,o3,dk,fi,hg1,hg2,yi,ma,yk,yl,ip,og,yn,yo,ovQ2,Ge,xfs,puQ,tkQ,ga1,ga5,ovQ,Fj];exact Ya0e
    ·have k2:(sgn d.1 == 0)=false:=cF
     have jh:worse t.basis (sgn d.1) P.length bi=false:=by rw [hw]; simp [h1,h2]
     rw [jh,if_neg Iy] at jz;simp (maxSteps:=10^6)+contextual(disch:=try exact dqd)only[evg1,simprocAttr,Ca,Bm,Cb,ga12,e0,e1,e5,e6,e14,e15,e16,c1,c2,c3,k1,k2,hw2,dq,jy,ph,x8,io,cg,cn,fc,i9,fy,j4,bu,pq,hc,hs,o3,dk,fi,hg1,hg2,yi,ma,yk,yl,yn,yo,ovQ2,Ge,xfs,puQ,tkQ,ga1,ga5,ovQ,Fj];exact Ya0e
 ·have c1:decide ((P.length:Int)<(t.rows.length:Int))=false:=bZ
  have s8:U=[]:=Cw.1 aA;subst s8;simp (maxSteps:=10^6)+contextual(disch:=try exact dqd)only[evg1,simprocAttr,Ca,Bm,Cb,ga12,e0,e1,e5,e6,e14,e15,e16,c1];simp only [B7,Fy] at hR;have wy:fz3 S.length S' (Pc bst)=Pc bst:=by cases bst <;> rfl
  rw [hΦ,hR,wy];exact ⟨_,_,rfl,dJ,hT.take (bh.of fun h=>h),fun j hj=>by
   by_cases jd:j<S.length
   ·rw [Gu jd]; exact au j jd hj
   ·rw [Af,Af,C5 dJ,C5 aA]⟩):p:=h
namespace QQ
theorem Ape:Aw9:=Ma9
end QQ
end
end
section
open Go Go.Proofs.Tryz
open Go.Proofs.Tryz renaming func116->ga13,ntmps116->ga14,results116->ga15
open Go.Proofs.YthelkgdmgihhiaaGreat renaming ceQ->ga0,A0->ga1
set_option maxRecDepth 100000
namespace QQ
abbrev ua7:Nat:=116
end QQ
set_option maxHeartbeats 8000000
set_option maxRecDepth 100000
section
variable (S:List Ent) (tk:List Nat) (k iq eq:Nat)
abbrev Aw10 (p:Prop:=by exact ∀ (S:List Ent)(tk:List Nat)(k iq eq:Nat)(I:TI)(t t':Tb)(cc:Cap)(K:Nat)(b:Bool)(ai:A9 S iq eq I t cc)(hK:Jo qF K t=some (b,t')),∃ r,cL prog ua7 [.ref I.it I.et 0] S tk k=some r/\Zs S tk iq eq I t' cc (.bool b) r):=p
theorem Ma10 {p:Prop} (h:p:=by
 intro S tk k iq eq I t t' cc K b ai hK;obtain ⟨Φ,hΦ⟩:∃ Φ,Φ=Zs S tk iq eq I t' cc (.bool b):=⟨_,rfl⟩;rw [<- hΦ];refine opG ga13 ga14 ?_;simp (maxSteps:=10^6)+contextual(disch:=try exact dqd)only[evg1,simprocAttr,Ca,Bm,Cb,ga15];refine D8 (P:=prog) (fun x st=>st.T.length=46/\(Jo qF x.2.2.1 x.2.2.2=some (b,t'))/\(A9 x.1 iq eq I x.2.2.2 cc)/\(x.1.length=S.length)/\(∀ j,OutQ I iq j->nth x.1 j=nth S j)/\getT st.T 0=.ref I.it I.et 0/\st.S=x.1/\st.tk=tk/\st.n=x.2.1) (fun x=>x.2.2.1) (S,k,K,t) ?_ ?_;case refine_2=>exact ⟨rfl,hK,ai,rfl,fun j _=>rfl,rfl,rfl,rfl,rfl⟩
 rintro ⟨SS,n1,K1,t1⟩ ⟨T,S',tk',n'⟩ ⟨hl,dp,hT,ed,au,e0,eS,eT,eN⟩ IH;simp only at dp hT ed au e0 eS eT eN;subst eS eT eN;obtain ⟨g,hg,hT⟩:=Ar hl;rw [hg] at e0;subst hT;clear hg hl;have IHA:=IH;clear IH;cases K1 with
 | zero=>simp [Jo] at dp
 | succ K1 =>
 have ag:=hT.top;have dw:=hT.real;have hW:=hT.bigW;have jt:=Afc S' tk' n' iq eq t1.fl hT.fa;have kh:Oe S.length S'=S':=Fc aA;unfold Jo at dp;cases aj:(qF.stop && t1.fl) with
 | true =>
  rw [aj] at dp jt;rw [if_pos rfl] at dp;simp only [Ba,Cf] at dp;obtain ⟨rfl,rfl⟩:=dp;simp (maxSteps:=10^6)+contextual(disch:=try exact dqd)only[evg1,simprocAttr,Ca,Bm,Cb,ga15,e0,ag,jt,Ge,xfs,puQ];rw [hΦ,kh];exact ⟨S',n',rfl,ed,hT,au⟩
 | false =>
 rw [aj] at dp jt;rw [if_neg Iy] at dp;simp only [intA] at ag;simp (maxSteps:=10^6)+contextual(disch:=try exact dqd)only[evg1,simprocAttr,Ca,Bm,Cb,ga15,e0,ag,jt,Ge,xfs,puQ];refine D8 (P:=prog) (fun x st=>st.T.length=46/\(x.2<=t1.real)/\(colF t1.cost t1.real 0=colF t1.cost (t1.real - x.2) x.2)/\getT st.T 0=.ref I.it I.et 0/\getT st.T 3=.int (-1)/\getT st.T 14=.int (t1.real:Nat)/\getT st.T 15=.int (x.2:Nat)/\st.S=S'/\st.tk=tk'/\st.n=x.1) (fun x=>t1.real - x.2) (n',0) ?_ ?_;case refine_2=>exact ⟨rfl,Cl _,rfl,rfl,rfl,rfl,rfl,rfl,rfl,rfl⟩
 rintro ⟨n2,j⟩ ⟨T,S',tk',n'⟩ ⟨hl,hj,hc,e0,e3,e14,e15,eS,eT,eN⟩ IH;simp only at hj hc e0 e3 e14 e15 eS eT eN;subst eS eT eN;obtain ⟨g,hg,hT⟩:=Ar hl;rw [hg] at e0 e3 e14 e15;subst hT;clear hg hl;by_cases qj:j<t1.real
 ·have c1:decide ((j:Int)<(t1.real:Int))=true:=dU
  have hw:Cd.wrap ((j:Int)+1)=((j+1:Nat):Int):=aQ
  have mc:j<t1.cost.length:=aA
  obtain ⟨x,hx⟩:=Ac mc;have ox:=hT.okc x (Aj hx);have fc:=Aq (ce:=ga0) ga1 hx;have hs:=Ad2 S' tk' n' iq eq t1.fl x ox hT.fa;have f7:=hT.costE;have sj:colF t1.cost (t1.real - j) j=if sgn x<0 then some j else colF t1.cost (t1.real - (j+1)) (j+1):=by
   rw [show t1.real - j=(t1.real - (j+1))+1 by omega];simp only [colF,Ay hx]
  by_cases hneg:sgn x<0
  ·have c2:decide (sgn x<0)=true:=aZ
   have c3:decide ((j:Int)<0)=false:=by simp
   rw [hc,sj,if_pos hneg] at dp;simp only at dp;obtain ⟨r,i8,S2,k2,rfl,hl2,ah,c8⟩:=Ape S' tk' (n'+ua3) iq eq I t1 cc j hT mc;obtain ⟨lv,yp⟩:∃ lv,lv=Bv qF t1 j:=⟨_,rfl⟩;rw [<- yp] at dp i8 ah;obtain ⟨lb,lf⟩:=lv;cases lb with
   | none =>
    simp only [Ba,Cf] at dp;obtain ⟨rfl,rfl⟩:=dp;have c4:decide ((-1:Int)<0)=true:=rfl;simp only [Pc] at i8;have yq:Oe S.length S2=S2:=Fc aA;simp (maxSteps:=10^6)+contextual(disch:=try exact dqd)only[evg1,simprocAttr,Ca,Bm,Cb,ga15,e0,e3,e14,e15,c1,c2,c3,c4,ag,f7,fc,mc,hs,i8,Ge,xfs,puQ,tkQ];rw [hΦ,yq];exact ⟨S2,k2,rfl,aA,ah,fun j hj=>by rw [c8 j hj]; exact au j hj⟩
   | some bq =>
    obtain ⟨i,q⟩:=bq;simp only at dp;have wa:i<t1.rows.length:=Alq (F:=qF) (t:=t1) (c:=j) (q:=q) (f:=lf) yp.symm;obtain ⟨r,o4,S3,k3,rfl,ei,c9,d6⟩:=Avg S2 tk' k2 iq eq I _ cc i j ah wa mc;have c4:decide ((i:Int)<0)=false:=by simp
    simp only [Pc] at i8;have yr:Oe S'.length S3=S3:=Fc aA;simp (maxSteps:=10^6)+contextual(disch:=try exact dqd)only[evg1,simprocAttr,Ca,Bm,Cb,ga15,e0,e3,e14,e15,c1,c2,c3,c4,ag,f7,fc,mc,hs,i8,o4,yr,Ge,xfs,puQ,tkQ];exact IHA (S3,k3,K1,Eh qF { t1 with fl:=Ck t1.fl lf } i j) _ aF ⟨rfl,dp,c9,aE,fun j hj=>by rw [d6 j hj,c8 j hj]; exact au j hj,aT⟩
  ·have c2:decide (sgn x<0)=false:=aZ
   rw [sj,if_neg hneg] at hc;simp (maxSteps:=10^6)+contextual(disch:=try exact dqd)only[evg1,simprocAttr,Ca,Bm,Cb,ga15,e0,e3,e14,e15,c1,c2,hw,ag,f7,fc,mc,hs,Ge,xfs,puQ,tkQ];exact IH (n'+ua3,j+1) _ aF ⟨rfl,aE,hc,aT⟩
 ·have c1:decide ((j:Int)<(t1.real:Int))=false:=dU
  have c3:decide ((-1:Int)<0)=true:=rfl;have lz:t1.real - j=0:=aA
  rw [hc,lz] at dp;simp only [colF,Ba,Cf] at dp;obtain ⟨rfl,rfl⟩:=dp;simp (maxSteps:=10^6)+contextual(disch:=try exact dqd)only[evg1,simprocAttr,Ca,Bm,Cb,ga15,e0,e3,e14,e15,c1,c3,ag];rw [hΦ,kh];exact ⟨S',n',rfl,ed,hT,au⟩):p:=h
namespace QQ
theorem Ao0:Aw10:=Ma10
end QQ
end
end
section
open Go Go.Proofs.Tryz
open Go.Proofs.Tryz renaming func117->ga16,ntmps117->ga17,results117->ga18,func145->ga19,ntmps145->ga20,results145->ga21
open Go.Proofs.YthelkgdmgihhiaaGreat renaming ceQ->ga0,A0->ga1,B2->ga5
set_option maxRecDepth 100000
namespace QQ
abbrev ua8:Nat:=117
abbrev ua9:Nat:=145
end QQ
set_option maxHeartbeats 4000000
set_option maxRecDepth 100000
theorem Aac {basis:List Nat} {k:Nat} : ∀ {l:List (List Q)} {i j:Nat},La basis k i l=some j->i<=j/\j<i+l.length/\at_ 0 basis j=k
 | [],_,_,h=>by simp [La] at h
 | r :: l,i,j,h=>by
  unfold La at h;split at h
  ·simp only [Ba] at h; subst h; rename_i h; exact ⟨Ce _,by simp,h⟩
  ·have:=Aac h; simp only [Ci]; omega
namespace QQ
def Atk (S:List Ent) (tk:List Nat) (iq eq:Nat) (y:Q × Bool) (r:Rs):Prop:=∃ k',r=(.agg (ceQ y.1),flS S iq eq y.2,tk,k')
end QQ
section
variable (S:List Ent) (tk:List Nat) (k iq eq:Nat)
abbrev Aw11 (p:Prop:=by exact ∀ (S:List Ent)(tk:List Nat)(k iq eq:Nat)(I:TI)(t:Tb)(cc:Cap)(hT:A9 S iq eq I t cc),∃ r,cL prog ua8 [.ref I.it I.et 0] S tk k=some r/\Zs S tk iq eq I t cc (.bool (Hz t)) r):=p
theorem Ma11 {p:Prop} (h:p:=by
 intro S tk k iq eq I t cc hT;obtain ⟨Φ,hΦ⟩:∃ Φ,Φ=Zs S tk iq eq I t cc (.bool (Hz t)):=⟨_,rfl⟩;rw [<- hΦ];have ag:=hT.top;have hW:=hT.bigW;have dw:=hT.real;have f7:=hT.costE;obtain ⟨z,hz⟩:=Ac (show t.cost.length - 1<t.cost.length by omega);have oz:=hT.okc z (Aj hz);have i9:=Aq (ce:=ga0) ga1 hz;have hs:=Ad2 S tk k iq eq t.fl z oz hT.fa;have fy:Cd.wrap ((t.cost.length:Int) - 1)=((t.cost.length - 1:Nat):Int):=aS
 have j4:t.cost.length - 1<t.cost.length:=aA
 refine opG ga16 ga17 ?_;simp (maxSteps:=10^6)+contextual(disch:=try exact dqd)only[evg1,simprocAttr,Ca,Bm,Cb,ga18,ag,f7,i9,fy,j4,hs,Ge,xfs,puQ,tkQ];rw [hΦ];exact ⟨S,_,by simp only [Hz,Ay hz]; rfl,rfl,hT,fun j _=>rfl⟩):p:=h
namespace QQ
theorem Ak1:Aw11:=Ma11
end QQ
abbrev Aw12 (p:Prop:=by exact ∀ (S:List Ent)(tk:List Nat)(k iq eq:Nat)(I:TI)(t:Tb)(cc:Cap)(c:Nat)(hT:A9 S iq eq I t cc),∃ r,cL prog ua9 [.ref I.it I.et 0,.int c] S tk k=some r/\Atk S tk iq eq (Di qF t c) r):=p
theorem Ma12 {p:Prop} (h:p:=by
 intro S tk k iq eq I t cc c hT;obtain ⟨Φ,hΦ⟩:∃ Φ,Φ=Atk S tk iq eq (Di qF t c):=⟨_,rfl⟩;rw [<- hΦ];have ag:=hT.top;have hM:=hT.bigM;have hW:=hT.bigW;have dw:=hT.real;have bh:=hT.low;obtain ⟨y,hy⟩:∃ y,y=qF.whole 0:=⟨_,rfl⟩;obtain ⟨h,hh⟩:∃ h,h=dd I.ib I.eb 1 t.rows.length:=⟨_,rfl⟩;have hlen:lenV false true h=some (.int (t.rows.length:Nat)):=by
  rw [hh];cases t.rows.length with
  | zero=>rfl
  | succ n=>rfl
 rw [<- hh] at ag;have cl:=hT.fa.app (L:=[⟨k,zeroQ⟩]);have ii:=Me (S++[⟨k,zeroQ⟩]) tk (k+1) iq eq t.fl 0 aD cl;rw [<- hy,Hr hT.fa] at ii;have hl1:(flS S iq eq y.2).length=S.length:=Bp;have hE:=An (k:=k) (cs:=zeroQ) hl1;have wg:=An (k:=k) (cs:=ga0 y.1) hl1;have hP e e':=Da (e:=e) (e':=e') hl1;have we L:=Ki (L:=L) hl1;have htA:=Ad (L:=[⟨k,zeroQ⟩]) ag;refine opG ga19 ga20 ?_;simp (maxSteps:=10^6)+contextual(disch:=try exact dqd)only[evg1,simprocAttr,Ca,Bm,Cb,ga21,ag,htA,hlen];refine D8 (P:=prog) (fun x st=>st.T.length=44/\(t.rows=x.1++x.2)/\(La t.basis c 0 t.rows=La t.basis c x.1.length x.2)/\getT st.T 0=.ref I.it I.et 0/\getT st.T 1=.int (c:Nat)/\getT st.T 4=.ref S.length k 0/\getT st.T 10=h/\getT st.T 11=.int (t.rows.length:Nat)/\getT st.T 12=.int (x.1.length:Nat)/\st.S=S++[⟨k,zeroQ⟩]/\st.tk=tk/\st.n=k+1) (fun x=>x.2.length) (([]:List (List Q)),t.rows) ?_ ?_;case refine_2=>exact ⟨rfl,rfl,rfl,rfl,rfl,rfl,rfl,rfl,rfl,rfl,rfl,rfl⟩
 rintro ⟨P,U⟩ ⟨T,S',tk',n'⟩ ⟨hl,dn,hR,e0,e1,e4,e10,e11,e12,eS,eT,eN⟩ IH;simp only at dn hR e0 e1 e4 e10 e11 e12 eS eT eN;subst eS eT eN;obtain ⟨g,hg,hT⟩:=Ar hl;rw [hg] at e0 e1 e4 e10 e11 e12;subst hT;clear hg hl;have rt:t.rows.length=P.length+U.length:=dV
 by_cases bu:P.length<t.rows.length
 ·have c1:decide ((P.length:Int)<(t.rows.length:Int))=true:=bZ
  have dc:0<t.rows.length:=aA
  have cq:t.rows≠[]:=fun h0=>by rw [h0] at dc; simp at dc
  rw [Bs dc] at hh;subst hh;have dq:=hT.top;rw [Bs dc,Bs dc] at dq;obtain ⟨r0,U,rfl⟩:∃ r0 U',U=r0 :: U':=by
   exact Ya1e
  have vj:U.length<(r0 :: U).length:=by simp
  have hw2:Cd.wrap ((P.length:Int)+1)=(((P++[r0]).length:Nat):Int):=bP
  have j3:(P++[r0]).length=P.length+1:=by simp
  obtain ⟨bk,oe⟩:=Ac (show P.length<t.basis.length by rw [hT.nb]; exact bu);have ip:nth (O7 P.length (t.basis.map intA)) 0=some (.prim (.int .i64 (bk:Int))):=B9 (by rw [Af] at oe ⊢; rw [Et,oe]; rfl);have po:=Ad (L:=[⟨k,zeroQ⟩]) (hT.basisE cq);have htB:=Ad (L:=[⟨k,zeroQ⟩]) dq;by_cases hb:bk=c
  ·have c2:((bk:Int) == (c:Int))=true:=by simp [hb]
   obtain ⟨pk,fv⟩:=Ac (show P.length<I.ids.length by rw [hT.nids]; exact bu);have cg:nth (O7 P.length (I.ids.map (dm t.cost.length ua2))) 0=some (.sref pk.1 pk.2 0 t.cost.length ua2):=B9 (by rw [Af] at fv ⊢; rw [Et,fv]; rfl);have ie:nth t.rows P.length=some r0:=by rw [dn]; exact D9
   have dj:=hT.rowW r0 (Aj ie);have io:=Ad (L:=[⟨k,zeroQ⟩]) (hT.rowsE cq);have cn:=Ad (L:=[⟨k,zeroQ⟩]) (hT.rowE P.length pk r0 fv ie);obtain ⟨z,hz⟩:=Ac (show t.cost.length - 1<r0.length by omega);have i9:=Aq (ce:=ga0) ga1 hz;have fy:Cd.wrap ((t.cost.length:Int) - 1)=((t.cost.length - 1:Nat):Int):=aS
   have j4:t.cost.length - 1<t.cost.length:=aA
   have d8:Di qF t c=(z,false):=by
    unfold Di;rw [hR];unfold La;rw [Ay oe,if_pos hb];simp only [Bj,Ay ie,Ay hz]
   have ci:entAt (S++[⟨k,ga0 z⟩]) S.length k=some (ga0 z):=An rfl;have bo:∀ e e',put (S++[e]) S.length e'=S++[e']:=fun e e'=>Da rfl;simp (maxSteps:=10^6)+contextual(disch:=try exact dqd)only[evg1,simprocAttr,Ca,Bm,Cb,ga21,e0,e1,e4,e10,e11,e12,c1,c2,htB,po,ip,io,cg,cn,i9,fy,j4,bu,ci,bo,H4,Aqs,tkQ,ga1,ga5,ovQ,Fj];rw [hΦ,d8];exact ⟨_,rfl⟩
  ·have c2:((bk:Int) == (c:Int))=false:=aC
   simp (maxSteps:=10^6)+contextual(disch:=try exact dqd)only[evg1,simprocAttr,Ca,Bm,Cb,ga21,e0,e1,e4,e10,e11,e12,c1,c2,htB,po,ip,bu,hw2,Fj];exact IH (P++[r0],U) _ aF ⟨rfl,dV,by rw [hR,j3]; simp only [La]; rw [Ay oe,if_neg hb],aT⟩
 ·have c1:decide ((P.length:Int)<(t.rows.length:Int))=false:=bZ
  have s8:U=[]:=Cw.1 aA;subst s8;have d8:Di qF t c=y:=by unfold Di; rw [hR]; simp only [La]; exact hy.symm
  simp (maxSteps:=10^6)+contextual(disch:=try exact dqd)only[evg1,simprocAttr,Ca,Bm,Cb,ga21,e0,e1,e4,e10,e11,e12,c1,htA,ii,hE,wg,hP,we,Ge,xfs,puQ,Aqs,tkQ,ga1,ga5,ovQ];rw [hΦ,d8];exact ⟨_,rfl⟩):p:=h
namespace QQ
theorem Ake:Aw12:=Ma12
end QQ
end
end
section
open Go
set_option maxRecDepth 100000
namespace QQ
theorem E9 (n:Int) (hn:i64 n):qF.ok (qF.whole n).1:=Dp.whole n hn
end QQ
abbrev Aw13 (p:Prop:=by exact ∀ {S:List Ent}{iq eq:Nat}{I:TI}{t:Tb}{cc:Cap}{c:Nat}(hT:A9 S iq eq I t cc),qF.ok (Di qF t c).1):=p
theorem Ma13 {p:Prop} (h:p:=by
 intro hT;unfold Di;split
 ·rename_i i hi;have hlt:=(Aac hi).2.1;obtain ⟨r0,cq⟩:=Ac (show i<t.rows.length by omega);have dj:=hT.rowW r0 (Aj cq);have dw:=hT.real;obtain ⟨z,hz⟩:=Ac (show t.cost.length - 1<r0.length by omega);simp only [Bj,Ay cq,Ay hz];exact hT.okr r0 (Aj cq) z (Aj hz)
 ·exact E9 0 aD):p:=h
namespace QQ
theorem Akc:Aw13:=fun {S iq eq I t cc c}=>Ma13
end QQ
end
section
open Go Go.Proofs.Tryz
open Go.Proofs.Tryz renaming func119->ga22,ntmps119->ga23,results119->ga24,func118->ga25,ntmps118->ga26,results118->ga27
open Go.Proofs.YthelkgdmgihhiaaGreat renaming ceQ->ga0,A0->ga1,B2->ga5,A7->ga6
set_option maxRecDepth 100000
namespace QQ
abbrev ua10:Nat:=119
abbrev ua11:Nat:=3
abbrev ua12:Nat:=118
end QQ
set_option maxHeartbeats 8000000
set_option maxRecDepth 100000
namespace QQ
def L2 (l:List Q):List (List AV):=l.map fun q=>ceW (qF.rat q)
theorem Af7 (l:List Q):Db 4 (L2 l)=true:=Za1s
def Anx (S:List Ent) (iq eq:Nat) (I:TI) (t':Tb) (cc:Cap) (l:List Q) (r:Rs):Prop :=
 ∃ S' k' tk' c,r=(.frz (L2 l) c,S',tk',k')/\S'.length=S.length/\A9 S' iq eq I t' cc/\∀ j,OutQ I iq j->nth S' j=nth S j
end QQ
section
variable (S:List Ent) (tk:List Nat) (k iq eq:Nat)
abbrev Aw14 (p:Prop:=by exact ∀ (S:List Ent)(tk:List Nat)(k iq eq:Nat)(I:TI)(t:Tb)(cc:Cap)(ai:A9 S iq eq I t cc)(hv:2*t.vars<=t.real),∃ r,cL prog ua10 [.ref I.it I.et 0] S tk k=some r/\Anx S iq eq I { t with fl:=Ck t.fl (Gk qF t).2 } cc (Gk qF t).1 r):=p
theorem Ma14 {p:Prop} (h:p:=by
 intro S tk k iq eq I t cc ai hv;obtain ⟨Φ,hΦ⟩:∃ Φ,Φ=Anx S iq eq I { t with fl:=Ck t.fl (Gk qF t).2 } cc (Gk qF t).1:=⟨_,rfl⟩;rw [<- hΦ];have ag:=ai.top;have hW:=ai.bigW;have dw:=ai.real;simp only [intA] at ag;refine opG ga22 ga23 ?_;simp (maxSteps:=10^6)+contextual(disch:=try exact dqd)only[evg1,simprocAttr,Ca,Bm,Cb,ga24,ag];refine D8 (P:=prog) (fun x st=>st.T.length=40/\(x.2.2.2.2.1<=t.vars)/\(Gk qF t=(x.2.2.2.2.2.1++(E2 (ptF qF t) (t.vars - x.2.2.2.2.1) x.2.2.2.2.1).1,Ck x.2.2.2.2.2.2 (E2 (ptF qF t) (t.vars - x.2.2.2.2.1) x.2.2.2.2.1).2))/\(x.2.2.2.2.2.1.length=x.2.2.2.2.1)/\(Be x.2.2.1 x.2.2.2.1 4=true)/\(A9 x.1 iq eq I { t with fl:=Ck t.fl x.2.2.2.2.2.2 } cc)/\(x.1.length=S.length)/\(∀ v,OutQ I iq v->nth x.1 v=nth S v)/\getT st.T 0=.ref I.it I.et 0/\getT st.T 3=.frz (L2 x.2.2.2.2.2.1) x.2.2.2.1/\getT st.T 8=.int (t.vars:Nat)/\getT st.T 9=.int (x.2.2.2.2.1:Nat)/\st.S=x.1/\st.tk=x.2.2.1/\st.n=x.2.1) (fun x=>t.vars - x.2.2.2.2.1) (S,k,tk,Cap.nilc,0,([]:List Q),false) ?_ ?_;case refine_2=>exact ⟨rfl,Cl _,by simp [Gk],rfl,rfl,by simp only [Fy]; exact ai,rfl,fun j _=>rfl,rfl,rfl,rfl,rfl,rfl,rfl,rfl⟩
 rintro ⟨SS,n1,tk1,cp,j,out,fq⟩ ⟨T,S',tk',n'⟩ ⟨hl,hj,hR,qp,ab,hT,ed,au,e0,e3,e8,e9,eS,eT,eN⟩ IH;simp only at hj hR qp ab hT ed au e0 e3 e8 e9 eS eT eN;subst eS eT eN;obtain ⟨g,hg,hT⟩:=Ar hl;rw [hg] at e0 e3 e8 e9;subst hT;clear hg hl;have kh:Oe S.length S'=S':=Fc aA;by_cases z7:j<t.vars
 ·have c1:decide ((j:Int)<(t.vars:Int))=true:=gS
  have hw:Cd.wrap ((j:Int)+1)=((j+1:Nat):Int):=aQ
  have hwm:Cd.wrap (2*(j:Int))=((2*j:Nat):Int):=aQ
  have a1e:Cd.wrap (((2*j:Nat):Int)+1)=((2*j+1:Nat):Int):=aQ
  have dq:=hT.top;obtain ⟨a,ha⟩:∃ a,a=Di qF t (2*j):=⟨_,rfl⟩;obtain ⟨b,hb⟩:∃ b,b=Di qF t (2*j+1):=⟨_,rfl⟩;obtain ⟨d,hd⟩:∃ d,d=qF.minus a.1 b.1:=⟨_,rfl⟩;have oa:qF.ok a.1:=by rw [ha]; exact Akc ai
  have ob:qF.ok b.1:=by rw [hb]; exact Akc ai
  have od:qF.ok d.1:=by rw [hd]; exact Dp.minus _ _ oa ob
  obtain ⟨r,gc,k1,rfl⟩:=Ake S' tk' n' iq eq I _ cc (2*j) hT;have ea:Di qF { t with fl:=Ck t.fl fq } (2*j)=a:=ha.symm;rw [ea] at gc;have hg1:=Es (c:=a.2) hT.fa;have np:=hT.fa.fS (c:=a.2);obtain ⟨S1,ck⟩:∃ S1,S1=flS S' iq eq a.2:=⟨_,rfl⟩;have bc:=hT.flag (S':=flS S' iq eq a.2) (fun j hj=>ga6 hj) np;rw [<- ck] at gc hg1 np bc;obtain ⟨r,hcb,k2,rfl⟩:=Ake S1 tk' k1 iq eq I _ cc (2*j+1) bc;have eb:Di qF { t with fl:=Ck (Ck t.fl fq) a.2 } (2*j+1)=b:=hb.symm;rw [eb] at hcb;have hg2:=Es (c:=b.2) np;have c8:=np.fS (c:=b.2);obtain ⟨S2,bm⟩:∃ S2,S2=flS S1 iq eq b.2:=⟨_,rfl⟩;rw [<- bm] at hcb hg2 c8;have hm:=Nc S2 tk' k2 iq eq _ a.1 b.1 oa ob c8;rw [<- hd] at hm;have hg3:=Es (c:=d.2) c8;have d6:=c8.fS (c:=d.2);obtain ⟨S3,cz⟩:∃ S3,S3=flS S2 iq eq d.2:=⟨_,rfl⟩;rw [<- cz] at hm hg3 d6;have hr:=Vm S3 tk' (k2+ua4) iq eq _ d.1 od d6;have cj:∀ v,v≠iq->nth S3 v=nth S' v:=fun v hv=>by rw [cz,ga6 hv,bm,ga6 hv,ck,ga6 hv]
  have ei:S3.length=S'.length:=by rw [cz,Bp,bm,Bp,ck,Bp]
  have a3t:entAt S1 I.it I.et=_:=bc.top;have hpt:ptF qF t j=(d.1,Ck (Ck a.2 b.2) d.2):=by rw [hd,hb,ha]; rfl
  have md:E2 (ptF qF t) (t.vars - j) j=(d.1 :: (E2 (ptF qF t) (t.vars - (j+1)) (j+1)).1,Ck (Ck (Ck a.2 b.2) d.2) (E2 (ptF qF t) (t.vars - (j+1)) (j+1)).2):=by
   rw [show t.vars - j=(t.vars - (j+1))+1 by omega];simp only [E2,hpt]
  have i5:=Af7 out;have lw:(L2 out).length+1<=1048576:=Za4k
  have hle:L2 (out++[d.1])=L2 out++[ceW (qF.rat d.1)]:=by unfold L2; simp
  have bp:=apB_one (y:=ceW (qF.rat d.1)) ab i5 rfl lw;have dy:=Bi ab;have yt:Oe S'.length S3=S3:=Fc aA;simp (maxSteps:=10^6)+contextual(disch:=try exact dqd)only[evg1,simprocAttr,Ca,Bm,Cb,ga24,e0,e3,e8,e9,c1,hw,hwm,a1e,dq,gc,hcb,hm,hr,hg1,hg2,hg3,bp,yt,Ge,xfs,puQ,tkQ,Al,Av,D1,D2];have c9:=hT.flag (S':=S3) cj d6;exact IH (S3,k2+ua4+ua11,En tk' cp,Az tk' cp 4,j+1,out++[d.1],Ck fq (Ck (Ck a.2 b.2) d.2)) _ aF ⟨rfl,aE,by rw [hR,md]; simp only [Cy,Co,Cr,F8],by simp [qp],dy,by simpa only [F8] using c9,aE,fun v hv=>by rw [cj v hv.1]; exact au v hv,Za0a⟩
 ·have c1:decide ((j:Int)<(t.vars:Int))=false:=gS
  have lz:t.vars - j=0:=aA
  rw [lz] at hR;simp only [E2,Fo,Fy] at hR;simp (maxSteps:=10^6)+contextual(disch:=try exact dqd)only[evg1,simprocAttr,Ca,Bm,Cb,ga24,e0,e3,e8,e9,c1];rw [hΦ,hR,kh];exact ⟨S',n',tk',cp,rfl,ed,hT,au⟩):p:=h
namespace QQ
theorem Avi:Aw14:=Ma14
end QQ
abbrev Aw15 (p:Prop:=by exact ∀ (S:List Ent)(tk:List Nat)(k iq eq:Nat)(I:TI)(t:Tb)(cc:Cap)(ai:A9 S iq eq I t cc)(hv:t.real+t.rows.length<t.cost.length),∃ r,cL prog ua12 [.ref I.it I.et 0] S tk k=some r/\Anx S iq eq I { t with fl:=Ck t.fl (Jq qF t).2 } cc (Jq qF t).1 r):=p
theorem Ma15 {p:Prop} (h:p:=by
 intro S tk k iq eq I t cc ai hv;obtain ⟨Φ,hΦ⟩:∃ Φ,Φ=Anx S iq eq I { t with fl:=Ck t.fl (Jq qF t).2 } cc (Jq qF t).1:=⟨_,rfl⟩;rw [<- hΦ];have ag:=ai.top;have hW:=ai.bigW;have hM:=ai.bigM;have dw:=ai.real;have bh:=ai.low;obtain ⟨one,cu⟩:∃ one,one=qF.whole 1:=⟨_,rfl⟩;obtain ⟨z0,hz0⟩:∃ z0,z0=qF.whole 0:=⟨_,rfl⟩;have o1:qF.ok one.1:=by rw [cu]; exact E9 1 aD
 have o0:qF.ok z0.1:=by rw [hz0]; exact E9 0 aD
 have hw1:=Me S tk k iq eq t.fl 1 aD ai.fa;rw [<- cu] at hw1;have np:=ai.fa.fS (c:=one.2);obtain ⟨S1,ck⟩:∃ S1,S1=flS S iq eq one.2:=⟨_,rfl⟩;have bc:=ai.flag (S':=flS S iq eq one.2) (fun j hj=>ga6 hj) np;have hl1:(flS S iq eq one.2).length=S.length:=Bp;have ci:∀ v,v≠iq->nth (flS S iq eq one.2) v=nth S v:=fun v hv=>ga6 hv;rw [<- ck] at hw1 np bc hl1 ci;obtain ⟨h,hh⟩:∃ h,h=dd I.ir I.er 1 t.rows.length:=⟨_,rfl⟩;have hlen:lenV false true h=some (.int (t.rows.length:Nat)):=by
  rw [hh];cases t.rows.length with
  | zero=>rfl
  | succ n=>rfl
 rw [<- hh] at ag;have dq:entAt (S1++[⟨k+ua3,ga0 one.1⟩]) I.it I.et=_:=Ad bc.top;simp only at dq;rw [<- hh] at dq;refine opG ga25 ga26 ?_;simp (maxSteps:=10^6)+contextual(disch:=try exact dqd)only[evg1,simprocAttr,Ca,Bm,Cb,ga27,ag,hw1,dq,hlen,Ge,xfs,puQ,ga1,ga5,ovQ];rw [hl1];refine D8 (P:=prog) (fun x st=>st.T.length=71/\(x.2.2.2.2.1<=t.rows.length)/\(E2 (mulF qF t) t.rows.length 0=(x.2.2.2.2.2.1++(E2 (mulF qF t) (t.rows.length - x.2.2.2.2.1) x.2.2.2.2.1).1,Ck x.2.2.2.2.2.2 (E2 (mulF qF t) (t.rows.length - x.2.2.2.2.1) x.2.2.2.2.1).2))/\(x.2.2.2.2.2.1.length=x.2.2.2.2.1)/\(Be x.2.2.1 x.2.2.2.1 4=true)/\(A9 x.1 iq eq I { t with fl:=Ck (Ck t.fl one.2) x.2.2.2.2.2.2 } cc)/\(x.1.length=S.length+1)/\(∀ v,v<S.length->OutQ I iq v->nth x.1 v=nth S v)/\(entAt x.1 S.length (k+ua3)=some (ga0 one.1))/\getT st.T 0=.ref I.it I.et 0/\getT st.T 3=.frz (L2 x.2.2.2.2.2.1) x.2.2.2.1/\getT st.T 4=.ref S.length (k+ua3) 0/\getT st.T 16=.int (t.rows.length:Nat)/\getT st.T 17=.int (x.2.2.2.2.1:Nat)/\st.S=x.1/\st.tk=x.2.2.1/\st.n=x.2.1) (fun x=>t.rows.length - x.2.2.2.2.1) ((S1++[⟨k+ua3,ga0 one.1⟩]),(k+ua3+1),tk,Cap.nilc,0,([]:List Q),false) ?_ ?_;case refine_2=>exact ⟨rfl,Cl _,by simp,rfl,rfl,by simp only [Fy]; exact bc.app _,by simp [hl1],fun v hv ho=>by rw [Bh aA]; exact ci v ho.1,An hl1,rfl,rfl,rfl,rfl,rfl,rfl,rfl,rfl⟩
 rintro ⟨SS,n1,tk1,cp,j,out,fq⟩ ⟨T,S',tk',n'⟩ ⟨hl,hj,hR,qp,ab,hT,ed,au,yu,e0,e3,e4,e16,e17,eS,eT,eN⟩ IH;simp only at hj hR qp ab hT ed au yu e0 e3 e4 e16 e17 eS eT eN;subst eS eT eN;obtain ⟨g,hg,hT⟩:=Ar hl;rw [hg] at e0 e3 e4 e16 e17;subst hT;clear hg hl;by_cases hjm:j<t.rows.length
 ·have c1:decide ((j:Int)<(t.rows.length:Int))=true:=by simpa using hjm
  have hw:Cd.wrap ((j:Int)+1)=((j+1:Nat):Int):=aQ
  have xy:Cd.wrap ((t.real:Int)+(j:Int))=((t.real+j:Nat):Int):=aQ
  have hrc:t.real+j<t.cost.length:=aA
  have htj:=hT.top;simp only [intA] at htj;have f7:=hT.costE;obtain ⟨x,hx⟩:=Ac hrc;have ox:=ai.okc x (Aj hx);have fc:=Aq (ce:=ga0) ga1 hx;obtain ⟨y,hy⟩:∃ y,y=qF.minus x one.1:=⟨_,rfl⟩;have oy:qF.ok y.1:=by rw [hy]; exact Dp.minus _ _ ox o1
  have dk:=Nc S' tk' n' iq eq (Ck (Ck t.fl one.2) fq) x one.1 ox o1 hT.fa;rw [<- hy] at dk;have hg1:=Es (c:=y.2) hT.fa;have c8:=hT.fa.fS (c:=y.2);obtain ⟨S2,bm⟩:∃ S2,S2=flS S' iq eq y.2:=⟨_,rfl⟩;have ah:=hT.flag (S':=flS S' iq eq y.2) (fun j hj=>ga6 hj) c8;have hl2:(flS S' iq eq y.2).length=S'.length:=Bp;have bo:∀ v,v≠iq->nth (flS S' iq eq y.2) v=nth S' v:=fun v hv=>ga6 hv;have kg:nth S2 S.length=nth S' S.length:=Za6s
  rw [<- bm] at dk hg1 c8 ah hl2 bo;obtain ⟨n2,ta⟩:∃ n2,n2=n'+ua4:=⟨_,rfl⟩;rw [<- ta] at dk;have yv:entAt (S2++[⟨n2,ga0 y.1⟩]) S2.length n2=some (ga0 y.1):=Bk;obtain ⟨bf,hbf⟩:=Ac (show j<t.flip.length by rw [ai.nf]; exact hjm);have yw:nth (t.flip.map Dc) j=some [.prim (.bool bf)]:=by rw [Af] at hbf ⊢; rw [Et,hbf]; rfl
  have pu:=ah.app [⟨n2,ga0 y.1⟩];have jy:=pu.top;simp only [intA] at jy;have jr:∀ v,mulF qF t j=v->E2 (mulF qF t) (t.rows.length - j) j=(v.1 :: (E2 (mulF qF t) (t.rows.length - (j+1)) (j+1)).1,Ck v.2 (E2 (mulF qF t) (t.rows.length - (j+1)) (j+1)).2):=by
   intro v hv;rw [show t.rows.length - j=(t.rows.length - (j+1))+1 by omega];simp only [E2,hv]
  have i5:=Af7 out;have lw:(L2 out).length+1<=1048576:=Za4k
  have dy:=Bi ab;cases bf with
  | false =>
   have hme:mulF qF t j=y:=by
    unfold mulF;rw [Ay hx,Ay hbf,<- cu,<- hy]; rfl
   have hr:=Vm (S2++[⟨n2,ga0 y.1⟩]) tk' (n2+1) iq eq _ y.1 oy pu.fa;have bp:=apB_one (y:=ceW (qF.rat y.1)) ab i5 rfl lw;have me:Oe S'.length (S2++[⟨n2,ga0 y.1⟩])=S2:=by rw [<- hl2]; simp
   simp (maxSteps:=10^6)+contextual(disch:=try exact dqd)only[evg1,simprocAttr,Ca,Bm,Cb,ga27,e0,e3,e4,e16,e17,c1,hw,xy,htj,f7,fc,hrc,yu,dk,hg1,yv,jy,yw,hr,bp,me,Ge,xfs,puQ,tkQ,ga1,ga5,ovQ,Al,Av,D1,D2];exact IH (S2,n2+1+ua11,En tk' cp,Az tk' cp 4,j+1,out++[y.1],Ck fq y.2) _ aF ⟨rfl,aE,by rw [hR,jr y hme]; simp only [Cy,Co,Cr,F8],by simp [qp],dy,by simpa only [F8] using ah,aE,fun v hv ho=>by rw [bo v ho.1]; exact au v hv ho,by rw [Ab kg]; exact yu,Za0a⟩
  | true =>
   obtain ⟨d,hd⟩:∃ d,d=qF.minus z0.1 y.1:=⟨_,rfl⟩;have od:qF.ok d.1:=by rw [hd]; exact Dp.minus _ _ o0 oy
   have hme:mulF qF t j=(d.1,Ck y.2 (Ck z0.2 d.2)):=by
    unfold mulF;rw [Ay hx,Ay hbf,<- cu,<- hy,<- hz0,hd]; rfl
   have hwz:=Me (S2++[⟨n2,ga0 y.1⟩]) tk' (n2+1) iq eq _ 0 aD pu.fa;have hg2:=Es (c:=z0.2) pu.fa;rw [<- hz0] at hwz;rw [Hr c8] at hwz hg2;have d6:=c8.fS (c:=z0.2);obtain ⟨S3,cz⟩:∃ S3,S3=flS S2 iq eq z0.2:=⟨_,rfl⟩;have c9:=ah.flag (S':=flS S2 iq eq z0.2) (fun j hj=>ga6 hj) d6;have ei:(flS S2 iq eq z0.2).length=S2.length:=Bp;have cj:∀ v,v≠iq->nth (flS S2 iq eq z0.2) v=nth S2 v:=fun v hv=>ga6 hv;have mb:nth S3 S.length=nth S2 S.length:=by rw [cz]; first|rfl|exact A7 dK
   rw [<- cz] at hwz hg2 d6 c9 ei cj;have yx:=d6.app (L:=[⟨n2,ga0 y.1⟩]);have fi:=Nc (S3++[⟨n2,ga0 y.1⟩]) tk' (n2+1+ua3) iq eq _ z0.1 y.1 o0 oy yx;have hg3:=Es (c:=d.2) yx;rw [<- hd] at fi;rw [Hr d6] at fi hg3;have hf4:=d6.fS (c:=d.2);obtain ⟨S4,z8⟩:∃ S4,S4=flS S3 iq eq d.2:=⟨_,rfl⟩;have vk:=c9.flag (S':=flS S3 iq eq d.2) (fun j hj=>ga6 hj) hf4;have rz:(flS S3 iq eq d.2).length=S3.length:=Bp;have hn4:∀ v,v≠iq->nth (flS S3 iq eq d.2) v=nth S3 v:=fun v hv=>ga6 hv;have a1f:nth S4 S.length=nth S3 S.length:=by rw [z8]; first|rfl|exact A7 dK
   rw [<- z8] at fi hg3 hf4 vk rz hn4;have hE3:entAt (S3++[⟨n2,ga0 y.1⟩]) S2.length n2=some (ga0 y.1):=An ei;have pw:S4.length=S2.length:=aA
   have tf:entAt (S4++[⟨n2,ga0 y.1⟩]) S2.length n2=some (ga0 y.1):=An pw;have th:entAt (S4++[⟨n2,ga0 d.1⟩]) S2.length n2=some (ga0 d.1):=An pw;have hP4 e e':=Da (e:=e) (e':=e') pw;have yy:=vk.app [⟨n2,ga0 d.1⟩];have wh:=yy.top;simp only [intA] at wh;have hr:=Vm (S4++[⟨n2,ga0 d.1⟩]) tk' (n2+1+ua3+ua4) iq eq _ d.1 od yy.fa;have bp:=apB_one (y:=ceW (qF.rat d.1)) ab i5 rfl lw;have me:Oe S'.length (S4++[⟨n2,ga0 d.1⟩])=S4:=by rw [<- hl2,<- pw]; simp
   simp (maxSteps:=10^6)+contextual(disch:=try exact dqd)only[evg1,simprocAttr,Ca,Bm,Cb,ga27,e0,e3,e4,e16,e17,c1,hw,xy,htj,f7,fc,hrc,yu,dk,hg1,yv,jy,yw,hwz,hg2,hE3,fi,hg3,tf,hP4,th,wh,hr,bp,me,Ge,xfs,puQ,tkQ,ga1,ga5,ovQ,ovQ2,Al,Av,D1,D2];exact IH (S4,n2+1+ua3+ua4+ua11,En tk' cp,Az tk' cp 4,j+1,out++[d.1],Ck fq (Ck y.2 (Ck z0.2 d.2))) _ aF ⟨rfl,aE,by rw [hR,jr _ hme]; simp only [Cy,Co,Cr,F8],by simp [qp],dy,by simpa only [F8] using vk,aE,fun v hv ho=>by rw [hn4 v ho.1,cj v ho.1,bo v ho.1]; exact au v hv ho,by rw [Ab a1f,Ab mb,Ab kg]; exact yu,Za0a⟩
 ·have c1:decide ((j:Int)<(t.rows.length:Int))=false:=by simpa using hjm
  have lz:t.rows.length - j=0:=aA
  rw [lz] at hR;simp only [E2,Fo,Fy] at hR;have hmf:Jq qF t=(out,Ck one.2 fq):=by unfold Jq; rw [hR,<- cu]
  simp (maxSteps:=10^6)+contextual(disch:=try exact dqd)only[evg1,simprocAttr,Ca,Bm,Cb,ga27,e0,e3,e4,e16,e17,c1];rw [hΦ,hmf];have hT5:=hT.take (n:=S.length) (bh.of fun h=>h);exact ⟨_,n',tk',cp,rfl,dJ,by simpa only [F8] using hT5,fun v hv=>by
   by_cases jd:v<S.length
   ·rw [Gu jd]; exact au v jd hv
   ·rw [Af,Af,C5 dJ,C5 aA]⟩):p:=h
namespace QQ
theorem Abh:Aw15:=Ma15
end QQ
end
end
section
open Go Go.Proofs.Tryz
def R3 (i:Nat):List ByteArray->ByteArray->Int
 | [],_=>-1
 | x :: l,s=>if sEq x s then i else R3 (i+1) l s
theorem Ap2 (a b:ByteArray):sEq a b=sEq b a:=by
 unfold sEq; rw [Vn,beq_iff_eq,beq_iff_eq]; exact ⟨Eq.symm,Eq.symm⟩
section
variable (S:List Ent) (tk:List Nat) (k:Nat)
theorem Ab0 (l:List ByteArray) (s:ByteArray) (hlen:l.length<=1000000):cL prog 68 [.frz (l.map strC) .unk,.str s] S tk k=some (.int (R3 0 l s),S,tk,k):=by
 refine opP func68 ntmps68 (hp3:=rfl) ?_;simp (maxSteps:=10^6)+contextual(disch:=try exact dqd)only[ev1,simprocAttr,Ca,Bm,Cb,results68];refine loop1 (P:=prog) (fun x st=>st.T.length=19/\(x<=l.length)/\(R3 0 l s=R3 x (l.drop x) s)/\getT st.T 0=.frz (l.map strC) .unk/\getT st.T 1=.str s/\getT st.T 7=.int (l.length:Nat)/\getT st.T 8=.int (x:Nat)/\st.S=[]) (fun x=>l.length - x) (fun x=>.int (R3 0 l s)) (0) ?_ ?_;case refine_2=>exact ⟨rfl,Cl _,rfl,rfl,rfl,rfl,rfl,rfl⟩
 rintro i ⟨T,S',tk',n'⟩ ⟨hl,hi,hA,e0,e1,e7,e8,eS⟩ IH;subst eS;obtain ⟨g,hg,hT⟩:=Ar hl;rw [hg] at e0 e1 e7 e8;subst hT;clear hg hl;by_cases la:i<l.length
 ·have d1:decide ((i:Int)<(l.length:Int))=true:=aY
  obtain ⟨x,hx⟩:=Ac la;have hx':nth (l.map strC) i=some (strC x):=eP
  have hw:Cd.wrap ((i:Int)+1)=((i+1:Nat):Int):=aQ
  rw [Aw hx] at hA;simp only [R3] at hA;have hcm:=Ap2 s x;cases hq:sEq x s <;> rw [hq] at hA hcm
  ·simp (maxSteps:=10^6)+contextual(disch:=try exact dqd)only[ev1,simprocAttr,Ca,Bm,Cb,results68,e0,e1,e7,e8,d1,hx',hw,strC,hq,hcm];exact IH (i+1) _ aF ⟨rfl,aE,by simpa using hA,rfl,rfl,rfl,rfl,rfl⟩
  ·simp (maxSteps:=10^6)+contextual(disch:=try exact dqd)only[ev1,simprocAttr,Ca,Bm,Cb,results68,e0,e1,e7,e8,d1,hx',hw,strC,hq,hcm];simpa using hA.symm
 ·have d1:decide ((i:Int)<(l.length:Int))=false:=aY
  have he:i=l.length:=aA
  simp (maxSteps:=10^6)+contextual(disch:=try exact dqd)only[ev1,simprocAttr,Ca,Bm,Cb,results68,e0,e1,e7,e8,d1];rw [hA,he,Fi]; rfl
theorem W1 (l:List ByteArray) (s:ByteArray) (hlen:l.length<=1000000):cL prog 142 [.frz (l.map strC) .unk,.str s] S tk k=some (.int (R3 0 l s),S,tk,k):=by
 have h S tk k:=Ab0 S tk k l s hlen;refine opP func142 ntmps142 (hp3:=rfl) ?_;simp (maxSteps:=10^6)+contextual(disch:=try exact dqd)only[ev1,simprocAttr,Ca,Bm,Cb,results142,h]
end
theorem Uh:∀ {l:List ByteArray} {s:ByteArray} {i:Nat},s ∈ l->∃ j,j<l.length/\R3 i l s=((i+j:Nat):Int)/\nth l j=some s
 | [],_,_,h=>aO
 | x :: l,s,i,h=>by
  by_cases hx:sEq x s=true
  ·refine ⟨0,by simp,?_,?_⟩
   ·unfold R3; rw [if_pos hx]; rfl
   ·have:x=s:=by rw [Nf] at hx; simpa using hx
    rw [this]; rfl
  ·rcases C4.1 h with rfl|h
   ·exact absurd (by rw [Nf]; simp) hx
   ·obtain ⟨j,h1,h2,h3⟩:=Uh (i:=i+1) h;refine ⟨j+1,aW,?_,h3⟩;unfold R3; rw [if_neg hx,h2]; congr 1; omega
def idxV (vars:List ByteArray) (s:ByteArray):Nat:=(R3 0 vars s).toNat
theorem Pq {l:List ByteArray} {s:ByteArray} (h:s ∈ l):R3 0 l s=((idxV l s:Nat):Int)/\idxV l s<l.length:=by
 obtain ⟨j,h1,h2,h3⟩:=Uh (i:=0) h;unfold idxV;rw [h2];exact ⟨aA,aA⟩
def setC (F:Fld) (u z:Q) (ix:Nat) (row:List Q) (n:Int):List Q × Bool :=
 (put (put row (2*ix) (F.times u (F.whole n).1).1) (2*ix+1) (F.minus z (F.times u (F.whole n).1).1).1,((F.whole n).2 || (F.times u (F.whole n).1).2) || (F.minus z (F.times u (F.whole n).1).1).2)
def coefsC (F:Fld) (u z:Q) (vars:List ByteArray):List (ByteArray × Int)->List Q->List Q × Bool
 | [],row=>(row,false)
 | c :: cs,row=>((coefsC F u z vars cs (setC F u z (idxV vars c.1) row c.2).1).1,(setC F u z (idxV vars c.1) row c.2).2 || (coefsC F u z vars cs (setC F u z (idxV vars c.1) row c.2).1).2)
def J6 (F:Fld) (real W k:Nat) (c r:Q):Q × Bool:=if k<real\/k=W - 1 then F.minus c r else (c,false)
def costL (F:Fld) (real W:Nat):Nat->List Q->List Q->List Q × Bool
 | k,c :: cs,r :: rs=>((J6 F real W k c r).1 :: (costL F real W (k+1) cs rs).1,(J6 F real W k c r).2 || (costL F real W (k+1) cs rs).2)
 | _,cs,_=>(cs,false)
def Kk (F:Fld) (flip:Bool):Q × Bool:=if flip=true then ((F.whole (-1)).1,(F.whole 1).2 || (F.whole (-1)).2) else F.whole 1
def Uv (F:Fld) (u z:Q) (n:Int):Q × Bool:=((F.minus z (F.times u (F.whole n).1).1).1,((F.whole n).2 || (F.times u (F.whole n).1).2) || (F.minus z (F.times u (F.whole n).1).1).2)
def Qj (eq:Bool) (row:List Q) (slack:Nat) (u:Q):List Q:=if eq=true then row else put row slack u
def D7 (r:RowT):Bool:=decide (0<r.2.1)
def rowF (F:Fld) (z:Q) (vars:List ByteArray) (real W i slack:Nat) (r:RowT):List Q × Bool :=
 let u:=Kk F (D7 r)
 let a:=coefsC F u.1 z vars r.1 (Cg W z)
 let y:=Uv F u.1 z r.2.1
 (put (put (Qj r.2.2 a.1 slack u.1) (real+i) (F.whole 1).1) (W - 1) y.1,((u.2 || a.2) || (F.whole 1).2) || y.2)
def begS (F:Fld) (z:Q) (vars:List ByteArray) (real W:Nat):List RowT->Nat->Nat->Tb->Tb
 | [],_,_,t=>t
 | r :: l,i,slack,t =>
  let a:=rowF F z vars real W i slack r
  let c:=costL F real W 0 t.cost a.1
  begS F z vars real W l (i+1) (if r.2.2=true then slack else slack+1) { t with rows:=t.rows++[a.1],cost:=c.1,basis:=t.basis++[real+i],flip:=t.flip++[D7 r],fl:=(t.fl || a.2) || c.2 }
def neqs:List RowT->Nat
 | []=>0
 | r :: l=>(if r.2.2=true then 0 else 1)+neqs l
def B1 (F:Fld) (l:List RowT) (vars:List ByteArray) (fl:Bool):Tb :=
 let z:=F.whole 0
 let real:=2*vars.length+neqs l
 let W:=real+l.length+1
 begS F z.1 vars real W l 0 (2*vars.length) { vars:=vars.length,real:=real,rows:=[],cost:=Cg W z.1,basis:=[],flip:=[],fl:=fl || z.2 }
end
section
open Go
open Go.Proofs.YthelkgdmgihhiaaGreat renaming ceQ->ga0
set_option maxRecDepth 100000
abbrev Aw16 (p:Prop:=by exact ∀ {S S':List Ent}{iq eq:Nat}{I:TI}{t:Tb}{c c':Cap}{ir er ib eb id nr b:Nat}{f fl':Bool}{row:List Q}(h:A9 S iq eq I t c)(ag:entAt S' I.it I.et=some [.ifc ua0 (rcvQ iq eq),intA t.vars,intA t.real,.sref ir er 0 (t.rows.length+1) 1,.sref I.ic I.ec 0 t.cost.length ua2,.sref ib eb 0 (t.rows.length+1) 1,.frz ((t.flip++[f]).map Dc) c'])(jq:entAt S' ir er=some ((I.ids++[(id,nr)]).map (dm t.cost.length ua2)))(tj:entAt S' ib eb=some ((t.basis++[b]).map intA))(bl:entAt S' id nr=some (flat ga0 row))(i5:row.length=t.cost.length)(kx:okL qF row)(j0:∀ p ∈ I.ids,nth S' p.1=nth S p.1)(mf:nth S' I.ic=nth S I.ic)(eo:FAq S' iq eq fl')(bp:Apart ⟨I.it,I.et,ir,er,I.ic,I.ec,ib,eb,I.ids++[(id,nr)]⟩ iq)(hm:t.rows.length+1<=1000000)(hb:b<t.cost.length),A9 S' iq eq ⟨I.it,I.et,ir,er,I.ic,I.ec,ib,eb,I.ids++[(id,nr)]⟩ { t with rows:=t.rows++[row],basis:=t.basis++[b],flip:=t.flip++[f],fl:=fl' } c'):=p
theorem Ma16 {p:Prop} (h:p:=by
 intro h ag jq tj bl i5 kx j0 mf eo bp hm hb;have hlen:(t.rows++[row]).length=t.rows.length+1:=by simp
 refine ⟨?_,by simp [h.nids],fun _=>jq,fun i p r hp hr=>?_,fun r hr=>?_,?_,fun _=>tj,by simp [h.nb],by simp [h.nf],eo,bp,fun r hr=>?_,h.okc,h.bigW,by rw [hlen]; exact hm,h.real,fun x hx=>?_⟩
 ·rw [ag]; simp only [hlen,dd]
 ·rw [Af] at hp hr;by_cases hi:i<I.ids.length
  ·rw [Cv hi,<- Af] at hp;rw [Cv (by rw [<- h.nids]; exact hi),<- Af] at hr;rw [Ab (j0 p (Aj hp))];exact h.rowE i p r hp hr
  ·have vn:i=I.ids.length:=by
    have:=(F5.1 hp).1;simp at this; omega
   rw [vn,Fh (Ce _),Ob] at hp;rw [vn,h.nids,Fh (Ce _),Ob] at hr;simp only [Mf,Ba] at hp hr;subst hp; subst hr;exact bl
 ·rcases C3.1 hr with hr|hr
  ·exact h.rowW r hr
  ·simp only [F4] at hr; subst hr; exact i5
 ·rw [Ab mf]; exact h.costE
 ·rcases C3.1 hr with hr|hr
  ·exact h.okr r hr
  ·simp only [F4] at hr; subst hr; exact kx
 ·rcases C3.1 hx with hx|hx
  ·exact h.bB x hx
  ·simp only [F4] at hx; subst hx; exact hb):p:=h
namespace QQ
theorem A9.add:Aw16:=fun {S S' iq eq I t c c' ir er ib eb id nr b f fl' row}=>Ma16
structure Gz (S SS:List Ent) (iq eq:Nat) (I:TI) (t:Tb) (cp:Cap) (L nz n15 n16 n19:Nat) (z:Q) (r:RowT) (row:List Q) (u:Q):Prop where
 T:A9 SS iq eq I t cp
 low:LowQ I iq L t
 Z:entAt SS (S.length+1) nz=some (ceQ z)
 E15:entAt SS L n15=some (rowC r)
 E16:entAt SS (L+1) n16=some (flat ceQ row)
 E19:entAt SS (L+2) n19=some (ceQ u)
 len:SS.length=L+3
 fr:∀ j,j<S.length->j≠iq->nth SS j=nth S j
 qL:iq<S.length
 SL:S.length+3<=L
 ic:I.ic=S.length+2
end QQ
section
variable {S SS S':List Ent} {iq eq:Nat} {I:TI} {t:Tb} {cp:Cap} {L nz n15 n16 n19:Nat} {z u:Q} {r:RowT} {row:List Q}
abbrev Aw17 (p:Prop:=by exact ∀ {S SS S':List Ent}{iq eq:Nat}{I:TI}{t:Tb}{cp:Cap}{L nz n15 n16 n19:Nat}{z u:Q}{r:RowT}{row:List Q}{fl':Bool}(h:Gz S SS iq eq I t cp L nz n15 n16 n19 z r row u)(hS:∀ j,j≠iq->nth S' j=nth SS j)(hl:S'.length=SS.length)(hf:FAq S' iq eq fl'),Gz S S' iq eq I { t with fl:=fl' } cp L nz n15 n16 n19 z r row u):=p
theorem Ma17 {p:Prop} (h:p:=by
 intro h hS hl hf;have hq:=h.qL;have hL:=h.SL;exact ⟨h.T.flag hS hf,h.low.of fun h=>h,by rw [Ab (hS _ aA)]; exact h.Z,by rw [Ab (hS _ aA)]; exact h.E15,by rw [Ab (hS _ aA)]; exact h.E16,by rw [Ab (hS _ aA)]; exact h.E19,by rw [hl]; exact h.len,fun j h1 h2=>by rw [hS j h2]; exact h.fr j h1 h2,hq,hL,h.ic⟩):p:=h
namespace QQ
theorem Gz.flag:Aw17:=fun {S SS S' iq eq I t cp L nz n15 n16 n19 z u r row fl'}=>Ma17
end QQ
abbrev Aw18 (p:Prop:=by exact ∀ {S SS:List Ent}{iq eq:Nat}{I:TI}{t:Tb}{cp:Cap}{L nz n15 n16 n19:Nat}{z u:Q}{r:RowT}{row:List Q}(h:Gz S SS iq eq I t cp L nz n15 n16 n19 z r row u)(row':List Q),Gz S (put SS (L+1) ⟨n16,flat ga0 row'⟩) iq eq I t cp L nz n15 n16 n19 z r row' u):=p
theorem Ma18 {p:Prop} (h:p:=by
 intro h row';have hq:=h.qL;have hL:=h.SL;have hl:=h.len;have key:∀ j,j≠L+1->nth (Go.Proofs.YthelkgdmgihhiaaGreat.put SS (L+1) ⟨n16,flat ga0 row'⟩) j=nth SS j:=fun j hj=>Ae (Ix hj);have hT:=h.T.frame (S':=Go.Proofs.YthelkgdmgihhiaaGreat.put SS (L+1) ⟨n16,flat ga0 row'⟩) (fl':=t.fl) h.low (fun j h1 h2=>key j aA) (h.T.fa.put aA);exact ⟨hT,h.low,Za6v,Za6t,Ah aA,by rw [Ab (key _ aA)]; exact h.E19,by rw [Am]; exact hl,fun j h1 h2=>Za6q,hq,hL,h.ic⟩):p:=h
namespace QQ
theorem Gz.put:Aw18:=fun {S SS iq eq I t cp L nz n15 n16 n19 z u r row}=>Ma18
end QQ
abbrev Aw19 (p:Prop:=by exact ∀ {S SS:List Ent}{iq eq:Nat}{I:TI}{t:Tb}{cp:Cap}{L nz n15 n16 n19:Nat}{z u:Q}{r:RowT}{row:List Q}(h:Gz S SS iq eq I t cp L nz n15 n16 n19 z r row u)(u':Q),Gz S (Go.Proofs.YthelkgdmgihhiaaGreat.put SS (L+2) ⟨n19,ga0 u'⟩) iq eq I t cp L nz n15 n16 n19 z r row u'):=p
theorem Ma19 {p:Prop} (h:p:=by
 intro h u';have hq:=h.qL;have hL:=h.SL;have hl:=h.len;have key:∀ j,j≠L+2->nth (Go.Proofs.YthelkgdmgihhiaaGreat.put SS (L+2) ⟨n19,ga0 u'⟩) j=nth SS j:=fun j hj=>Ae (Ix hj);have hT:=h.T.frame (S':=Go.Proofs.YthelkgdmgihhiaaGreat.put SS (L+2) ⟨n19,ga0 u'⟩) (fl':=t.fl) h.low (fun j h1 h2=>key j aA) (h.T.fa.put aA);exact ⟨hT,h.low,Za6v,Za6t,by rw [Ab (key _ aA)]; exact h.E16,Ah aA,by rw [Am]; exact hl,fun j h1 h2=>Za6q,hq,hL,h.ic⟩):p:=h
namespace QQ
theorem Gz.unit:Aw19:=fun {S SS iq eq I t cp L nz n15 n16 n19 z u r row}=>Ma19
end QQ
abbrev Aw20 (p:Prop:=by exact ∀ {S SS:List Ent}{iq eq:Nat}{I:TI}{t:Tb}{cp:Cap}{L nz n15 n16 n19:Nat}{z u:Q}{r:RowT}{row:List Q}{k':List Q}(h:Gz S SS iq eq I t cp L nz n15 n16 n19 z r row u)(hk:k'.length=t.cost.length)(ho:okL qF k'),Gz S (Go.Proofs.YthelkgdmgihhiaaGreat.put SS I.ic ⟨I.ec,flat ga0 k'⟩) iq eq I { t with cost:=k' } cp L nz n15 n16 n19 z r row u):=p
theorem Ma20 {p:Prop} (h:p:=by
 intro h hk ho;have hq:=h.qL;have hL:=h.SL;have hl:=h.len;have hic:=h.ic;have key:∀ j,j≠I.ic->nth (Go.Proofs.YthelkgdmgihhiaaGreat.put SS I.ic ⟨I.ec,flat ga0 k'⟩) j=nth SS j:=fun j hj=>Ae (Ix hj);have hT:=h.T.setCost (S':=Go.Proofs.YthelkgdmgihhiaaGreat.put SS I.ic ⟨I.ec,flat ga0 k'⟩) (fl':=t.fl) hk ho (fun j h1 h2=>key j h1) (Ah aA) (h.T.fa.put aA);exact ⟨hT,h.low.of fun h=>h,Za6v,Za6t,by rw [Ab (key _ aA)]; exact h.E16,by rw [Ab (key _ aA)]; exact h.E19,by rw [Am]; exact hl,fun j h1 h2=>Za6q,hq,hL,h.ic⟩):p:=h
namespace QQ
theorem Gz.cost:Aw20:=fun {S SS iq eq I t cp L nz n15 n16 n19 z u r row k'}=>Ma20
end QQ
end
end
section
open Go
def Pj:Code->Nat
 | .seq a _=>Pj a
 | .region id _ _=>id
 | .block _ c=>Pj c
 | .loop c=>Pj c
 | .scope c=>Pj c
 | _=>0
def Lp (n:Nat):Code->List Nat->List Kont->Option (Code × List Kont)
 | .seq a b,lv,k=>match Lp n a lv (.seq b :: k) with|some r=>some r|none=>Lp n b lv k
 | .block id c,lv,k=>Lp n c lv (.block id :: k)
 | .scope c,lv,k=>Lp n c lv k
 | .cond _ a b,lv,k=>match Lp n a lv k with|some r=>some r|none=>Lp n b lv k
 | .loop c,lv,k=>if (Pj c == n)=true then some (.loop c,k) else match lv with
  | x :: lv=>Lp n c lv (.loop c x :: k)
  | []=>none
 | _,_,_=>none
def Alu (fn:Func) (n:Nat) (lv:List Nat):Option (Code × List Kont):=match fn.body with|some c=>Lp n c lv []|none=>none
section
variable [Globs] {P:Program} [Ext P] {fn:Func}
noncomputable def KA (P:Program) [Ext P] (fn:Func) (n:Nat) (lv:List Nat) (st:St):Option (AV × St):=match Alu fn n lv with|some (c,k)=>RK P fn c st k|none=>none
theorem Vz {n:Nat} {lv:List Nat} {c:Code} {k:List Kont} (h:Alu fn n lv=some (c,k)) {st:St} {fin:Option (AV × St)->Option Rs} {Φ:Rs->Prop} {t:Tag (c,k)} (hg:Gd fin Φ (KX P fn c st k t)):Gd fin Φ (KA P fn n lv st):=by unfold KA; rw [h]; exact hg
theorem Ls {n:Nat} {lv:List Nat} {c:Code} {k:List Kont} (h:Alu fn n lv=some (c,k)) {st:St} {fin:Option (AV × St)->Option Rs} {Φ:Rs->Prop} {t:Tag (c,k)} (hg:Gd fin Φ (KA P fn n lv st)):Gd fin Φ (KX P fn c st k t):=by unfold KA at hg; rw [h] at hg; exact hg
end
theorem Nr:∀ l:List RowT,neqs l<=l.length
 | []=>Ce _
 | r :: l=>by
  have:=Nr l;unfold neqs;split <;> simp only [Ci] <;> omega
theorem P4 {l:List RowT} {q:Nat} {r:RowT} (h:nth l q=some r):neqs (l.drop q)=(if r.2.2=true then 0 else 1)+neqs (l.drop (q+1)):=by
 rw [Aw h]; rfl
section
variable {P:Program} {t:TypeId} {x:AV} {S:List Ent} {n:Nat}
theorem P0 {a b c d e:Nat} : lit1 1 1 [(0,.sref a b c d e)]=some (.lit 1 [.sref a b c d e]):=rfl
theorem Ajs (h:apT P t=some 1) (hx:leafOk x=true):apO P t (.frz [] .nilc) (.lit 1 [x]) S n=some (.sref S.length n 0 1 1,S++[⟨n,[x]⟩],n+1):=by
 have hl:litC 1 (.lit 1 [x])=some (1,[x]):=by simp [litC,hx]
 exact Ya1n
theorem Ajr {c:Cap} (h:apT P t=some 1) (hx:leafOk x=true):apO P t (.frz [] .nilc) (.frz [[x]] c) S n=some (.sref S.length n 0 1 1,S++[⟨n,[x]⟩],n+1):=by
 have hl:litC 1 (.frz [[x]] c)=some (1,[x]):=by simp [litC,hx,Db]
 exact Ya1n
theorem Aep {id ep len:Nat} {cs:List AV} (h:apT P t=some 1) (hx:leafOk x=true) (hE:entAt S id ep=some cs) (hc:cs.length=len) (h0:0<len) (h1:len+1<=1048576):apO P t (.sref id ep 0 len 1) (.lit 1 [x]) S n=some (.sref id n 0 (len+1) 1,put S id ⟨n,cs++[x]⟩,n+1):=by
 have hl:litC 1 (.lit 1 [x])=some (1,[x]):=by simp [litC,hx]
 exact Ya1c
theorem Aeo {id ep len:Nat} {cs:List AV} {c:Cap} (h:apT P t=some 1) (hx:leafOk x=true) (hE:entAt S id ep=some cs) (hc:cs.length=len) (h0:0<len) (h1:len+1<=1048576):apO P t (.sref id ep 0 len 1) (.frz [[x]] c) S n=some (.sref id n 0 (len+1) 1,put S id ⟨n,cs++[x]⟩,n+1):=by
 have hl:litC 1 (.frz [[x]] c)=some (1,[x]):=by simp [litC,hx,Db]
 exact Ya1c
end
structure BegC (S:List Ent) (l:List RowT) (vars:List ByteArray) (iq c W:Nat):Prop where
 hl:l.length<=1000
 li:vars.length<=1000
 hv:∀ r ∈ l,∀ c ∈ r.1,c.1 ∈ vars
 hc:∀ r ∈ l,i64 r.2.1/\∀ c ∈ r.1,i64 c.2
 fw:fewC l
 o5:iq<S.length
 vp:c=2*vars.length+neqs l
 px:W=c+l.length+1
namespace QQ
def Ais (S:List Ent) (l:List RowT) (vars:List ByteArray) (fl:Bool) (k iq eq c W nz:Nat) (z:Q) (i:Nat) (st:St):Prop :=
 ∃ sl t1 I cp,i<=l.length/\B1 qF l vars fl=begS qF z vars c W (l.drop i) i sl t1/\A9 st.S iq eq I t1 cp/\t1.rows.length=i/\t1.cost.length=W/\t1.real=c/\t1.vars=vars.length/\sl+neqs (l.drop i)=c/\Be st.tk cp 1=true/\entAt st.S (S.length+1) nz=some (ceQ z)/\S.length+3<=st.S.length/\(∀ j,j<S.length->j≠iq->nth st.S j=nth S j)/\(I.it=S.length/\I.et=k/\I.ic=S.length+2)/\(S.length+2<I.ir/\S.length+2<I.ib/\∀ p ∈ I.ids,S.length+2<p.1) /\
  st.T.length=270/\getT st.T 0=.ifc 118 (rcvQ iq eq)/\getT st.T 1=.frz (l.map rowC) .unk/\getT st.T 2=.frz (vars.map strC) .unk/\getT st.T 7=.ref S.length k 0/\getT st.T 10=.int (sl:Nat)/\getT st.T 11=.int (W:Nat)/\getT st.T 12=.ref (S.length+1) nz 0/\getT st.T 83=.frz (l.map rowC) .unk/\getT st.T 84=.int (l.length:Nat)/\getT st.T 85=.int (i:Nat)
end QQ
end
end Go.Proofs.YthelkgdmgihhiaaGreat
