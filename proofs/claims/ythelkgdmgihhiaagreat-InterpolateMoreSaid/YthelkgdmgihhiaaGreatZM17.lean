/- Part 17. -/
import Derived.Test.YthelkgdmgihhiaaGreatZM16
open Bool renaming or->Cj,or_false->Fk,or_assoc->Fx,false_ne_true->K2,false_or->Mf,eq_iff_iff->X7
open Go.IntKind renaming i64->Ce
open Go.Proofs.YthelkgdmgihhiaaGreat.AV renaming bool->Ca,int->Cg,str->Ch
open List renaming replicate->Cd,length_cons->Ck,map_cons->Cm,length_append->Cn,cons_append->Co,getElem?_append_left->Cp,mem_append->Cr,nil_append->Ct,map_nil->Cw,mem_cons->Cy,length_nil->C3,length_eq_zero_iff->C5,append_assoc->C7,getElem?_append_right->C8,getElem?_eq_none->E9,take_of_length_le->Fa,drop_length->Fh,mem_singleton->Fj,getElem?_eq_some_iff->Fq,map_append->Ft,append_nil->Fu,getElem?_map->Fw,length_map->Ib,mem_of_getElem?->Il,getElem?_cons_zero->Iv,length_take->Iy,length_pos_iff->I5,take->Lv,singleton_append->Sk,drop->iK
open Nat renaming le_refl->Cb,zero_le->Cs,zero_add->Fo,mul_one->Ia,add_zero->I1,sub_self->I3
open Ne renaming symm->Od
open Option.some renaming injEq->A0
open Prod.mk renaming injEq->Cc
namespace Go.Proofs.YthelkgdmgihhiaaGreat
section
open Go Tryz
open Go.Proofs.Tryz renaming func147->ga2,ntmps147->ga3,results147->ga4
open Go.Proofs.YthelkgdmgihhiaaGreat renaming ceQ->ga0,Ap->ga1,Bs->ga5,Ay->ga6
set_option maxRecDepth 100000
namespace QQ
abbrev ua0:Nat:=118
abbrev ua1:Nat:=147
abbrev ua2:Nat:=2
abbrev ua3:Nat:=1
abbrev ua4:Nat:=4
end QQ
set_option maxHeartbeats 4000000
set_option maxRecDepth 100000
namespace QQ
def Alr (S:List Ent) (tk:List Nat) (ia ea iq eq:Nat) (l:List Q) (fl:Bool) (r:Rs):Prop :=
 ∃ S' k',r=(.tup [],S',tk,k')/\S'.length=S.length/\entAt S' ia ea=some (flat ceQ l)/\FAq S' iq eq fl/\∀ j,j≠ia->j≠iq->nth S' j=nth S j
end QQ
section
variable (S:List Ent) (tk:List Nat) (k iq eq:Nat) (fl:Bool)
abbrev Ar0 (p:Prop:=by exact ∀ (S:List Ent)(tk:List Nat)(k iq eq:Nat)(fl:Bool)(it et ia ea ij ej W c:Nat)(rest:List AV)(a row:List Q)(ht:entAt S it et=some (.ifc ua0 (rcvQ iq eq) :: rest))(hq:FAq S iq eq fl)(ha:entAt S ia ea=some (flat ga0 a))(hr:entAt S ij ej=some (flat ga0 row))(la:a.length=W)(lr:row.length=W)(hc:c<W)(hWb:W<=1000000)(oa:okL qF a)(orr:okL qF row)(ne1:ia≠ij)(ne2:ia≠it)(ne3:ia≠iq)(ne4:iq≠it)(ne5:iq≠ij),∃ r,cL prog ua1 [.ref it et 0,.sref ia ea 0 W ua2,.sref ij ej 0 W ua2,.int c] S tk k=some r/\Alr S tk ia ea iq eq (lessT qF a row c).1 (fl || (lessT qF a row c).2) r):=p
theorem Ma0 {p:Prop} (h:p:=by
 intro S tk k iq eq fl it et ia ea ij ej W c rest a row ht hq ha hr la lr hc hWb oa orr ne1 ne2 ne3 ne4 ne5;obtain ⟨Φ,hΦ⟩:∃ Φ,Φ=Alr S tk ia ea iq eq (lessT qF a row c).1 (fl || (lessT qF a row c).2):=⟨_,rfl⟩;rw [<- hΦ];obtain ⟨b,hb⟩:=Ah (show c<a.length by omega);have ob:qF.ok b:=oa b (by rw [Ae] at hb; exact Il hb);have xh:=Aq ga1 hb;have hlt:lessT qF a row c=if sgn b=0 then (a,false) else lessL qF b a row:=by unfold lessT; rw [hb]
 have hs:=Aak S tk k iq eq fl b ob hq;refine opG ga2 ga3 ?_;by_cases h0:sgn b=0
 ·have d1:(sgn b == 0)=true:=aS
  simp (maxSteps:=10^6)+contextual(disch:=try exact dqd)only[evg1,simprocAttr,Cg,Ca,Ch,ga4,ht,ha,hc,xh,hs,d1,Ek,xfs,puQ];rw [hlt,if_pos h0] at hΦ;rw [hΦ];exact ⟨S,_,rfl,rfl,ha,by rw [Fk]; exact hq,fun j _ _=>rfl⟩
 have d1:(sgn b == 0)=false:=aS
 rw [hlt,if_neg h0] at hΦ;simp (maxSteps:=10^6)+contextual(disch:=try exact dqd)only[evg1,simprocAttr,Cg,Ca,Ch,ga4,ht,ha,hc,xh,hs,d1,Ek,xfs,puQ,ga1,ga5,ovQ];refine Eu (P:=prog) (fun x st=>st.T.length=70/\(lessL qF b a row=(x.2.2.1++(lessL qF b x.2.2.2.1 x.2.2.2.2.1).1,x.2.2.2.2.2 || (lessL qF b x.2.2.2.1 x.2.2.2.2.1).2))/\(x.2.2.1.length+x.2.2.2.1.length=W)/\(x.2.2.2.1.length=x.2.2.2.2.1.length)/\(∃ pr,row=pr++x.2.2.2.2.1/\pr.length=x.2.2.1.length)/\(x.1.length=S.length)/\(entAt x.1 ia ea=some (flat ga0 (x.2.2.1++x.2.2.2.1)))/\(FAq x.1 iq eq (fl || x.2.2.2.2.2))/\(∀ j,j≠ia->j≠iq->nth x.1 j=nth S j)/\(okL qF x.2.2.2.1)/\(okL qF x.2.2.2.2.1)/\getT st.T 0=.ref it et 0/\getT st.T 1=.sref ia ea 0 W ua2/\getT st.T 2=.sref ij ej 0 W ua2/\getT st.T 8=.ref S.length (k+ua3) 0/\getT st.T 27=.int (W:Nat)/\getT st.T 28=.int (x.2.2.1.length:Nat)/\st.S=x.1++[⟨k+ua3,ga0 b⟩]/\st.tk=tk/\st.n=x.2.1) (fun x=>x.2.2.2.2.1.length) (S,(k+ua3+1),([]:List Q),a,row,false) ?_ ?_;case refine_2=>exact ⟨rfl,by simp,bP,la.trans lr.symm,⟨[],rfl,rfl⟩,rfl,ha,by rw [Fk]; exact hq,fun j _ _=>rfl,oa,orr,rfl,rfl,rfl,rfl,rfl,rfl,rfl,rfl,rfl⟩
 rintro ⟨S1,n1,p,u,rs,fp⟩ ⟨T,S',tk',n'⟩ ⟨hl,hR,hW,hu,bz,de,he,hf,hj,ou,ors,e0,e1,e2,e8,e27,e28,eS,eT,eN⟩ IH;simp only at hR hW hu bz de he hf hj ou ors e0 e1 e2 e8 e27 e28 eS eT eN;subst eS eT eN;obtain ⟨g,hg,hT⟩:=Aw hl;rw [hg] at e0 e1 e2 e8 e27 e28;subst hT;clear hg hl;by_cases c9:p.length<W
 ·have c1:decide ((p.length:Int)<(W:Int))=true:=cY
  obtain ⟨a0,u,rfl⟩:∃ a0 u',u=a0 :: u':=by
   cases u with
   | nil=>simp at hW; omega
   | cons x u=>exact ⟨x,u,rfl⟩
  obtain ⟨r0,rs,rfl⟩:∃ r0 rs',rs=r0 :: rs':=by
   cases rs with
   | nil=>simp at hu
   | cons x u=>exact ⟨x,u,rfl⟩
  obtain ⟨pr,j6,o5⟩:=bz;have oa0:=ou a0 (by simp);have or0:=ors r0 (by simp);have vf:nth row p.length=some r0:=by rw [j6,<- o5]; exact D8
  have b9:=Aq ga1 vf;have se:=Aq (ce:=ga0) ga1 (D8 (p:=p) (u:=u) (x:=a0));obtain ⟨E,hE⟩:∃ E:Ent,E=⟨k+ua3,ga0 b⟩:=⟨_,rfl⟩;have hbT:entAt (S1++[E]) S.length (k+ua3)=some (ga0 b):=by rw [hE]; exact Al de
  rw [<- hE];have cr:entAt S1 it et=some (.ifc ua0 (rcvQ iq eq) :: rest):=by rw [Aa (hj it ne2.symm ne4.symm)]; exact ht
  have bo:entAt S1 ij ej=some (flat ga0 row):=by rw [Aa (hj ij ne1.symm ne5.symm)]; exact hr
  have htT:entAt (S1++[E]) it et=some (.ifc ua0 (rcvQ iq eq) :: rest):=Ab cr;have hrT:entAt (S1++[E]) ij ej=some (flat ga0 row):=Ab bo;have heT:entAt (S1++[E]) ia ea=some (flat ga0 (p++a0 :: u)):=Ab he;have hfT:=hf.app (L:=[E]);have fh:=Aak (S1++[E]) tk' n' iq eq (fl || fp) r0 or0 hfT;have bj:=A5 he;have vg:rs.length<(r0 :: rs).length:=by simp
  have hw:Ce.wrap ((p.length:Int)+1)=(((p++[a0]).length:Nat):Int):=bR
  by_cases hz:sgn r0=0
  ·have c2:(sgn r0 != 0)=false:=cG
   simp (maxSteps:=10^6)+contextual(disch:=try exact dqd)only[evg1,simprocAttr,Cg,Ca,Ch,ga4,e0,e1,e2,e8,e27,e28,c1,c2,hw,htT,hrT,b9,c9,fh,Ek,xfs,puQ];have ah:Jg qF b a0 r0=(a0,false):=by unfold Jg; rw [if_pos hz]
   exact IH (S1,n'+ua3,p++[a0],u,rs,fp) _ aF ⟨rfl,by rw [hR]; simp only [lessL,ah,C7,Co,Ct,Mf],by show (p++[a0]).length+u.length=W; simp only [Cn,Ck,C3] at hW ⊢; omega,dM,⟨pr++[r0],by rw [j6]; simp,by simp [o5]⟩,de,eY,hf,hj,fun q hq=>ou q bV,fun q hq=>ors q bV,bJ,bJ,bJ,bJ,bJ,bJ,by simp only [hE],rfl,rfl⟩
  ·have c2:(sgn r0 != 0)=true:=cG
   obtain ⟨x,hx⟩:∃ x,x=qF.times b r0:=⟨_,rfl⟩;obtain ⟨y,hy⟩:∃ y,y=qF.minus a0 x.1:=⟨_,rfl⟩;have p7:Ce.wrap ((p.length:Int)+1)=(((p++[y.1]).length:Nat):Int):=bR
   have ox:qF.ok x.1:=by rw [hx]; exact Da.times _ _ ob or0
   have oy:qF.ok y.1:=by rw [hy]; exact Da.minus _ _ oa0 ox
   have cq:=Aco (S1++[E]) tk' (n'+ua3) iq eq (fl || fp) b r0 ob or0 hfT;have hg1:=D9 (c:=x.2) hfT;rw [<- hx] at cq;rw [G3 hf] at cq hg1;obtain ⟨S2,bh⟩:∃ S2,S2=flS S1 iq eq x.2:=⟨_,rfl⟩;rw [<- bh] at cq hg1;have bv:FAq S2 iq eq ((fl || fp) || x.2):=by rw [bh]; exact hf.fS
   have ew:=Lu (S2++[E]) tk' (n'+ua3+ua4) iq eq ((fl || fp) || x.2) a0 x.1 oa0 ox (bv.app (L:=[E]));have hg2:=D9 (c:=y.2) (bv.app (L:=[E]));rw [<- hy] at ew;rw [G3 bv] at ew hg2;obtain ⟨S3,cz⟩:∃ S3,S3=flS S2 iq eq y.2:=⟨_,rfl⟩;rw [<- cz] at ew hg2;have dm:FAq S3 iq eq (((fl || fp) || x.2) || y.2):=by rw [cz]; exact bv.fS
   have ef:S3.length=S.length:=by rw [cz,Be,bh,Be,de]
   have cd:∀ j,j≠iq->nth S3 j=nth S1 j:=fun j hj=>by rw [cz,ga6 hj,bh,ga6 hj]
   have oe:entAt S3 ia ea=some (flat ga0 (p++a0 :: u)):=by rw [Aa (cd ia ne3)]; exact he
   have a0d:entAt (S3++[E]) ia ea=some (flat ga0 (p++a0 :: u)):=Ab oe;have ho:=A9 (ce:=ga0) ga1 (l:=p++a0 :: u) (k:=p.length) (q':=y.1) (by simp);rw [Gh] at ho;have hp3 x:=Dj (L:=[E]) (x:=x) (A5 oe);have jx:∀ x,Lv (S1++[E]).length (put S3 ia x++[E])=put S3 ia x++[E]:=fun x=>Fa (by simp [Am,ef,de]);simp (maxSteps:=10^6)+contextual(disch:=try exact dqd)only[evg1,simprocAttr,Cg,Ca,Ch,ga4,e0,e1,e2,e8,e27,e28,c1,c2,jx,p7,htT,hrT,heT,hbT,b9,se,c9,fh,cq,ew,hg1,hg2,a0d,ho,hp3,Ek,xfs,puQ,ga1,ga5,tkQ];have ah:Jg qF b a0 r0=(y.1,x.2 || y.2):=by unfold Jg; rw [if_neg hz,hy,hx]
   exact IH (put S3 ia ⟨ea,flat ga0 (p++y.1 :: u)⟩,n'+ua3+ua4+ua4,p++[y.1],u,rs,Cj fp (Cj x.2 y.2)) _ aF ⟨rfl,by rw [hR]; simp only [lessL,ah,C7,Co,Ct,Fx],by show (p++[y.1]).length+u.length=W; simp only [Cn,Ck,C3] at hW ⊢; omega,dM,⟨pr++[r0],by rw [j6]; simp,by simp [o5]⟩,Am.trans ef,by rw [Ag (A5 oe)]; simp,by have:=dm.put (x:=⟨ea,flat ga0 (p++y.1 :: u)⟩) ne3; simpa only [Fx] using this,fun j h1 h2=>by rw [Ad (Od h1),cd j h2]; exact hj j h1 h2,fun q hq=>ou q bV,fun q hq=>ors q bV,bJ,bJ,bJ,bJ,bJ,bJ,by simp only [hE],rfl,rfl⟩
 ·have c1:decide ((p.length:Int)<(W:Int))=false:=cY
  have xn:u=[]:=C5.1 aA;subst xn;simp (maxSteps:=10^6)+contextual(disch:=try exact dqd)only[evg1,simprocAttr,Cg,Ca,Ch,ga4,e0,e1,e2,e8,e27,e28,c1];rw [hΦ,Jh de];simp only [lessL] at hR;rw [hR];exact ⟨S1,n',rfl,de,he,by rw [Fk]; exact hf,hj⟩):p:=h
namespace QQ
theorem Ap4:Ar0:=Ma0
end QQ
end
end
section
open Go
open Go.Proofs.YthelkgdmgihhiaaGreat renaming ceQ->ga0
set_option maxRecDepth 100000
namespace QQ
structure Az (S:List Ent) (iq eq:Nat) (I:TI) (t:Tb) (c:Cap):Prop where
 top:entAt S I.it I.et=some [.ifc 118 (rcvQ iq eq),intA t.vars,intA t.real,cw I.ir I.er 1 t.rows.length,.sref I.ic I.ec 0 t.cost.length 2,cw I.ib I.eb 1 t.rows.length,.frz (t.flip.map Dn) c]
 nids:I.ids.length=t.rows.length
 rowsE:t.rows≠[]->entAt S I.ir I.er=some (I.ids.map (f7 t.cost.length 2))
 rowE:∀ i p r,nth I.ids i=some p->nth t.rows i=some r->entAt S p.1 p.2=some (flat ceQ r)
 rowW:∀ r ∈ t.rows,r.length=t.cost.length
 costE:entAt S I.ic I.ec=some (flat ceQ t.cost)
 basisE:t.rows≠[]->entAt S I.ib I.eb=some (t.basis.map intA)
 nb:t.basis.length=t.rows.length
 nf:t.flip.length=t.rows.length
 fa:FAq S iq eq t.fl
 ap:Apart I iq
 okr:∀ r ∈ t.rows,okL qF r
 okc:okL qF t.cost
 bigW:t.cost.length<=1000000
 bigM:t.rows.length<=1000000
 real:t.real<t.cost.length
 bB:∀ b ∈ t.basis,b<t.cost.length
end QQ
section
variable {S S':List Ent} {iq eq:Nat} {I:TI} {t:Tb} {c:Cap}
abbrev Ar1 (p:Prop:=by exact ∀ {S S':List Ent}{iq eq:Nat}{I:TI}{t:Tb}{c:Cap}(h:Az S iq eq I t c){i:Nat}{p:Nat × Nat}{r0 r':List Q}{fl':Bool}(hp:nth I.ids i=some p)(hr:nth t.rows i=some r0)(hl:r'.length=t.cost.length)(ho:okL qF r')(hS:∀ j,j≠p.1->j≠iq->nth S' j=nth S j)(he:entAt S' p.1 p.2=some (flat ga0 r'))(hf:FAq S' iq eq fl'),Az S' iq eq I { t with rows:=put t.rows i r',fl:=fl' } c):=p
theorem Ma1 {p:Prop} (h:p:=by
 intro h i p r0 r' fl' hp hr hl ho hS he hf;have bj:i<t.rows.length:=Bb hr;have jj:=h.ap.row p (Aj hp);have key:∀ j e,j≠p.1->j≠iq->entAt S' j e=entAt S j e:=fun j e h1 h2=>Aa (hS j h1 h2);have hne:put t.rows i r'≠[]->t.rows≠[]:=fun hn h0=>hn (Ah5.2 h0);refine ⟨?_,by rw [Ai]; exact h.nids,fun hn=>?_,fun j q r hq ab=>?_,fun r ab=>?_,?_,fun hn=>?_,Za4h,by rw [Ai]; exact h.nf,hf,h.ap,fun r ab=>?_,h.okc,h.bigW,by rw [Ai]; exact h.bigM,h.real,h.bB⟩
 ·rw [key _ _ jj.1.symm h.ap.qt.symm,Ai]; exact h.top
 ·rw [key _ _ jj.2.1.symm h.ap.qr.symm]; exact h.rowsE (hne hn)
 ·rw [Kl bj] at ab;by_cases e:j=i
  ·exact Ya10
  ·rw [if_neg e] at ab;have hq2:=h.ap.row q (Aj hq);rw [key _ _ (h.ap.rows j i q p hq hp e) hq2.2.2.2.2];exact Ya1u
 ·exact Ya19
 ·rw [key _ _ jj.2.2.1.symm h.ap.qc.symm]; exact h.costE
 ·rw [key _ _ jj.2.2.2.1.symm h.ap.qb.symm]; exact h.basisE (hne hn)
 ·rcases Bo ab with rfl|ab
  ·exact ho
  ·exact h.okr r ab):p:=h
namespace QQ
theorem Az.row:Ar1:=fun {S S' iq eq I t c}=>Ma1
end QQ
abbrev Ar2 (p:Prop:=by exact ∀ {S S':List Ent}{iq eq:Nat}{I:TI}{t:Tb}{c:Cap}(h:Az S iq eq I t c){k':List Q}{fl':Bool}(hl:k'.length=t.cost.length)(ho:okL qF k')(hS:∀ j,j≠I.ic->j≠iq->nth S' j=nth S j)(he:entAt S' I.ic I.ec=some (flat ga0 k'))(hf:FAq S' iq eq fl'),Az S' iq eq I { t with cost:=k',fl:=fl' } c):=p
theorem Ma2 {p:Prop} (h:p:=by
 intro h k' fl' hl ho hS he hf;have key:∀ j e,j≠I.ic->j≠iq->entAt S' j e=entAt S j e:=fun j e h1 h2=>Aa (hS j h1 h2);refine ⟨?_,h.nids,fun hn=>?_,fun j q r hq ab=>?_,fun r ab=>by rw [hl]; exact h.rowW r ab,he,fun hn=>?_,h.nb,h.nf,hf,h.ap,h.okr,ho,by rw [hl]; exact h.bigW,h.bigM,by rw [hl]; exact h.real,fun b hb=>by rw [hl]; exact h.bB b hb⟩
 ·rw [key _ _ h.ap.tc h.ap.qt.symm,hl]; exact h.top
 ·rw [key _ _ h.ap.rc h.ap.qr.symm,hl]; exact h.rowsE hn
 ·have hq2:=h.ap.row q (Aj hq);rw [key _ _ hq2.2.2.1 hq2.2.2.2.2];exact Ya1u
 ·rw [key _ _ h.ap.cb.symm h.ap.qb.symm]; exact h.basisE hn):p:=h
namespace QQ
theorem Az.setCost:Ar2:=fun {S S' iq eq I t c}=>Ma2
end QQ
abbrev Ar3 (p:Prop:=by exact ∀ {S:List Ent}{iq eq:Nat}{I:TI}{t:Tb}{c:Cap}(h:Az S iq eq I t c){i b:Nat}(j0:t.rows≠[])(hb:b<t.cost.length),Az (put S I.ib ⟨I.eb,(put t.basis i b).map intA⟩) iq eq I { t with basis:=put t.basis i b } c):=p
theorem Ma3 {p:Prop} (h:p:=by
 intro h i b j0 hb;have bj:=A5 (h.basisE j0);have key:∀ j e,j≠I.ib->entAt (put S I.ib ⟨I.eb,(put t.basis i b).map intA⟩) j e=entAt S j e:=fun j e h1=>Af (Od h1);refine ⟨?_,h.nids,fun hn=>?_,fun j q r hq ab=>?_,h.rowW,?_,fun hn=>Ag bj,Za4h,h.nf,h.fa.put h.ap.qb.symm,h.ap,h.okr,h.okc,h.bigW,h.bigM,h.real,fun x hx=>?_⟩
 ·rw [key _ _ h.ap.tb]; exact h.top
 ·rw [key _ _ h.ap.rb]; exact h.rowsE hn
 ·have hq2:=h.ap.row q (Aj hq);rw [key _ _ hq2.2.2.2.1];exact Ya1u
 ·rw [key _ _ h.ap.cb]; exact h.costE
 ·rcases Bo hx with rfl|hx
  ·exact hb
  ·exact h.bB x hx):p:=h
namespace QQ
theorem Az.setBasis:Ar3:=fun {S iq eq I t c}=>Ma3
end QQ
abbrev Ar4 (p:Prop:=by exact ∀ {S S':List Ent}{iq eq:Nat}{I:TI}{t:Tb}{c:Cap}(h:Az S iq eq I t c){fl':Bool}(hS:∀ j,j≠iq->nth S' j=nth S j)(hf:FAq S' iq eq fl'),Az S' iq eq I { t with fl:=fl' } c):=p
theorem Ma4 {p:Prop} (h:p:=by
 intro h fl' hS hf;have key:∀ j e,j≠iq->entAt S' j e=entAt S j e:=fun j e h1=>Aa (hS j h1);refine ⟨?_,h.nids,fun hn=>?_,fun j q r hq ab=>?_,h.rowW,?_,fun hn=>?_,h.nb,h.nf,hf,h.ap,h.okr,h.okc,h.bigW,h.bigM,h.real,h.bB⟩
 ·rw [key _ _ h.ap.qt.symm]; exact h.top
 ·rw [key _ _ h.ap.qr.symm]; exact h.rowsE hn
 ·have hq2:=h.ap.row q (Aj hq);rw [key _ _ hq2.2.2.2.2];exact Ya1u
 ·rw [key _ _ h.ap.qc.symm]; exact h.costE
 ·rw [key _ _ h.ap.qb.symm]; exact h.basisE hn):p:=h
namespace QQ
theorem Az.flag:Ar4:=fun {S S' iq eq I t c}=>Ma4
end QQ
abbrev Ar5 (p:Prop:=by exact ∀ {S:List Ent}{iq eq:Nat}{I:TI}{t:Tb}{c:Cap}(h:Az S iq eq I t c)(L:List Ent),Az (S++L) iq eq I t c):=p
theorem Ma5 {p:Prop} (h:p:=by
 intro h L;exact ⟨Ab h.top,h.nids,fun hn=>Ab (h.rowsE hn),fun j q r hq hr=>Ab (h.rowE j q r hq hr),h.rowW,Ab h.costE,fun hn=>Ab (h.basisE hn),h.nb,h.nf,h.fa.app,h.ap,h.okr,h.okc,h.bigW,h.bigM,h.real,h.bB⟩):p:=h
namespace QQ
theorem Az.app:Ar5:=fun {S iq eq I t c}=>Ma5
structure LowQ (I:TI) (iq n:Nat) (t:Tb):Prop where
 it:I.it<n
 ic:I.ic<n
 ir:t.rows≠[]->I.ir<n
 ib:t.rows≠[]->I.ib<n
 row:∀ p ∈ I.ids,p.1<n
 iq:iq<n
theorem Az.low (h:Az S iq eq I t c):LowQ I iq S.length t:=by
 refine ⟨A5 h.top,A5 h.costE,fun hn=>A5 (h.rowsE hn),fun hn=>A5 (h.basisE hn),fun p hp=>?_,A5 h.fa⟩;exact Yai
end QQ
abbrev Ar6 (p:Prop:=by exact ∀ {S:List Ent}{iq eq:Nat}{I:TI}{t:Tb}{c:Cap}(h:Az S iq eq I t c){n:Nat}(hl:LowQ I iq n t),Az (S.take n) iq eq I t c):=p
theorem Ma6 {p:Prop} (h:p:=by
 intro h n hl;refine ⟨by rw [Dx hl.it]; exact h.top,h.nids,fun hn=>by rw [Dx (hl.ir hn)]; exact h.rowsE hn,fun j q r hq hr=>by rw [Dx (hl.row q (Aj hq))]; exact h.rowE j q r hq hr,h.rowW,by rw [Dx hl.ic]; exact h.costE,fun hn=>by rw [Dx (hl.ib hn)]; exact h.basisE hn,h.nb,h.nf,h.fa.take hl.iq,h.ap,h.okr,h.okc,h.bigW,h.bigM,h.real,h.bB⟩):p:=h
namespace QQ
theorem Az.take:Ar6:=fun {S iq eq I t c}=>Ma6
theorem LowQ.of {n:Nat} {t':Tb} (h:LowQ I iq n t) (hn:t'.rows≠[]->t.rows≠[]):LowQ I iq n t':=⟨h.it,h.ic,fun h'=>h.ir (hn h'),fun h'=>h.ib (hn h'),h.row,h.iq⟩
end QQ
abbrev Ar7 (p:Prop:=by exact ∀ {S S':List Ent}{iq eq:Nat}{I:TI}{t:Tb}{c:Cap}(h:Az S iq eq I t c){n:Nat}{fl':Bool}(hl:LowQ I iq n t)(hS:∀ j,j<n->j≠iq->nth S' j=nth S j)(hf:FAq S' iq eq fl'),Az S' iq eq I { t with fl:=fl' } c):=p
theorem Ma7 {p:Prop} (h:p:=by
 intro h n fl' hl hS hf;have key:∀ j e,j<n->j≠iq->entAt S' j e=entAt S j e:=fun j e h1 h2=>Aa (hS j h1 h2);refine ⟨?_,h.nids,fun hn=>?_,fun j q r hq ab=>?_,h.rowW,?_,fun hn=>?_,h.nb,h.nf,hf,h.ap,h.okr,h.okc,h.bigW,h.bigM,h.real,h.bB⟩
 ·rw [key _ _ hl.it h.ap.qt.symm]; exact h.top
 ·rw [key _ _ (hl.ir hn) h.ap.qr.symm]; exact h.rowsE hn
 ·have hq2:=h.ap.row q (Aj hq);rw [key _ _ (hl.row q (Aj hq)) hq2.2.2.2.2];exact Ya1u
 ·rw [key _ _ hl.ic h.ap.qc.symm]; exact h.costE
 ·rw [key _ _ (hl.ib hn) h.ap.qb.symm]; exact h.basisE hn):p:=h
namespace QQ
theorem Az.frame:Ar7:=fun {S S' iq eq I t c}=>Ma7
end QQ
def OutQ (I:TI) (iq j:Nat):Prop:=j≠iq/\j≠I.ic/\j≠I.ib/\∀ p ∈ I.ids,j≠p.1
namespace QQ
def Wq (S:List Ent) (tk:List Nat) (iq eq:Nat) (I:TI) (t':Tb) (cc:Cap) (v:AV) (r:Rs):Prop :=
 ∃ S' k',r=(v,S',tk,k')/\S'.length=S.length/\Az S' iq eq I t' cc/\∀ j,OutQ I iq j->nth S' j=nth S j
end QQ
end
end
section
open Go Tryz
open Go.Proofs.Tryz renaming func144->ga7,ntmps144->ga8,results144->ga9
open Go.Proofs.YthelkgdmgihhiaaGreat renaming ceQ->ga0,Ap->ga1,Bs->ga5,Ay->ga6
set_option maxRecDepth 100000
namespace QQ
abbrev ua5:Nat:=144
end QQ
set_option maxHeartbeats 8000000
set_option maxRecDepth 100000
theorem Abf {F:Fld} (hF:F.Keeps) {b:Q} (hb:F.ok b):∀ {l:List Q},okL F l->okL F (divL F b l).1
 | [],h=>h
 | x :: l,h=>by
  intro q hq;simp only [divL,Cy] at hq;rcases hq with rfl|hq
  ·unfold dvS;split
   ·exact h _ (by simp)
   ·exact hF.over _ _ (h _ (by simp)) hb
  ·exact Abf hF hb (fun q hq=>h q bV) q hq
theorem Nw {F:Fld} {l m:List Q} {c:Nat} : (lessT F l m c).1.length=l.length:=by
 unfold lessT;split
 ·split
  ·rfl
  ·exact My
 ·rfl
theorem X6 {F:Fld} (hF:F.Keeps) {l m:List Q} {c:Nat} (h:okL F l) (h':okL F m):okL F (lessT F l m c).1:=by
 unfold lessT;split
 ·rename_i b hb;split
  ·exact h
  ·exact Vj hF (h b (Aj hb)) h h'
 ·exact h
section
variable (S:List Ent) (tk:List Nat) (k iq eq:Nat)
abbrev Ar8 (p:Prop:=by exact ∀ (S:List Ent)(tk:List Nat)(k iq eq:Nat)(I:TI)(t:Tb)(cc:Cap)(i c:Nat)(ai:Az S iq eq I t cc)(hi:i<t.rows.length)(hc:c<t.cost.length),∃ r,cL prog ua5 [.ref I.it I.et 0,.int i,.int c] S tk k=some r/\Wq S tk iq eq I (Dz qF t i c) cc (.tup []) r):=p
theorem Ma8 {p:Prop} (h:p:=by
 intro S tk k iq eq I t cc i c ai hi hc;obtain ⟨Φ,hΦ⟩:∃ Φ,Φ=Wq S tk iq eq I (Dz qF t i c) cc (.tup []):=⟨_,rfl⟩;rw [<- hΦ];obtain ⟨row,bz⟩:=Ah hi;obtain ⟨pi,j7⟩:=Ah (show i<I.ids.length by rw [ai.nids]; exact hi);have jr:=ai.rowW row (Aj bz);have mj:=ai.okr row (Aj bz);obtain ⟨b,hb⟩:=Ah (show c<row.length by omega);have ob:qF.ok b:=mj b (Aj hb);have j0:t.rows≠[]:=fun h=>by rw [h] at hi; simp at hi
 have cu:0<t.rows.length:=aA
 have aj:=ai.top;rw [Bh cu,Bh cu] at aj;have j8:=ai.rowsE j0;have nv:nth (iK i (I.ids.map (f7 t.cost.length ua2))) 0=some (.sref pi.1 pi.2 0 t.cost.length ua2):=D0 (by rw [Ae] at j7 ⊢; rw [Fw,j7]; rfl);have xh:=Aq (ce:=ga0) ga1 hb;have df:=ai.rowE i pi row j7 bz;refine opG ga7 ga8 ?_;simp (maxSteps:=10^6)+contextual(disch:=try exact dqd)only[evg1,simprocAttr,Cg,Ca,Ch,ga9,aj,j8,nv,xh,df,hi,hc,Ia,intA,ga1,ga5,ovQ];have hW:=ai.bigW;have hM:=ai.bigM;have au:=ai.low;have dk:=au.row pi (Aj j7);have jj:=ai.ap.row pi (Aj j7);have o4:=Yl bz;have eT:({ t with rows:=t.rows,fl:=t.fl } : Tb)=t:=rfl;refine Eu (P:=prog) (fun x st=>st.T.length=89/\(divL qF b row=(x.2.2.1++(divL qF b x.2.2.2.1).1,Cj x.2.2.2.2 (divL qF b x.2.2.2.1).2))/\(x.2.2.1.length+x.2.2.2.1.length=t.cost.length)/\(Az x.1 iq eq I { t with rows:=put t.rows i (x.2.2.1++x.2.2.2.1),fl:=Cj t.fl x.2.2.2.2 } cc)/\(entAt x.1 S.length k=some (ga0 b))/\(x.1.length=S.length+1)/\(∀ j,j<S.length->OutQ I iq j->nth x.1 j=nth S j)/\(okL qF x.2.2.2.1)/\getT st.T 0=.ref I.it I.et 0/\getT st.T 1=.int (i:Nat)/\getT st.T 2=.int (c:Nat)/\getT st.T 6=.sref pi.1 pi.2 0 t.cost.length ua2/\getT st.T 7=.ref S.length k 0/\getT st.T 23=.int (t.cost.length:Nat)/\getT st.T 24=.int (x.2.2.1.length:Nat)/\st.S=x.1/\st.tk=tk/\st.n=x.2.1) (fun x=>x.2.2.2.1.length) ((S++[⟨k,ga0 b⟩]),(k+1),([]:List Q),row,false) ?_ ?_;case refine_2=>exact ⟨rfl,by simp,by simpa using jr,by simp only [Ct,o4,Fk]; exact ai.app _,Al rfl,by simp,fun j hj _=>Bq hj,mj,rfl,rfl,rfl,rfl,rfl,rfl,rfl,rfl,rfl,rfl⟩
 rintro ⟨SS,n1,p,u,fp⟩ ⟨T,S',tk',n'⟩ ⟨hl,hR,j3,hT,yf,fi,ba,ou,e0,e1,e2,e6,e7,e23,e24,eS,eT,eN⟩ IH;simp only at hR j3 hT yf fi ba ou e0 e1 e2 e6 e7 e23 e24 eS eT eN;subst eS eT eN;obtain ⟨g,hg,hT⟩:=Aw hl;rw [hg] at e0 e1 e2 e6 e7 e23 e24;subst hT;clear hg hl;by_cases c9:p.length<t.cost.length
 ·have c1:decide ((p.length:Int)<(t.cost.length:Int))=true:=cY
  obtain ⟨a0,u,rfl⟩:∃ a0 u',u=a0 :: u':=by
   cases u with
   | nil=>simp at j3; omega
   | cons x u=>exact ⟨x,u,rfl⟩
  have oa0:=ou a0 (by simp);have se:=Aq (ce:=ga0) ga1 (D8 (p:=p) (u:=u) (x:=a0));have vf:nth (put t.rows i (p++a0 :: u)) i=some (p++a0 :: u):=Di hi;have he:=hT.rowE i pi _ j7 vf;have cr:=hT.top;have hs:=Aak S' tk' n' iq eq (Cj t.fl fp) a0 oa0 hT.fa;have vg:u.length<(a0 :: u).length:=by simp
  have hw:Ce.wrap ((p.length:Int)+1)=(((p++[a0]).length:Nat):Int):=bR
  by_cases hz:sgn a0=0
  ·have c2:(sgn a0 != 0)=false:=cG
   have ah:dvS qF b a0=(a0,false):=by unfold dvS; rw [if_pos hz]
   simp (maxSteps:=10^6)+contextual(disch:=try exact dqd)only[evg1,simprocAttr,Cg,Ca,Ch,ga9,e0,e1,e2,e6,e7,e23,e24,c1,c2,hw,cr,he,se,c9,hs,Ek,xfs,puQ,tkQ];exact IH (S',n'+ua3,p++[a0],u,fp) _ aF ⟨rfl,by rw [hR]; simp only [divL,ah,C7,Co,Ct,Mf],by show (p++[a0]).length+u.length=t.cost.length; simp only [Cn,Ck,C3] at j3 ⊢; omega,by simpa using hT,yf,fi,ba,fun q hq=>ou q bV,aZ⟩
  ·have c2:(sgn a0 != 0)=true:=cG
   obtain ⟨y,hy⟩:∃ y,y=qF.over a0 b:=⟨_,rfl⟩;have oy:qF.ok y.1:=by rw [hy]; exact Da.over _ _ oa0 ob
   have ah:dvS qF b a0=y:=by unfold dvS; rw [if_neg hz,hy]
   have p7:Ce.wrap ((p.length:Int)+1)=(((p++[y.1]).length:Nat):Int):=bR
   have cq:=Aqf S' tk' (n'+ua3) iq eq (Cj t.fl fp) a0 b oa0 ob hT.fa;have hg1:=D9 (c:=y.2) hT.fa;rw [<- hy] at cq;obtain ⟨S2,bh⟩:∃ S2,S2=flS S' iq eq y.2:=⟨_,rfl⟩;rw [<- bh] at cq hg1;have bv:FAq S2 iq eq (Cj (Cj t.fl fp) y.2):=by rw [bh]; exact hT.fa.fS
   have hl2:S2.length=S'.length:=by rw [bh,Be]
   have bc:∀ j,j≠iq->nth S2 j=nth S' j:=fun j hj=>by rw [bh,ga6 hj]
   have i6:nth S2 S.length=nth S' S.length:=Za52
   have he2:entAt S2 pi.1 pi.2=some (flat ga0 (p++a0 :: u)):=by rw [Aa (bc _ jj.2.2.2.2)]; exact he
   have ho:=A9 (ce:=ga0) ga1 (l:=p++a0 :: u) (k:=p.length) (q':=y.1) (by simp);rw [Gh] at ho;have jx:∀ x,Lv S'.length (put S2 pi.1 x)=put S2 pi.1 x:=fun x=>Fa (by simp [Am,hl2]);simp (maxSteps:=10^6)+contextual(disch:=try exact dqd)only[evg1,simprocAttr,Cg,Ca,Ch,ga9,e0,e1,e2,e6,e7,e23,e24,c1,c2,p7,jx,cr,he,se,yf,c9,hs,cq,hg1,he2,ho,Ek,xfs,puQ,ga1,ga5,tkQ];have i7:Cj t.fl (Cj fp y.2)=Cj (Cj t.fl fp) y.2:=(Fx _ _ _).symm;have dq:=hT.row (S':=put S2 pi.1 ⟨pi.2,flat ga0 (p++y.1 :: u)⟩) (r':=p++y.1 :: u) (fl':=Cj (Cj t.fl fp) y.2) j7 vf (by simp only [Cn,Ck] at j3 ⊢; exact j3) (fun q hq=>by
    rcases Cr.1 hq with h|h
    ·exact hT.okr _ (Aj vf) q cJ
    ·rcases Cy.1 h with rfl|h
     ·exact oy
     ·exact ou q cJ) (fun j h1 h2=>by rw [Ad (Od h1),bc j h2]) (Ag (A5 he2)) (bv.put jj.2.2.2.2)
   simp only [M6] at dq;exact IH (put S2 pi.1 ⟨pi.2,flat ga0 (p++y.1 :: u)⟩,n'+ua3+Xy b,p++[y.1],u,Cj fp y.2) _ aF ⟨rfl,by rw [hR]; simp only [divL,ah,C7,Co,Ct,Fx],by show (p++[y.1]).length+u.length=t.cost.length; simp only [Cn,Ck,C3] at j3 ⊢; omega,by simp only [C7,Co,Ct,i7]; exact dq,by rw [Af aE,Aa i6]; exact yf,by rw [Am,hl2]; exact fi,fun j h1 h2=>by rw [Ad (Od (h2.2.2.2 pi (Aj j7))),bc j h2.1]; exact ba j h1 h2,fun q hq=>ou q bV,aZ⟩
 ·have c1:decide ((p.length:Int)<(t.cost.length:Int))=false:=cY
  have xn:u=[]:=C5.1 aA;subst xn;simp only [divL] at hR;simp only [Fu,C3,I1,Fk] at hR j3 hT;have a0e:Dz qF t i c={ t with rows:=(lessRows qF p c i 0 (put t.rows i p)).1,cost:=(lessT qF t.cost p c).1,basis:=put t.basis i c,fl:=Cj (Cj (Cj t.fl fp) (lessRows qF p c i 0 (put t.rows i p)).2) (lessT qF t.cost p c).2 }:=by
   unfold Dz B1;rw [A8 bz,A8 hb,hR]
  have op:okL qF p:=by have:=Abf Da ob mj; rw [hR] at this; exact this
  have j9:=hT.top;simp only [Ai] at j9;rw [Bh cu,Bh cu] at j9;simp (maxSteps:=10^6)+contextual(disch:=try exact dqd)only[evg1,simprocAttr,Cg,Ca,Ch,ga9,e0,e1,e2,e6,e7,e23,e24,c1,j9];refine Eu (P:=prog) (fun x st=>st.T.length=89/\(lessRows qF p c i 0 (put t.rows i p)=(x.2.2.1++(lessRows qF p c i x.2.2.1.length x.2.2.2.1).1,Cj x.2.2.2.2 (lessRows qF p c i x.2.2.1.length x.2.2.2.1).2))/\(x.2.2.1.length+x.2.2.2.1.length=t.rows.length)/\(Az x.1 iq eq I { t with rows:=x.2.2.1++x.2.2.2.1,fl:=Cj (Cj t.fl fp) x.2.2.2.2 } cc)/\(nth (x.2.2.1++x.2.2.2.1) i=some p)/\(x.1.length=S.length+1)/\(∀ j,j<S.length->OutQ I iq j->nth x.1 j=nth S j)/\getT st.T 0=.ref I.it I.et 0/\getT st.T 1=.int (i:Nat)/\getT st.T 2=.int (c:Nat)/\getT st.T 6=.sref pi.1 pi.2 0 t.cost.length ua2/\getT st.T 58=.sref I.ir I.er 0 t.rows.length 1/\getT st.T 59=.int (t.rows.length:Nat)/\getT st.T 60=.int (x.2.2.1.length:Nat)/\st.S=x.1/\st.tk=tk'/\st.n=x.2.1) (fun x=>x.2.2.2.1.length) (S',n',([]:List (List Q)),(put t.rows i p),false) ?_ ?_;case refine_2=>exact ⟨rfl,by simp,by simp [Ai],by simp only [Ct,Fk]; exact hT,by simp only [Ct]; exact Di hi,fi,ba,rfl,rfl,rfl,rfl,rfl,rfl,rfl,rfl,rfl,rfl⟩
  rintro ⟨SS,n1,P,U,fq⟩ ⟨T,S',tk',n'⟩ ⟨hl,fj,eg,aw,dd,p8,ka,e0,e1,e2,e6,e58,e59,e60,eS,eT,eN⟩ IH;simp only at fj eg aw dd p8 ka e0 e1 e2 e6 e58 e59 e60 eS eT eN;subst eS eT eN;obtain ⟨g,hg,hT⟩:=Aw hl;rw [hg] at e0 e1 e2 e6 e58 e59 e60;subst hT;clear hg hl;by_cases ca:P.length<t.rows.length
  ·have c2:decide ((P.length:Int)<(t.rows.length:Int))=true:=cZ
   obtain ⟨r0,U,rfl⟩:∃ r0 U',U=r0 :: U':=by
    cases U with
    | nil=>simp at eg; omega
    | cons x u=>exact ⟨x,u,rfl⟩
   have vg:U.length<(r0 :: U).length:=by simp
   obtain ⟨pk,gh⟩:=Ah (show P.length<I.ids.length by rw [ai.nids]; exact ca);have dh:nth (iK P.length (I.ids.map (f7 t.cost.length ua2))) 0=some (.sref pk.1 pk.2 0 t.cost.length ua2):=D0 (by rw [Ae] at gh ⊢; rw [Fw,gh]; rfl);have i8:nth (P++r0 :: U) P.length=some r0:=D8;have ve:P++r0 :: U≠[]:=by simp
   have vj:=aw.rowsE ve;have hw2:∀ z:List Q,Ce.wrap ((P.length:Int)+1)=(((P++[z]).length:Nat):Int):=fun z=>bR
   by_cases o6:P.length=i
   ·have c3:((P.length:Int) != (i:Int))=false:=by rw [o6]; simp
    have sb:lessK qF p c i P.length r0=(r0,false):=by unfold lessK; rw [if_pos o6]
    have hw3:=hw2 r0;simp (maxSteps:=10^6)+contextual(disch:=try exact dqd)only[evg1,simprocAttr,Cg,Ca,Ch,ga9,e0,e1,e2,e6,e58,e59,e60,c2,c3,vj,dh,ca,hw3,Ia];exact IH (S',n',P++[r0],U,fq) _ aF ⟨rfl,by rw [fj]; simp only [lessRows,sb,C7,Co,Ct,Mf,Cn,Ck,C3,Fo],by show (P++[r0]).length+U.length=t.rows.length; simp only [Cn,Ck,C3] at eg ⊢; omega,by simpa using aw,by simpa using dd,p8,ka,aZ⟩
   ·have c3:((P.length:Int) != (i:Int))=true:=aB
    have du:=aw.rowE P.length pk r0 gh i8;have p9:=aw.rowE i pi p j7 dd;have dp:=aw.rowW r0 (Aj i8);have o7:=ai.ap.row pk (Aj gh);obtain ⟨r,ci,S3,k3,rfl,ef,oe,dm,cd⟩:=Ap4 S' tk' n' iq eq _ I.it I.et pk.1 pk.2 pi.1 pi.2 t.cost.length c _ r0 p aw.top aw.fa du p9 dp j3 hc hW (aw.okr r0 (Aj i8)) op (ai.ap.rows _ _ pk pi gh j7 o6) o7.1 o7.2.2.2.2 ai.ap.qt jj.2.2.2.2.symm;have sb:lessK qF p c i P.length r0=lessT qF r0 p c:=by unfold lessK; rw [if_neg o6]
    obtain ⟨z,hz⟩:∃ z,z=lessT qF r0 p c:=⟨_,rfl⟩;rw [<- hz] at oe dm sb;have hw3:=hw2 z.1;have jx:Lv S'.length S3=S3:=Fa aA;simp (maxSteps:=10^6)+contextual(disch:=try exact dqd)only[evg1,simprocAttr,Cg,Ca,Ch,ga9,e0,e1,e2,e6,e58,e59,e60,c2,c3,vj,dh,ca,hw3,ci,jx,Ia];have dq:=aw.row (S':=S3) (r':=z.1) (fl':=Cj (Cj (Cj t.fl fp) fq) z.2) gh i8 (by rw [hz,Nw]; exact dp) (by rw [hz]; exact X6 Da (aw.okr r0 (Aj i8)) op) cd oe dm;simp only [Gh] at dq;exact IH (S3,k3,P++[z.1],U,Cj fq z.2) _ aF ⟨rfl,by rw [fj]; simp only [lessRows,sb,C7,Co,Ct,Fx,Cn,Ck,C3,Fo],by show (P++[z.1]).length+U.length=t.rows.length; simp only [Cn,Ck,C3] at eg ⊢; omega,by simpa [Fx] using dq,by rw [C7,Sk,<- Gh (x:=r0),Kl (by simp),if_neg (fun h=>o6 h.symm)]; exact dd,by rw [ef]; exact p8,fun j h1 h2=>by rw [cd j (h2.2.2.2 pk (Aj gh)) h2.1]; exact ka j h1 h2,aZ⟩
  ·have c2:decide ((P.length:Int)<(t.rows.length:Int))=false:=cZ
   have vk:U=[]:=C5.1 aA;subst vk;simp only [lessRows] at fj;simp only [Fu,C3,I1,Fk] at fj eg aw dd;have qa:P≠[]:=fun h=>by rw [h] at eg; simp at eg; omega
   have ke:=aw.top;simp only [eg] at ke;rw [Bh cu,Bh cu] at ke;have p9:=aw.rowE i pi p j7 dd;obtain ⟨r,ci,S3,k3,rfl,ef,oe,dm,cd⟩:=Ap4 S' tk' n' iq eq _ I.it I.et I.ic I.ec pi.1 pi.2 t.cost.length c _ t.cost p aw.top aw.fa aw.costE p9 rfl j3 hc hW ai.okc op jj.2.2.1.symm ai.ap.tc.symm ai.ap.qc.symm ai.ap.qt jj.2.2.2.2.symm;have dq:=aw.setCost (S':=S3) (k':=(lessT qF t.cost p c).1) Nw (X6 Da ai.okc op) cd oe dm;have kg:=dq.top;simp only [eg] at kg;rw [Bh cu,Bh cu] at kg;have te:=dq.basisE qa;obtain ⟨b0,hb0⟩:=Ah (show i<t.basis.length by rw [ai.nb]; exact hi);have jy:over (t.basis.map intA) i [.prim (.int .i64 (c:Int))]=some ((put t.basis i c).map intA):=by
    rw [<- N1];exact Vt (w:=intA b0) (by rw [Ae] at hb0 ⊢; rw [Fw,hb0]; rfl)
   have vn:=dq.setBasis (i:=i) (b:=c) qa (by simp only [Nw]; exact hc);simp (maxSteps:=10^6)+contextual(disch:=try exact dqd)only[evg1,simprocAttr,Cg,Ca,Ch,ga9,e0,e1,e2,e6,e58,e59,e60,c2,ke,ci,kg,te,jy,hi,Ia];rw [hΦ,a0e,fj];have vp:LowQ I iq S.length { t with rows:=P,cost:=(lessT qF t.cost p c).1,basis:=put t.basis i c,fl:=Cj (Cj (Cj t.fl fp) fq) (lessT qF t.cost p c).2 }:=au.of fun _=>j0;exact ⟨_,_,rfl,by rw [Iy,Am,ef]; omega,vn.take vp,fun j hj=>by
    by_cases io:j<S.length
    ·rw [Ey io,Ad (Od hj.2.2.1),cd j hj.2.1 hj.1]; exact ka j io hj
    ·rw [Ae,Ae,E9 cQ,E9 aA]⟩):p:=h
namespace QQ
theorem Aqi:Ar8:=Ma8
end QQ
end
end
section
open Go Tryz
open Go.Proofs.Tryz renaming func143->ga10,ntmps143->ga11,results143->ga12
open Go.Proofs.YthelkgdmgihhiaaGreat renaming ceQ->ga0,Ap->ga1,Bs->ga5,Ay->ga6
set_option maxRecDepth 100000
namespace QQ
abbrev ua6:Nat:=143
end QQ
set_option maxHeartbeats 8000000
set_option maxRecDepth 100000
def Mh:Option (Nat × Q)->AV
 | none=>.int (-1)
 | some (i,_)=>.int (i:Nat)
theorem Lf {F:Fld} {basis:List Nat} {c W m:Nat} : ∀ {l:List (List Q)} {k:Nat} {b:Option (Nat × Q)} {i:Nat} {q:Q} {f:Bool},k+l.length<=m->(∀ i q,b=some (i,q)->i<m)->Bw F basis c W k l b=(some (i,q),f)->i<m
 | [],k,b,i,q,f,_,hb,h=>by
  simp only [Bw,Cc] at h;exact hb i q h.1
 | r :: l,k,b,i,q,f,hl,hb,h=>by
  simp only [Ck] at hl;unfold Bw at h;split at h
  ·exact Lf aA hb h
  ·split at h
   ·simp only [Cc] at h;exact Lf (k:=k+1) (l:=l) aA (fun i q e=>by simp only [A0,Cc] at e; omega) (Prod.ext h.1 rfl)
   ·rename_i bi least;simp only [Cc] at h;refine Lf (k:=k+1) (l:=l) aA (fun i' q' e=>?_) (Prod.ext h.1 rfl);split at e
    ·simp only [A0,Cc] at e;exact hb i' least (by rw [e.1])
    ·simp only [A0,Cc] at e; omega
theorem Ahc {F:Fld} {t:Tb} {c i:Nat} {q:Q} {f:Bool} (h:Bl F t c=(some (i,q),f)):i<t.rows.length :=
 Lf (k:=0) (by simp) (fun _ _ e=>by cases e) h
section
variable (S:List Ent) (tk:List Nat) (k iq eq:Nat)
abbrev Ar9 (p:Prop:=by exact ∀ (S:List Ent)(tk:List Nat)(k iq eq:Nat)(I:TI)(t:Tb)(cc:Cap)(c:Nat)(ai:Az S iq eq I t cc)(hc:c<t.cost.length),∃ r,cL prog ua6 [.ref I.it I.et 0,.int c] S tk k=some r/\Wq S tk iq eq I { t with fl:=Cj t.fl (Bl qF t c).2 } cc (Mh (Bl qF t c).1) r):=p
theorem Ma9 {p:Prop} (h:p:=by
 intro S tk k iq eq I t cc c ai hc;obtain ⟨Φ,hΦ⟩:∃ Φ,Φ=Wq S tk iq eq I { t with fl:=Cj t.fl (Bl qF t c).2 } cc (Mh (Bl qF t c).1):=⟨_,rfl⟩;rw [<- hΦ];have aj:=ai.top;by_cases b9:t.rows=[]
 ·have dz:t.rows.length=0:=by rw [b9]; rfl
  rw [dz] at aj;simp only [cw] at aj;have mr:Bl qF t c=(none,false):=by unfold Bl; rw [b9]; rfl
  refine opG ga10 ga11 ?_;have d0:decide ((0:Int)<((0:Nat):Int))=false:=rfl;simp (maxSteps:=10^6)+contextual(disch:=try exact dqd)only[evg1,simprocAttr,Cg,Ca,Ch,ga12,aj];refine Eu (P:=prog) (fun x st=>st.T.length=93/\getT st.T 5=.int (-1)/\getT st.T 15=.int ((0:Nat):Int)/\getT st.T 16=.int 0/\st.S=S++[⟨k,zeroQ⟩]/\st.tk=tk/\st.n=x) (fun x=>0) (k+1) ?_ ?_;case refine_2=>exact ⟨rfl,rfl,rfl,rfl,rfl,rfl,rfl⟩
  rintro n1 ⟨T,S',tk',n'⟩ ⟨hl,e5,e15,e16,eS,eT,eN⟩ IH;subst eS eT eN;obtain ⟨g,hg,hT⟩:=Aw hl;rw [hg] at e5 e15 e16;subst hT;clear hg hl;simp (maxSteps:=10^6)+contextual(disch:=try exact dqd)only[evg1,simprocAttr,Cg,Ca,Ch,ga12,e5,e15,e16,d0,Hc];rw [hΦ,mr];exact ⟨S,_,rfl,rfl,by simp only [Fk]; exact ai,fun j _=>rfl⟩
 have cu:0<t.rows.length:=I5.2 b9;rw [Bh cu,Bh cu] at aj;have j8:=ai.rowsE b9;have hW:=ai.bigW;have hM:=ai.bigM;have au:=ai.low;have co:=ai.real;refine opG ga10 ga11 ?_;simp (maxSteps:=10^6)+contextual(disch:=try exact dqd)only[evg1,simprocAttr,Cg,Ca,Ch,ga12,aj];refine Eu (P:=prog) (fun x st=>st.T.length=93/\(Bl qF t c=((Bw qF t.basis c t.cost.length x.2.2.1.length x.2.2.2.1 x.2.2.2.2.1).1,Cj x.2.2.2.2.2 (Bw qF t.basis c t.cost.length x.2.2.1.length x.2.2.2.1 x.2.2.2.2.1).2))/\(t.rows=x.2.2.1++x.2.2.2.1)/\(Az x.1 iq eq I { t with fl:=Cj t.fl x.2.2.2.2.2 } cc)/\(∃ lc,entAt x.1 S.length k=some lc/\lc.length=ua2/\∀ bi q,x.2.2.2.2.1=some (bi,q)->lc=ga0 q/\bi<x.2.2.1.length/\qF.ok q)/\(x.1.length=S.length+1)/\(∀ j,j<S.length->OutQ I iq j->nth x.1 j=nth S j)/\getT st.T 0=.ref I.it I.et 0/\getT st.T 1=.int (c:Nat)/\getT st.T 5=Mh x.2.2.2.2.1/\getT st.T 6=.ref S.length k 0/\getT st.T 14=.sref I.ir I.er 0 t.rows.length 1/\getT st.T 15=.int (t.rows.length:Nat)/\getT st.T 16=.int (x.2.2.1.length:Nat)/\st.S=x.1/\st.tk=tk/\st.n=x.2.1) (fun x=>x.2.2.2.1.length) ((S++[⟨k,zeroQ⟩]),(k+1),([]:List (List Q)),t.rows,(none:Option (Nat × Q)),false) ?_ ?_;case refine_2=>exact ⟨rfl,by simp [Bl],rfl,by simp only [Fk]; exact ai.app _,⟨_,Al rfl,rfl,fun _ _ h=>aP⟩,by simp,fun j hj _=>Bq hj,rfl,rfl,rfl,rfl,rfl,rfl,rfl,rfl,rfl,rfl⟩
 rintro ⟨SS,n1,P,U,bst,fq⟩ ⟨T,S',tk',n'⟩ ⟨hl,hR,eg,hT,jm,fi,ba,e0,e1,e5,e6,e14,e15,e16,eS,eT,eN⟩ IH;simp only at hR eg hT jm fi ba e0 e1 e5 e6 e14 e15 e16 eS eT eN;subst eS eT eN;obtain ⟨g,hg,hT⟩:=Aw hl;rw [hg] at e0 e1 e5 e6 e14 e15 e16;subst hT;clear hg hl;have sk:t.rows.length=P.length+U.length:=fI
 obtain ⟨lc,hlc,vq,hlb⟩:=jm;by_cases ca:P.length<t.rows.length
 ·have c1:decide ((P.length:Int)<(t.rows.length:Int))=true:=cZ
  obtain ⟨r0,U,rfl⟩:∃ r0 U',U=r0 :: U':=by
   exact Ya2t
  have vg:U.length<(r0 :: U).length:=by simp
  obtain ⟨pk,gh⟩:=Ah (show P.length<I.ids.length by rw [ai.nids]; exact ca);have dh:nth (iK P.length (I.ids.map (f7 t.cost.length ua2))) 0=some (.sref pk.1 pk.2 0 t.cost.length ua2):=D0 (by rw [Ae] at gh ⊢; rw [Fw,gh]; rfl);have i8:nth t.rows P.length=some r0:=by rw [eg]; exact D8
  have dp:=ai.rowW r0 (Aj i8);have mj:=ai.okr r0 (Aj i8);have l7:=hT.rowsE b9;have du:=hT.rowE P.length pk r0 gh i8;have cr:=hT.top;simp only at cr;rw [Bh cu,Bh cu] at cr;obtain ⟨x,hx⟩:=Ah (show c<r0.length by omega);obtain ⟨z,hz⟩:=Ah (show t.cost.length - 1<r0.length by omega);have ox:=mj x (Aj hx);have oz:=mj z (Aj hz);have i9:=Aq (ce:=ga0) ga1 hx;have mu:=Aq (ce:=ga0) ga1 hz;have hs:=Aak S' tk' n' iq eq (Cj t.fl fq) x ox hT.fa;have hw2:Ce.wrap ((P.length:Int)+1)=(((P++[r0]).length:Nat):Int):=bR
  have ja:t.rows=(P++[r0])++U:=fI
  have kh:(P++[r0]).length=P.length+1:=by simp
  by_cases ly:sgn x<=0
  ·have c2:decide (sgn x<=0)=true:=by simpa using ly
   simp (maxSteps:=10^6)+contextual(disch:=try exact dqd)only[evg1,simprocAttr,Cg,Ca,Ch,ga12,e0,e1,e5,e6,e14,e15,e16,c1,c2,hw2,cr,l7,dh,du,i9,ca,hc,hs,Ek,xfs,puQ,tkQ,Ia];exact IH (S',n'+ua3,P++[r0],U,bst,fq) _ aF ⟨rfl,by rw [hR,kh]; simp only [Bw,A8 hx]; rw [if_pos ly],ja,hT,⟨lc,hlc,vq,fun bi q h=>by obtain ⟨h1,h2,h3⟩:=hlb bi q h; exact ⟨h1,Za2q,h3⟩⟩,fi,ba,aZ⟩
  ·have c2:decide (sgn x<=0)=false:=by simpa using ly
   obtain ⟨y,hy⟩:∃ y,y=qF.over z x:=⟨_,rfl⟩;have oy:qF.ok y.1:=by rw [hy]; exact Da.over _ _ oz ox
   have cq:=Aqf S' tk' (n'+ua3) iq eq (Cj t.fl fq) z x oz ox hT.fa;have hg1:=D9 (c:=y.2) hT.fa;rw [<- hy] at cq;obtain ⟨S2,bh⟩:∃ S2,S2=flS S' iq eq y.2:=⟨_,rfl⟩;rw [<- bh] at cq hg1;have bv:FAq S2 iq eq (Cj (Cj t.fl fq) y.2):=by rw [bh]; exact hT.fa.fS
   have hl2:S2.length=S'.length:=by rw [bh,Be]
   have bc:∀ j,j≠iq->nth S2 j=nth S' j:=fun j hj=>by rw [bh,ga6 hj]
   have i6:nth S2 S.length=nth S' S.length:=Za52
   have mw:entAt S2 S.length k=some lc:=by rw [Aa i6]; exact hlc
   have g9:Ce.wrap ((t.cost.length:Int) - 1)=((t.cost.length - 1:Nat):Int):=aT
   have my:t.cost.length - 1<t.cost.length:=aA
   obtain ⟨n2,qd⟩:∃ n2,n2=n'+ua3+Xy x:=⟨_,rfl⟩;rw [<- qd] at cq;obtain ⟨E,hE⟩:∃ E:Ent,E=⟨n2,ga0 y.1⟩:=⟨_,rfl⟩;have vr:entAt (S2++[⟨n2,ga0 y.1⟩]) S2.length n2=some (ga0 y.1):=Bz;have kk:=Ab (L:=[⟨n2,ga0 y.1⟩]) mw;have a0f:over lc 0 (ga0 y.1)=some (ga0 y.1):=by
    have:=P4 (e:=lc) (r:=[]) (e':=ga0 y.1) (by rw [vq]; rfl);exact Ya17
   have hSl:S.length<S2.length:=aA
   have a0g:∀ v,Lv S'.length (put S2 S.length v++[⟨n2,ga0 y.1⟩])=put S2 S.length v:=fun v=>by rw [<- hl2,<- Am (l:=S2) (i:=S.length) (v:=v)]; simp
   have a0h v:=Dj (L:=[⟨n2,ga0 y.1⟩]) (x:=v) hSl;cases bst with
   | none =>
    have c3:decide ((-1:Int) >= 0)=false:=rfl;simp only [Mh] at e5;simp (maxSteps:=10^6)+contextual(disch:=try exact dqd)only[evg1,simprocAttr,Cg,Ca,Ch,ga12,e0,e1,e5,e6,e14,e15,e16,c1,c2,c3,hw2,cr,l7,dh,du,i9,mu,g9,my,ca,hc,hs,cq,hg1,vr,kk,a0f,a0h,a0g,Ek,xfs,puQ,tkQ,ga1,ga5,ovQ,Ia];have dq:=hT.frame (S':=put S2 S.length ⟨k,ga0 y.1⟩) (n:=S.length) (fl':=Cj (Cj t.fl fq) y.2) (au.of fun h=>h) (fun j h1 h2=>by rw [Ad aA,bc j h2]) (by first|exact ⟨⟩|exact bv.put (fun h=>cR));exact IH (put S2 S.length ⟨k,ga0 y.1⟩,n2+1,P++[r0],U,some (P.length,y.1),Cj fq y.2) _ aF ⟨rfl,by rw [hR,kh]; simp only [Bw,A8 hx,A8 hz]; rw [if_neg ly,<- hy,<- Fx],ja,by simpa only [Fx] using dq,⟨_,Ag hSl,ga1 _,fun bi q h=>Za4w⟩,by rw [Am,hl2]; exact fi,fun j h1 h2=>by rw [Ad aE,bc j h2.1]; exact ba j h1 h2,aZ⟩
   | some bq =>
    obtain ⟨bi,least⟩:=bq;obtain ⟨a0i,hbi,ol⟩:=hlb bi least rfl;subst a0i;have c3:decide ((bi:Int) >= 0)=true:=by simp
    simp only [Mh] at e5;obtain ⟨d,hd⟩:∃ d,d=qF.minus y.1 least:=⟨_,rfl⟩;have ew:=Lu (S2++[⟨n2,ga0 y.1⟩]) tk' (n2+1) iq eq (Cj (Cj t.fl fq) y.2) y.1 least oy ol (bv.app (L:=[⟨n2,ga0 y.1⟩]));have hg2:=D9 (c:=d.2) (b:=Cj (Cj t.fl fq) y.2) (bv.app (L:=[⟨n2,ga0 y.1⟩]));rw [<- hd] at ew;rw [G3 bv] at ew hg2;obtain ⟨S3,cz⟩:∃ S3,S3=flS S2 iq eq d.2:=⟨_,rfl⟩;rw [<- cz] at ew hg2;have od:qF.ok d.1:=by rw [hd]; exact Da.minus _ _ oy ol
    have dm:FAq S3 iq eq (Cj (Cj (Cj t.fl fq) y.2) d.2):=by rw [cz]; exact bv.fS
    have mg:=Aak (S3++[⟨n2,ga0 y.1⟩]) tk' (n2+1+ua4) iq eq (Cj (Cj (Cj t.fl fq) y.2) d.2) d.1 od (dm.app (L:=[⟨n2,ga0 y.1⟩]));have ef:S3.length=S2.length:=by rw [cz,Be]
    have cd:∀ j,j≠iq->nth S3 j=nth S2 j:=fun j hj=>by rw [cz,ga6 hj]
    have kn:nth S3 S.length=nth S2 S.length:=by rw [cz]; first|rfl|exact Ay cR
    have ko:entAt (S2++[⟨n2,ga0 y.1⟩]) I.it I.et=some [.ifc ua0 (rcvQ iq eq),intA t.vars,intA t.real,.sref I.ir I.er 0 t.rows.length 1,.sref I.ic I.ec 0 t.cost.length ua2,.sref I.ib I.eb 0 t.rows.length 1,.frz (t.flip.map Dn) cc]:=Ab (by rw [Aa (bc _ ai.ap.qt.symm)]; exact cr);have n9:entAt (S3++[⟨n2,ga0 y.1⟩]) I.it I.et=some [.ifc ua0 (rcvQ iq eq),intA t.vars,intA t.real,.sref I.ir I.er 0 t.rows.length 1,.sref I.ic I.ec 0 t.cost.length ua2,.sref I.ib I.eb 0 t.rows.length 1,.frz (t.flip.map Dn) cc]:=Ab (by rw [Aa (cd _ ai.ap.qt.symm),Aa (bc _ ai.ap.qt.symm)]; exact cr);have u9:entAt (S3++[⟨n2,ga0 y.1⟩]) I.ib I.eb=some (t.basis.map intA):=Ab (by rw [Aa (cd _ ai.ap.qb.symm),Aa (bc _ ai.ap.qb.symm)]; exact hT.basisE b9);obtain ⟨bk,og⟩:=Ah (show P.length<t.basis.length by rw [ai.nb]; exact ca);obtain ⟨bb,yg⟩:=Ah (show bi<t.basis.length by rw [ai.nb]; omega);have jb:nth (iK P.length (t.basis.map intA)) 0=some (.prim (.int .i64 (bk:Int))):=D0 (by rw [Ae] at og ⊢; rw [Fw,og]; rfl);have qe:nth (iK bi (t.basis.map intA)) 0=some (.prim (.int .i64 (bb:Int))):=D0 (by rw [Ae] at yg ⊢; rw [Fw,yg]; rfl);have mz:bi<t.rows.length:=aA
    have vt:entAt (S3++[⟨n2,ga0 y.1⟩]) S2.length n2=some (ga0 y.1):=Al ef;have vu:entAt (S3++[⟨n2,ga0 y.1⟩]) S.length k=some (ga0 least):=Ab Za45;have vv:Lv S'.length (S3++[⟨n2,ga0 y.1⟩])=S3:=by rw [<- hl2,<- ef]; simp
    have vw:∀ v,Lv S'.length (put S3 S.length v++[⟨n2,ga0 y.1⟩])=put S3 S.length v:=fun v=>by rw [<- hl2,<- ef,<- Am (l:=S3) (i:=S.length) (v:=v)]; simp
    have vz v:=Dj (L:=[⟨n2,ga0 y.1⟩]) (x:=v) (show S.length<S3.length by omega);have hw:worse t.basis (sgn d.1) P.length bi=(decide (0<sgn d.1) || (sgn d.1 == 0 && decide (bb<bk))):=by unfold worse; rw [A8 og,A8 yg]
    have qf:Cj fq (Cj (Cj y.2 d.2) (Bw qF t.basis c t.cost.length (P++[r0]).length U (if worse t.basis (sgn d.1) P.length bi=true then some (bi,least) else some (P.length,y.1))).2)=Cj (Cj fq (Cj y.2 d.2)) (Bw qF t.basis c t.cost.length (P++[r0]).length U (if worse t.basis (sgn d.1) P.length bi=true then some (bi,least) else some (P.length,y.1))).2:=(Fx _ _ _).symm;have ie:Bl qF t c=((Bw qF t.basis c t.cost.length (P++[r0]).length U (if worse t.basis (sgn d.1) P.length bi=true then some (bi,least) else some (P.length,y.1))).1,Cj (Cj fq (Cj y.2 d.2)) (Bw qF t.basis c t.cost.length (P++[r0]).length U (if worse t.basis (sgn d.1) P.length bi=true then some (bi,least) else some (P.length,y.1))).2):=by
     rw [hR,<- qf,kh]; simp only [Bw,A8 hx,A8 hz]; rw [if_neg ly,<- hy,<- hd]
    have tf:Az S3 iq eq I { t with fl:=Cj t.fl (Cj fq (Cj y.2 d.2)) } cc:=by
     have:=hT.frame (S':=S3) (n:=S.length) (fl':=Cj (Cj (Cj t.fl fq) y.2) d.2) (au.of fun h=>h) (fun j h1 h2=>by rw [cd j h2,bc j h2]) dm;simpa only [Fx] using this
    have hTn:Az (put S3 S.length ⟨k,ga0 y.1⟩) iq eq I { t with fl:=Cj t.fl (Cj fq (Cj y.2 d.2)) } cc:=tf.frame (n:=S.length) (au.of fun h=>h) (fun j h1 h2=>by rw [Ad aA]) (by first|exact ⟨⟩|exact tf.fa.put (fun h=>cR));by_cases h1:0<sgn d.1
    ·have k1:decide (sgn d.1 > 0)=true:=aU
     have gi:worse t.basis (sgn d.1) P.length bi=true:=by rw [hw]; simp [h1]
     rw [if_pos gi] at ie;simp (maxSteps:=10^6)+contextual(disch:=try exact dqd)only[evg1,simprocAttr,Cg,Ca,Ch,ga12,e0,e1,e5,e6,e14,e15,e16,c1,c2,c3,k1,hw2,cr,ko,n9,u9,l7,dh,du,i9,mu,g9,my,ca,mz,hc,hs,mg,cq,ew,hg1,hg2,vr,kk,jb,qe,vv,Ek,xfs,puQ,tkQ,ga1,ga5,ovQ,Ia];exact Ya0b
    have k1:decide (sgn d.1 > 0)=false:=aU
    by_cases h2:sgn d.1=0
    ·have k2:(sgn d.1 == 0)=true:=cM
     by_cases h3:bb<bk
     ·have k3:decide ((bk:Int) > (bb:Int))=true:=dN
      have gi:worse t.basis (sgn d.1) P.length bi=true:=by rw [hw]; simp [h2,h3]
      rw [if_pos gi] at ie;simp (maxSteps:=10^6)+contextual(disch:=try exact dqd)only[evg1,simprocAttr,Cg,Ca,Ch,ga12,e0,e1,e5,e6,e14,e15,e16,c1,c2,c3,k1,k2,k3,hw2,cr,ko,n9,u9,l7,dh,du,i9,mu,g9,my,ca,mz,hc,hs,mg,cq,ew,hg1,hg2,vr,kk,jb,qe,vv,Ek,xfs,puQ,tkQ,ga1,ga5,ovQ,Ia];exact Ya0b
     ·have k3:decide ((bk:Int) > (bb:Int))=false:=aB
      have gi:worse t.basis (sgn d.1) P.length bi=false:=by rw [hw]; simp [h2,h3]
      rw [gi,if_neg K2] at ie;simp (maxSteps:=10^6)+contextual(disch:=try exact dqd)only[evg1,simprocAttr,Cg,Ca,Ch,ga12,e0,e1,e5,e6,e14,e15,e16,c1,c2,c3,k1,k2,k3,hw2,cr,ko,n9,u9,l7,dh,du,i9,mu,g9,my,ca,mz,hc,hs,mg,cq,ew,hg1,hg2,vr,kk,vt,vu,jb,qe,vw,vz,ovQ2,Ek,xfs,puQ,tkQ,ga1,ga5,ovQ,Ia];exact Yaz
    ·have k2:(sgn d.1 == 0)=false:=cM
     have gi:worse t.basis (sgn d.1) P.length bi=false:=by rw [hw]; simp [h1,h2]
     rw [gi,if_neg K2] at ie;simp (maxSteps:=10^6)+contextual(disch:=try exact dqd)only[evg1,simprocAttr,Cg,Ca,Ch,ga12,e0,e1,e5,e6,e14,e15,e16,c1,c2,c3,k1,k2,hw2,cr,ko,n9,u9,l7,dh,du,i9,mu,g9,my,ca,mz,hc,hs,mg,cq,ew,hg1,hg2,vr,kk,vt,vu,vw,vz,ovQ2,Ek,xfs,puQ,tkQ,ga1,ga5,ovQ,Ia];exact Yaz
 ·have c1:decide ((P.length:Int)<(t.rows.length:Int))=false:=cZ
  have vk:U=[]:=C5.1 aA;subst vk;simp (maxSteps:=10^6)+contextual(disch:=try exact dqd)only[evg1,simprocAttr,Cg,Ca,Ch,ga12,e0,e1,e5,e6,e14,e15,e16,c1];simp only [Bw,Fk] at hR;have z8:fz3 S.length S' (Mh bst)=Mh bst:=by cases bst <;> rfl
  rw [hΦ,hR,z8];exact ⟨_,_,rfl,cQ,hT.take (au.of fun h=>h),fun j hj=>by
   by_cases io:j<S.length
   ·rw [Ey io]; exact ba j io hj
   ·rw [Ae,Ae,E9 cQ,E9 aA]⟩):p:=h
namespace QQ
theorem Akm:Ar9:=Ma9
end QQ
end
end
section
open Go Tryz
open Go.Proofs.Tryz renaming func116->ga13,ntmps116->ga14,results116->ga15
open Go.Proofs.YthelkgdmgihhiaaGreat renaming ceQ->ga0,Ap->ga1
set_option maxRecDepth 100000
namespace QQ
abbrev ua7:Nat:=116
end QQ
set_option maxHeartbeats 8000000
set_option maxRecDepth 100000
section
variable (S:List Ent) (tk:List Nat) (k iq eq:Nat)
abbrev Ar10 (p:Prop:=by exact ∀ (S:List Ent)(tk:List Nat)(k iq eq:Nat)(I:TI)(t t':Tb)(cc:Cap)(K:Nat)(b:Bool)(ai:Az S iq eq I t cc)(hK:Ht qF K t=some (b,t')),∃ r,cL prog ua7 [.ref I.it I.et 0] S tk k=some r/\Wq S tk iq eq I t' cc (.bool b) r):=p
theorem Ma10 {p:Prop} (h:p:=by
 intro S tk k iq eq I t t' cc K b ai hK;obtain ⟨Φ,hΦ⟩:∃ Φ,Φ=Wq S tk iq eq I t' cc (.bool b):=⟨_,rfl⟩;rw [<- hΦ];refine opG ga13 ga14 ?_;simp (maxSteps:=10^6)+contextual(disch:=try exact dqd)only[evg1,simprocAttr,Cg,Ca,Ch,ga15];refine Eu (P:=prog) (fun x st=>st.T.length=46/\(Ht qF x.2.2.1 x.2.2.2=some (b,t'))/\(Az x.1 iq eq I x.2.2.2 cc)/\(x.1.length=S.length)/\(∀ j,OutQ I iq j->nth x.1 j=nth S j)/\getT st.T 0=.ref I.it I.et 0/\st.S=x.1/\st.tk=tk/\st.n=x.2.1) (fun x=>x.2.2.1) (S,k,K,t) ?_ ?_;case refine_2=>exact ⟨rfl,hK,ai,rfl,fun j _=>rfl,rfl,rfl,rfl,rfl⟩
 rintro ⟨SS,n1,K1,t1⟩ ⟨T,S',tk',n'⟩ ⟨hl,eh,hT,fi,ba,e0,eS,eT,eN⟩ IH;simp only at eh hT fi ba e0 eS eT eN;subst eS eT eN;obtain ⟨g,hg,hT⟩:=Aw hl;rw [hg] at e0;subst hT;clear hg hl;have IHA:=IH;clear IH;cases K1 with
 | zero=>simp [Ht] at eh
 | succ K1 =>
 have aj:=hT.top;have co:=hT.real;have hW:=hT.bigW;have gv:=Abo S' tk' n' iq eq t1.fl hT.fa;have i7:Lv S.length S'=S':=Fa aA;unfold Ht at eh;cases ah:(qF.stop && t1.fl) with
 | true =>
  rw [ah] at eh gv;rw [if_pos rfl] at eh;simp only [A0,Cc] at eh;obtain ⟨rfl,rfl⟩:=eh;simp (maxSteps:=10^6)+contextual(disch:=try exact dqd)only[evg1,simprocAttr,Cg,Ca,Ch,ga15,e0,aj,gv,Ek,xfs,puQ];rw [hΦ,i7];exact ⟨S',n',rfl,fi,hT,ba⟩
 | false =>
 rw [ah] at eh gv;rw [if_neg K2] at eh;simp only [intA] at aj;simp (maxSteps:=10^6)+contextual(disch:=try exact dqd)only[evg1,simprocAttr,Cg,Ca,Ch,ga15,e0,aj,gv,Ek,xfs,puQ];refine Eu (P:=prog) (fun x st=>st.T.length=46/\(x.2<=t1.real)/\(colF t1.cost t1.real 0=colF t1.cost (t1.real - x.2) x.2)/\getT st.T 0=.ref I.it I.et 0/\getT st.T 3=.int (-1)/\getT st.T 14=.int (t1.real:Nat)/\getT st.T 15=.int (x.2:Nat)/\st.S=S'/\st.tk=tk'/\st.n=x.1) (fun x=>t1.real - x.2) (n',0) ?_ ?_;case refine_2=>exact ⟨rfl,Cs _,rfl,rfl,rfl,rfl,rfl,rfl,rfl,rfl⟩
 rintro ⟨n2,j⟩ ⟨T,S',tk',n'⟩ ⟨hl,hj,hc,e0,e3,e14,e15,eS,eT,eN⟩ IH;simp only at hj hc e0 e3 e14 e15 eS eT eN;subst eS eT eN;obtain ⟨g,hg,hT⟩:=Aw hl;rw [hg] at e0 e3 e14 e15;subst hT;clear hg hl;by_cases qg:j<t1.real
 ·have c1:decide ((j:Int)<(t1.real:Int))=true:=fF
  have hw:Ce.wrap ((j:Int)+1)=((j+1:Nat):Int):=aR
  have m6:j<t1.cost.length:=aA
  obtain ⟨x,hx⟩:=Ah m6;have ox:=hT.okc x (Aj hx);have i9:=Aq (ce:=ga0) ga1 hx;have hs:=Aak S' tk' n' iq eq t1.fl x ox hT.fa;have js:=hT.costE;have xk:colF t1.cost (t1.real - j) j=if sgn x<0 then some j else colF t1.cost (t1.real - (j+1)) (j+1):=by
   rw [show t1.real - j=(t1.real - (j+1))+1 by omega];simp only [colF,A8 hx]
  by_cases hneg:sgn x<0
  ·have c2:decide (sgn x<0)=true:=cD
   have c3:decide ((j:Int)<0)=false:=by simp
   rw [hc,xk,if_pos hneg] at eh;simp only at eh;obtain ⟨r,mr,S2,k2,rfl,hl2,aw,bv⟩:=Akm S' tk' (n'+ua3) iq eq I t1 cc j hT m6;obtain ⟨lv,v7⟩:∃ lv,lv=Bl qF t1 j:=⟨_,rfl⟩;rw [<- v7] at eh mr aw;obtain ⟨lb,lf⟩:=lv;cases lb with
   | none =>
    simp only [A0,Cc] at eh;obtain ⟨rfl,rfl⟩:=eh;have c4:decide ((-1:Int)<0)=true:=rfl;simp only [Mh] at mr;have wa:Lv S.length S2=S2:=Fa aA;simp (maxSteps:=10^6)+contextual(disch:=try exact dqd)only[evg1,simprocAttr,Cg,Ca,Ch,ga15,e0,e3,e14,e15,c1,c2,c3,c4,aj,js,i9,m6,hs,mr,Ek,xfs,puQ,tkQ];rw [hΦ,wa];exact ⟨S2,k2,rfl,aA,aw,fun j hj=>by rw [bv j hj]; exact ba j hj⟩
   | some bq =>
    obtain ⟨i,q⟩:=bq;simp only at eh;have xm:i<t1.rows.length:=Ahc (F:=qF) (t:=t1) (c:=j) (q:=q) (f:=lf) v7.symm;obtain ⟨r,oh,S3,k3,rfl,ef,dq,dm⟩:=Aqi S2 tk' k2 iq eq I _ cc i j aw xm m6;have c4:decide ((i:Int)<0)=false:=by simp
    simp only [Mh] at mr;have wb:Lv S'.length S3=S3:=Fa aA;simp (maxSteps:=10^6)+contextual(disch:=try exact dqd)only[evg1,simprocAttr,Cg,Ca,Ch,ga15,e0,e3,e14,e15,c1,c2,c3,c4,aj,js,i9,m6,hs,mr,oh,wb,Ek,xfs,puQ,tkQ];exact IHA (S3,k3,K1,Dz qF { t1 with fl:=Cj t1.fl lf } i j) _ aF ⟨rfl,eh,dq,aE,fun j hj=>by rw [dm j hj,bv j hj]; exact ba j hj,aZ⟩
  ·have c2:decide (sgn x<0)=false:=cD
   rw [xk,if_neg hneg] at hc;simp (maxSteps:=10^6)+contextual(disch:=try exact dqd)only[evg1,simprocAttr,Cg,Ca,Ch,ga15,e0,e3,e14,e15,c1,c2,hw,aj,js,i9,m6,hs,Ek,xfs,puQ,tkQ];exact IH (n'+ua3,j+1) _ aF ⟨rfl,aE,hc,aZ⟩
 ·have c1:decide ((j:Int)<(t1.real:Int))=false:=fF
  have c3:decide ((-1:Int)<0)=true:=rfl;have nj:t1.real - j=0:=aA
  rw [hc,nj] at eh;simp only [colF,A0,Cc] at eh;obtain ⟨rfl,rfl⟩:=eh;simp (maxSteps:=10^6)+contextual(disch:=try exact dqd)only[evg1,simprocAttr,Cg,Ca,Ch,ga15,e0,e3,e14,e15,c1,c3,aj];rw [hΦ,i7];exact ⟨S',n',rfl,fi,hT,ba⟩):p:=h
namespace QQ
theorem Aj6:Ar10:=Ma10
end QQ
end
end
section
open Go Tryz
open Go.Proofs.Tryz renaming func117->ga16,ntmps117->ga17,results117->ga18,func145->ga19,ntmps145->ga20,results145->ga21
open Go.Proofs.YthelkgdmgihhiaaGreat renaming ceQ->ga0,Ap->ga1,Bs->ga5
set_option maxRecDepth 100000
namespace QQ
abbrev ua8:Nat:=117
abbrev ua9:Nat:=145
end QQ
set_option maxHeartbeats 4000000
set_option maxRecDepth 100000
theorem Xa {basis:List Nat} {k:Nat} : ∀ {l:List (List Q)} {i j:Nat},J7 basis k i l=some j->i<=j/\j<i+l.length/\at_ 0 basis j=k
 | [],_,_,h=>by simp [J7] at h
 | r :: l,i,j,h=>by
  unfold J7 at h;split at h
  ·simp only [A0] at h; subst h; rename_i h; exact ⟨Cb _,by simp,h⟩
  ·have:=Xa h; simp only [Ck]; omega
namespace QQ
def Aoq (S:List Ent) (tk:List Nat) (iq eq:Nat) (y:Q × Bool) (r:Rs):Prop:=∃ k',r=(.agg (ceQ y.1),flS S iq eq y.2,tk,k')
end QQ
section
variable (S:List Ent) (tk:List Nat) (k iq eq:Nat)
abbrev Ar11 (p:Prop:=by exact ∀ (S:List Ent)(tk:List Nat)(k iq eq:Nat)(I:TI)(t:Tb)(cc:Cap)(hT:Az S iq eq I t cc),∃ r,cL prog ua8 [.ref I.it I.et 0] S tk k=some r/\Wq S tk iq eq I t cc (.bool (Jq t)) r):=p
theorem Ma11 {p:Prop} (h:p:=by
 intro S tk k iq eq I t cc hT;obtain ⟨Φ,hΦ⟩:∃ Φ,Φ=Wq S tk iq eq I t cc (.bool (Jq t)):=⟨_,rfl⟩;rw [<- hΦ];have aj:=hT.top;have hW:=hT.bigW;have co:=hT.real;have js:=hT.costE;obtain ⟨z,hz⟩:=Ah (show t.cost.length - 1<t.cost.length by omega);have oz:=hT.okc z (Aj hz);have mu:=Aq (ce:=ga0) ga1 hz;have hs:=Aak S tk k iq eq t.fl z oz hT.fa;have g9:Ce.wrap ((t.cost.length:Int) - 1)=((t.cost.length - 1:Nat):Int):=aT
 have my:t.cost.length - 1<t.cost.length:=aA
 refine opG ga16 ga17 ?_;simp (maxSteps:=10^6)+contextual(disch:=try exact dqd)only[evg1,simprocAttr,Cg,Ca,Ch,ga18,aj,js,mu,g9,my,hs,Ek,xfs,puQ,tkQ];rw [hΦ];exact ⟨S,_,by simp only [Jq,A8 hz]; rfl,rfl,hT,fun j _=>rfl⟩):p:=h
namespace QQ
theorem Agp:Ar11:=Ma11
end QQ
abbrev Ar12 (p:Prop:=by exact ∀ (S:List Ent)(tk:List Nat)(k iq eq:Nat)(I:TI)(t:Tb)(cc:Cap)(c:Nat)(hT:Az S iq eq I t cc),∃ r,cL prog ua9 [.ref I.it I.et 0,.int c] S tk k=some r/\Aoq S tk iq eq (B7 qF t c) r):=p
theorem Ma12 {p:Prop} (h:p:=by
 intro S tk k iq eq I t cc c hT;obtain ⟨Φ,hΦ⟩:∃ Φ,Φ=Aoq S tk iq eq (B7 qF t c):=⟨_,rfl⟩;rw [<- hΦ];have aj:=hT.top;have hM:=hT.bigM;have hW:=hT.bigW;have co:=hT.real;have au:=hT.low;obtain ⟨y,hy⟩:∃ y,y=qF.whole 0:=⟨_,rfl⟩;obtain ⟨h,hh⟩:∃ h,h=cw I.ib I.eb 1 t.rows.length:=⟨_,rfl⟩;have hlen:lenV false true h=some (.int (t.rows.length:Nat)):=by
  rw [hh];cases t.rows.length with
  | zero=>rfl
  | succ n=>rfl
 rw [<- hh] at aj;have bw:=hT.fa.app (L:=[⟨k,zeroQ⟩]);have fw:=K0 (S++[⟨k,zeroQ⟩]) tk (k+1) iq eq t.fl 0 aD bw;rw [<- hy,G3 hT.fa] at fw;have hl1:(flS S iq eq y.2).length=S.length:=Be;have hE:=Al (k:=k) (cs:=zeroQ) hl1;have th:=Al (k:=k) (cs:=ga0 y.1) hl1;have hP e e':=De (e:=e) (e':=e') hl1;have tf L:=Jh (L:=L) hl1;have htA:=Ab (L:=[⟨k,zeroQ⟩]) aj;refine opG ga19 ga20 ?_;simp (maxSteps:=10^6)+contextual(disch:=try exact dqd)only[evg1,simprocAttr,Cg,Ca,Ch,ga21,aj,htA,hlen];refine Eu (P:=prog) (fun x st=>st.T.length=44/\(t.rows=x.1++x.2)/\(J7 t.basis c 0 t.rows=J7 t.basis c x.1.length x.2)/\getT st.T 0=.ref I.it I.et 0/\getT st.T 1=.int (c:Nat)/\getT st.T 4=.ref S.length k 0/\getT st.T 10=h/\getT st.T 11=.int (t.rows.length:Nat)/\getT st.T 12=.int (x.1.length:Nat)/\st.S=S++[⟨k,zeroQ⟩]/\st.tk=tk/\st.n=k+1) (fun x=>x.2.length) (([]:List (List Q)),t.rows) ?_ ?_;case refine_2=>exact ⟨rfl,rfl,rfl,rfl,rfl,rfl,rfl,rfl,rfl,rfl,rfl,rfl⟩
 rintro ⟨P,U⟩ ⟨T,S',tk',n'⟩ ⟨hl,eg,hR,e0,e1,e4,e10,e11,e12,eS,eT,eN⟩ IH;simp only at eg hR e0 e1 e4 e10 e11 e12 eS eT eN;subst eS eT eN;obtain ⟨g,hg,hT⟩:=Aw hl;rw [hg] at e0 e1 e4 e10 e11 e12;subst hT;clear hg hl;have sk:t.rows.length=P.length+U.length:=fI
 by_cases ca:P.length<t.rows.length
 ·have c1:decide ((P.length:Int)<(t.rows.length:Int))=true:=cZ
  have cu:0<t.rows.length:=aA
  have b9:t.rows≠[]:=fun h0=>by rw [h0] at cu; simp at cu
  rw [Bh cu] at hh;subst hh;have cr:=hT.top;rw [Bh cu,Bh cu] at cr;obtain ⟨r0,U,rfl⟩:∃ r0 U',U=r0 :: U':=by
   exact Ya2t
  have vg:U.length<(r0 :: U).length:=by simp
  have hw2:Ce.wrap ((P.length:Int)+1)=(((P++[r0]).length:Nat):Int):=bR
  have kh:(P++[r0]).length=P.length+1:=by simp
  obtain ⟨bk,og⟩:=Ah (show P.length<t.basis.length by rw [hT.nb]; exact ca);have jb:nth (iK P.length (t.basis.map intA)) 0=some (.prim (.int .i64 (bk:Int))):=D0 (by rw [Ae] at og ⊢; rw [Fw,og]; rfl);have te:=Ab (L:=[⟨k,zeroQ⟩]) (hT.basisE b9);have htB:=Ab (L:=[⟨k,zeroQ⟩]) cr;by_cases hb:bk=c
  ·have c2:((bk:Int) == (c:Int))=true:=by simp [hb]
   obtain ⟨pk,gh⟩:=Ah (show P.length<I.ids.length by rw [hT.nids]; exact ca);have dh:nth (iK P.length (I.ids.map (f7 t.cost.length ua2))) 0=some (.sref pk.1 pk.2 0 t.cost.length ua2):=D0 (by rw [Ae] at gh ⊢; rw [Fw,gh]; rfl);have i8:nth t.rows P.length=some r0:=by rw [eg]; exact D8
   have dp:=hT.rowW r0 (Aj i8);have l7:=Ab (L:=[⟨k,zeroQ⟩]) (hT.rowsE b9);have du:=Ab (L:=[⟨k,zeroQ⟩]) (hT.rowE P.length pk r0 gh i8);obtain ⟨z,hz⟩:=Ah (show t.cost.length - 1<r0.length by omega);have mu:=Aq (ce:=ga0) ga1 hz;have g9:Ce.wrap ((t.cost.length:Int) - 1)=((t.cost.length - 1:Nat):Int):=aT
   have my:t.cost.length - 1<t.cost.length:=aA
   have ed:B7 qF t c=(z,false):=by
    unfold B7;rw [hR];unfold J7;rw [A8 og,if_pos hb];simp only [B1,A8 i8,A8 hz]
   have cj:entAt (S++[⟨k,ga0 z⟩]) S.length k=some (ga0 z):=Al rfl;have bc:∀ e e',put (S++[e]) S.length e'=S++[e']:=fun e e'=>De rfl;simp (maxSteps:=10^6)+contextual(disch:=try exact dqd)only[evg1,simprocAttr,Cg,Ca,Ch,ga21,e0,e1,e4,e10,e11,e12,c1,c2,htB,te,jb,l7,dh,du,mu,g9,my,ca,cj,bc,Hc,Al0,tkQ,ga1,ga5,ovQ,Ia];rw [hΦ,ed];exact ⟨_,rfl⟩
  ·have c2:((bk:Int) == (c:Int))=false:=aB
   simp (maxSteps:=10^6)+contextual(disch:=try exact dqd)only[evg1,simprocAttr,Cg,Ca,Ch,ga21,e0,e1,e4,e10,e11,e12,c1,c2,htB,te,jb,ca,hw2,Ia];exact IH (P++[r0],U) _ aF ⟨rfl,fI,by rw [hR,kh]; simp only [J7]; rw [A8 og,if_neg hb],aZ⟩
 ·have c1:decide ((P.length:Int)<(t.rows.length:Int))=false:=cZ
  have vk:U=[]:=C5.1 aA;subst vk;have ed:B7 qF t c=y:=by unfold B7; rw [hR]; simp only [J7]; exact hy.symm
  simp (maxSteps:=10^6)+contextual(disch:=try exact dqd)only[evg1,simprocAttr,Cg,Ca,Ch,ga21,e0,e1,e4,e10,e11,e12,c1,htA,fw,hE,th,hP,tf,Ek,xfs,puQ,Al0,tkQ,ga1,ga5,ovQ];rw [hΦ,ed];exact ⟨_,rfl⟩):p:=h
namespace QQ
theorem Af2:Ar12:=Ma12
end QQ
end
end
section
open Go
set_option maxRecDepth 100000
namespace QQ
theorem Eh (n:Int) (hn:i64 n):qF.ok (qF.whole n).1:=Da.whole n hn
end QQ
abbrev Ar13 (p:Prop:=by exact ∀ {S:List Ent}{iq eq:Nat}{I:TI}{t:Tb}{cc:Cap}{c:Nat}(hT:Az S iq eq I t cc),qF.ok (B7 qF t c).1):=p
theorem Ma13 {p:Prop} (h:p:=by
 intro hT;unfold B7;split
 ·rename_i i hi;have hlt:=(Xa hi).2.1;obtain ⟨r0,b9⟩:=Ah (show i<t.rows.length by omega);have dp:=hT.rowW r0 (Aj b9);have co:=hT.real;obtain ⟨z,hz⟩:=Ah (show t.cost.length - 1<r0.length by omega);simp only [B1,A8 b9,A8 hz];exact hT.okr r0 (Aj b9) z (Aj hz)
 ·exact Eh 0 aD):p:=h
namespace QQ
theorem Af0:Ar13:=fun {S iq eq I t cc c}=>Ma13
end QQ
end
section
open Go Tryz
open Go.Proofs.Tryz renaming func119->ga22,ntmps119->ga23,results119->ga24,func118->ga25,ntmps118->ga26,results118->ga27
open Go.Proofs.YthelkgdmgihhiaaGreat renaming ceQ->ga0,Ap->ga1,Bs->ga5,Ay->ga6
set_option maxRecDepth 100000
namespace QQ
abbrev ua10:Nat:=119
abbrev ua11:Nat:=3
abbrev ua12:Nat:=118
end QQ
set_option maxHeartbeats 8000000
set_option maxRecDepth 100000
namespace QQ
def Ks (l:List Q):List (List AV):=l.map fun q=>ceW (qF.rat q)
theorem Acb (l:List Q):Dv 4 (Ks l)=true:=Za15
def Ajc (S:List Ent) (iq eq:Nat) (I:TI) (t':Tb) (cc:Cap) (l:List Q) (r:Rs):Prop :=
 ∃ S' k' tk' c,r=(.frz (Ks l) c,S',tk',k')/\S'.length=S.length/\Az S' iq eq I t' cc/\∀ j,OutQ I iq j->nth S' j=nth S j
end QQ
section
variable (S:List Ent) (tk:List Nat) (k iq eq:Nat)
abbrev Ar14 (p:Prop:=by exact ∀ (S:List Ent)(tk:List Nat)(k iq eq:Nat)(I:TI)(t:Tb)(cc:Cap)(ai:Az S iq eq I t cc)(hv:2*t.vars<=t.real),∃ r,cL prog ua10 [.ref I.it I.et 0] S tk k=some r/\Ajc S iq eq I { t with fl:=Cj t.fl (Ep qF t).2 } cc (Ep qF t).1 r):=p
theorem Ma14 {p:Prop} (h:p:=by
 intro S tk k iq eq I t cc ai hv;obtain ⟨Φ,hΦ⟩:∃ Φ,Φ=Ajc S iq eq I { t with fl:=Cj t.fl (Ep qF t).2 } cc (Ep qF t).1:=⟨_,rfl⟩;rw [<- hΦ];have aj:=ai.top;have hW:=ai.bigW;have co:=ai.real;simp only [intA] at aj;refine opG ga22 ga23 ?_;simp (maxSteps:=10^6)+contextual(disch:=try exact dqd)only[evg1,simprocAttr,Cg,Ca,Ch,ga24,aj];refine Eu (P:=prog) (fun x st=>st.T.length=40/\(x.2.2.2.2.1<=t.vars)/\(Ep qF t=(x.2.2.2.2.2.1++(Ef (ptF qF t) (t.vars - x.2.2.2.2.1) x.2.2.2.2.1).1,Cj x.2.2.2.2.2.2 (Ef (ptF qF t) (t.vars - x.2.2.2.2.1) x.2.2.2.2.1).2))/\(x.2.2.2.2.2.1.length=x.2.2.2.2.1)/\(Ba x.2.2.1 x.2.2.2.1 4=true)/\(Az x.1 iq eq I { t with fl:=Cj t.fl x.2.2.2.2.2.2 } cc)/\(x.1.length=S.length)/\(∀ v,OutQ I iq v->nth x.1 v=nth S v)/\getT st.T 0=.ref I.it I.et 0/\getT st.T 3=.frz (Ks x.2.2.2.2.2.1) x.2.2.2.1/\getT st.T 8=.int (t.vars:Nat)/\getT st.T 9=.int (x.2.2.2.2.1:Nat)/\st.S=x.1/\st.tk=x.2.2.1/\st.n=x.2.1) (fun x=>t.vars - x.2.2.2.2.1) (S,k,tk,Cap.nilc,0,([]:List Q),false) ?_ ?_;case refine_2=>exact ⟨rfl,Cs _,by simp [Ep],rfl,rfl,by simp only [Fk]; exact ai,rfl,fun j _=>rfl,rfl,rfl,rfl,rfl,rfl,rfl,rfl⟩
 rintro ⟨SS,n1,tk1,cp,j,out,fq⟩ ⟨T,S',tk',n'⟩ ⟨hl,hj,hR,rz,ae,hT,fi,ba,e0,e3,e8,e9,eS,eT,eN⟩ IH;simp only at hj hR rz ae hT fi ba e0 e3 e8 e9 eS eT eN;subst eS eT eN;obtain ⟨g,hg,hT⟩:=Aw hl;rw [hg] at e0 e3 e8 e9;subst hT;clear hg hl;have i7:Lv S.length S'=S':=Fa aA;by_cases hjv:j<t.vars
 ·have c1:decide ((j:Int)<(t.vars:Int))=true:=by simpa using hjv
  have hw:Ce.wrap ((j:Int)+1)=((j+1:Nat):Int):=aR
  have hwm:Ce.wrap (2*(j:Int))=((2*j:Nat):Int):=aR
  have a0j:Ce.wrap (((2*j:Nat):Int)+1)=((2*j+1:Nat):Int):=aR
  have cr:=hT.top;obtain ⟨a,ha⟩:∃ a,a=B7 qF t (2*j):=⟨_,rfl⟩;obtain ⟨b,hb⟩:∃ b,b=B7 qF t (2*j+1):=⟨_,rfl⟩;obtain ⟨d,hd⟩:∃ d,d=qF.minus a.1 b.1:=⟨_,rfl⟩;have oa:qF.ok a.1:=by rw [ha]; exact Af0 ai
  have ob:qF.ok b.1:=by rw [hb]; exact Af0 ai
  have od:qF.ok d.1:=by rw [hd]; exact Da.minus _ _ oa ob
  obtain ⟨r,ey,k1,rfl⟩:=Af2 S' tk' n' iq eq I _ cc (2*j) hT;have ea:B7 qF { t with fl:=Cj t.fl fq } (2*j)=a:=ha.symm;rw [ea] at ey;have hg1:=D9 (c:=a.2) hT.fa;have lx:=hT.fa.fS (c:=a.2);obtain ⟨S1,de⟩:∃ S1,S1=flS S' iq eq a.2:=⟨_,rfl⟩;have fy:=hT.flag (S':=flS S' iq eq a.2) (fun j hj=>ga6 hj) lx;rw [<- de] at ey hg1 lx fy;obtain ⟨r,hcb,k2,rfl⟩:=Af2 S1 tk' k1 iq eq I _ cc (2*j+1) fy;have eb:B7 qF { t with fl:=Cj (Cj t.fl fq) a.2 } (2*j+1)=b:=hb.symm;rw [eb] at hcb;have hg2:=D9 (c:=b.2) lx;have bv:=lx.fS (c:=b.2);obtain ⟨S2,bh⟩:∃ S2,S2=flS S1 iq eq b.2:=⟨_,rfl⟩;rw [<- bh] at hcb hg2 bv;have hm:=Lu S2 tk' k2 iq eq _ a.1 b.1 oa ob bv;rw [<- hd] at hm;have hg3:=D9 (c:=d.2) bv;have dm:=bv.fS (c:=d.2);obtain ⟨S3,cz⟩:∃ S3,S3=flS S2 iq eq d.2:=⟨_,rfl⟩;rw [<- cz] at hm hg3 dm;have hr:=Ru S3 tk' (k2+ua4) iq eq _ d.1 od dm;have cd:∀ v,v≠iq->nth S3 v=nth S' v:=fun v hv=>by rw [cz,ga6 hv,bh,ga6 hv,de,ga6 hv]
  have ef:S3.length=S'.length:=by rw [cz,Be,bh,Be,de,Be]
  have a2b:entAt S1 I.it I.et=_:=fy.top;have hpt:ptF qF t j=(d.1,Cj (Cj a.2 b.2) d.2):=by rw [hd,hb,ha]; rfl
  have kq:Ef (ptF qF t) (t.vars - j) j=(d.1 :: (Ef (ptF qF t) (t.vars - (j+1)) (j+1)).1,Cj (Cj (Cj a.2 b.2) d.2) (Ef (ptF qF t) (t.vars - (j+1)) (j+1)).2):=by
   rw [show t.vars - j=(t.vars - (j+1))+1 by omega];simp only [Ef,hpt]
  have jr:=Acb out;have pb:(Ks out).length+1<=1048576:=Za3e
  have hle:Ks (out++[d.1])=Ks out++[ceW (qF.rat d.1)]:=by unfold Ks; simp
  have bp:=apB_one (y:=ceW (qF.rat d.1)) ae jr rfl pb;have ee:=B0 ae;have wc:Lv S'.length S3=S3:=Fa aA;simp (maxSteps:=10^6)+contextual(disch:=try exact dqd)only[evg1,simprocAttr,Cg,Ca,Ch,ga24,e0,e3,e8,e9,c1,hw,hwm,a0j,cr,ey,hcb,hm,hr,hg1,hg2,hg3,bp,wc,Ek,xfs,puQ,tkQ,Ao,Bc,Tu,Tv];have dq:=hT.flag (S':=S3) cd dm;exact IH (S3,k2+ua4+ua11,Eo tk' cp,A4 tk' cp 4,j+1,out++[d.1],Cj fq (Cj (Cj a.2 b.2) d.2)) _ aF ⟨rfl,aE,by rw [hR,kq]; simp only [C7,Co,Ct,Fx],by simp [rz],ee,by simpa only [Fx] using dq,aE,fun v hv=>by rw [cd v hv.1]; exact ba v hv,Za02⟩
 ·have c1:decide ((j:Int)<(t.vars:Int))=false:=by simpa using hjv
  have nj:t.vars - j=0:=aA
  rw [nj] at hR;simp only [Ef,Fu,Fk] at hR;simp (maxSteps:=10^6)+contextual(disch:=try exact dqd)only[evg1,simprocAttr,Cg,Ca,Ch,ga24,e0,e3,e8,e9,c1];rw [hΦ,hR,i7];exact ⟨S',n',tk',cp,rfl,fi,hT,ba⟩):p:=h
namespace QQ
theorem Aqk:Ar14:=Ma14
end QQ
abbrev Ar15 (p:Prop:=by exact ∀ (S:List Ent)(tk:List Nat)(k iq eq:Nat)(I:TI)(t:Tb)(cc:Cap)(ai:Az S iq eq I t cc)(hv:t.real+t.rows.length<t.cost.length),∃ r,cL prog ua12 [.ref I.it I.et 0] S tk k=some r/\Ajc S iq eq I { t with fl:=Cj t.fl (Hu qF t).2 } cc (Hu qF t).1 r):=p
theorem Ma15 {p:Prop} (h:p:=by
 intro S tk k iq eq I t cc ai hv;obtain ⟨Φ,hΦ⟩:∃ Φ,Φ=Ajc S iq eq I { t with fl:=Cj t.fl (Hu qF t).2 } cc (Hu qF t).1:=⟨_,rfl⟩;rw [<- hΦ];have aj:=ai.top;have hW:=ai.bigW;have hM:=ai.bigM;have co:=ai.real;have au:=ai.low;obtain ⟨one,bu⟩:∃ one,one=qF.whole 1:=⟨_,rfl⟩;obtain ⟨z0,hz0⟩:∃ z0,z0=qF.whole 0:=⟨_,rfl⟩;have o1:qF.ok one.1:=by rw [bu]; exact Eh 1 aD
 have o0:qF.ok z0.1:=by rw [hz0]; exact Eh 0 aD
 have hw1:=K0 S tk k iq eq t.fl 1 aD ai.fa;rw [<- bu] at hw1;have lx:=ai.fa.fS (c:=one.2);obtain ⟨S1,de⟩:∃ S1,S1=flS S iq eq one.2:=⟨_,rfl⟩;have fy:=ai.flag (S':=flS S iq eq one.2) (fun j hj=>ga6 hj) lx;have hl1:(flS S iq eq one.2).length=S.length:=Be;have cj:∀ v,v≠iq->nth (flS S iq eq one.2) v=nth S v:=fun v hv=>ga6 hv;rw [<- de] at hw1 lx fy hl1 cj;obtain ⟨h,hh⟩:∃ h,h=cw I.ir I.er 1 t.rows.length:=⟨_,rfl⟩;have hlen:lenV false true h=some (.int (t.rows.length:Nat)):=by
  rw [hh];cases t.rows.length with
  | zero=>rfl
  | succ n=>rfl
 rw [<- hh] at aj;have cr:entAt (S1++[⟨k+ua3,ga0 one.1⟩]) I.it I.et=_:=Ab fy.top;simp only at cr;rw [<- hh] at cr;refine opG ga25 ga26 ?_;simp (maxSteps:=10^6)+contextual(disch:=try exact dqd)only[evg1,simprocAttr,Cg,Ca,Ch,ga27,aj,hw1,cr,hlen,Ek,xfs,puQ,ga1,ga5,ovQ];rw [hl1];refine Eu (P:=prog) (fun x st=>st.T.length=71/\(x.2.2.2.2.1<=t.rows.length)/\(Ef (mulF qF t) t.rows.length 0=(x.2.2.2.2.2.1++(Ef (mulF qF t) (t.rows.length - x.2.2.2.2.1) x.2.2.2.2.1).1,Cj x.2.2.2.2.2.2 (Ef (mulF qF t) (t.rows.length - x.2.2.2.2.1) x.2.2.2.2.1).2))/\(x.2.2.2.2.2.1.length=x.2.2.2.2.1)/\(Ba x.2.2.1 x.2.2.2.1 4=true)/\(Az x.1 iq eq I { t with fl:=Cj (Cj t.fl one.2) x.2.2.2.2.2.2 } cc)/\(x.1.length=S.length+1)/\(∀ v,v<S.length->OutQ I iq v->nth x.1 v=nth S v)/\(entAt x.1 S.length (k+ua3)=some (ga0 one.1))/\getT st.T 0=.ref I.it I.et 0/\getT st.T 3=.frz (Ks x.2.2.2.2.2.1) x.2.2.2.1/\getT st.T 4=.ref S.length (k+ua3) 0/\getT st.T 16=.int (t.rows.length:Nat)/\getT st.T 17=.int (x.2.2.2.2.1:Nat)/\st.S=x.1/\st.tk=x.2.2.1/\st.n=x.2.1) (fun x=>t.rows.length - x.2.2.2.2.1) ((S1++[⟨k+ua3,ga0 one.1⟩]),(k+ua3+1),tk,Cap.nilc,0,([]:List Q),false) ?_ ?_;case refine_2=>exact ⟨rfl,Cs _,by simp,rfl,rfl,by simp only [Fk]; exact fy.app _,by simp [hl1],fun v hv ho=>by rw [Bq aA]; exact cj v ho.1,Al hl1,rfl,rfl,rfl,rfl,rfl,rfl,rfl,rfl⟩
 rintro ⟨SS,n1,tk1,cp,j,out,fq⟩ ⟨T,S',tk',n'⟩ ⟨hl,hj,hR,rz,ae,hT,fi,ba,wd,e0,e3,e4,e16,e17,eS,eT,eN⟩ IH;simp only at hj hR rz ae hT fi ba wd e0 e3 e4 e16 e17 eS eT eN;subst eS eT eN;obtain ⟨g,hg,hT⟩:=Aw hl;rw [hg] at e0 e3 e4 e16 e17;subst hT;clear hg hl;by_cases hjm:j<t.rows.length
 ·have c1:decide ((j:Int)<(t.rows.length:Int))=true:=by simpa using hjm
  have hw:Ce.wrap ((j:Int)+1)=((j+1:Nat):Int):=aR
  have u3:Ce.wrap ((t.real:Int)+(j:Int))=((t.real+j:Nat):Int):=aR
  have hrc:t.real+j<t.cost.length:=aA
  have htj:=hT.top;simp only [intA] at htj;have js:=hT.costE;obtain ⟨x,hx⟩:=Ah hrc;have ox:=ai.okc x (Aj hx);have i9:=Aq (ce:=ga0) ga1 hx;obtain ⟨y,hy⟩:∃ y,y=qF.minus x one.1:=⟨_,rfl⟩;have oy:qF.ok y.1:=by rw [hy]; exact Da.minus _ _ ox o1
  have cq:=Lu S' tk' n' iq eq (Cj (Cj t.fl one.2) fq) x one.1 ox o1 hT.fa;rw [<- hy] at cq;have hg1:=D9 (c:=y.2) hT.fa;have bv:=hT.fa.fS (c:=y.2);obtain ⟨S2,bh⟩:∃ S2,S2=flS S' iq eq y.2:=⟨_,rfl⟩;have aw:=hT.flag (S':=flS S' iq eq y.2) (fun j hj=>ga6 hj) bv;have hl2:(flS S' iq eq y.2).length=S'.length:=Be;have bc:∀ v,v≠iq->nth (flS S' iq eq y.2) v=nth S' v:=fun v hv=>ga6 hv;have i6:nth S2 S.length=nth S' S.length:=Za52
  rw [<- bh] at cq hg1 bv aw hl2 bc;obtain ⟨n2,qd⟩:∃ n2,n2=n'+ua4:=⟨_,rfl⟩;rw [<- qd] at cq;have we:entAt (S2++[⟨n2,ga0 y.1⟩]) S2.length n2=some (ga0 y.1):=Bz;obtain ⟨bf,yh⟩:=Ah (show j<t.flip.length by rw [ai.nf]; exact hjm);have wg:nth (t.flip.map Dn) j=some [.prim (.bool bf)]:=by rw [Ae] at yh ⊢; rw [Fw,yh]; rfl
  have m8:=aw.app [⟨n2,ga0 y.1⟩];have ko:=m8.top;simp only [intA] at ko;have jk:∀ v,mulF qF t j=v->Ef (mulF qF t) (t.rows.length - j) j=(v.1 :: (Ef (mulF qF t) (t.rows.length - (j+1)) (j+1)).1,Cj v.2 (Ef (mulF qF t) (t.rows.length - (j+1)) (j+1)).2):=by
   intro v hv;rw [show t.rows.length - j=(t.rows.length - (j+1))+1 by omega];simp only [Ef,hv]
  have jr:=Acb out;have pb:(Ks out).length+1<=1048576:=Za3e
  have ee:=B0 ae;cases bf with
  | false =>
   have yb:mulF qF t j=y:=by
    unfold mulF;rw [A8 hx,A8 yh,<- bu,<- hy]; rfl
   have hr:=Ru (S2++[⟨n2,ga0 y.1⟩]) tk' (n2+1) iq eq _ y.1 oy m8.fa;have bp:=apB_one (y:=ceW (qF.rat y.1)) ae jr rfl pb;have kr:Lv S'.length (S2++[⟨n2,ga0 y.1⟩])=S2:=by rw [<- hl2]; simp
   simp (maxSteps:=10^6)+contextual(disch:=try exact dqd)only[evg1,simprocAttr,Cg,Ca,Ch,ga27,e0,e3,e4,e16,e17,c1,hw,u3,htj,js,i9,hrc,wd,cq,hg1,we,ko,wg,hr,bp,kr,Ek,xfs,puQ,tkQ,ga1,ga5,ovQ,Ao,Bc,Tu,Tv];exact IH (S2,n2+1+ua11,Eo tk' cp,A4 tk' cp 4,j+1,out++[y.1],Cj fq y.2) _ aF ⟨rfl,aE,by rw [hR,jk y yb]; simp only [C7,Co,Ct,Fx],by simp [rz],ee,by simpa only [Fx] using aw,aE,fun v hv ho=>by rw [bc v ho.1]; exact ba v hv ho,by rw [Aa i6]; exact wd,Za02⟩
  | true =>
   obtain ⟨d,hd⟩:∃ d,d=qF.minus z0.1 y.1:=⟨_,rfl⟩;have od:qF.ok d.1:=by rw [hd]; exact Da.minus _ _ o0 oy
   have yb:mulF qF t j=(d.1,Cj y.2 (Cj z0.2 d.2)):=by
    unfold mulF;rw [A8 hx,A8 yh,<- bu,<- hy,<- hz0,hd]; rfl
   have yi:=K0 (S2++[⟨n2,ga0 y.1⟩]) tk' (n2+1) iq eq _ 0 aD m8.fa;have hg2:=D9 (c:=z0.2) m8.fa;rw [<- hz0] at yi;rw [G3 bv] at yi hg2;have dm:=bv.fS (c:=z0.2);obtain ⟨S3,cz⟩:∃ S3,S3=flS S2 iq eq z0.2:=⟨_,rfl⟩;have dq:=aw.flag (S':=flS S2 iq eq z0.2) (fun j hj=>ga6 hj) dm;have ef:(flS S2 iq eq z0.2).length=S2.length:=Be;have cd:∀ v,v≠iq->nth (flS S2 iq eq z0.2) v=nth S2 v:=fun v hv=>ga6 hv;have kn:nth S3 S.length=nth S2 S.length:=by rw [cz]; first|rfl|exact Ay cR
   rw [<- cz] at yi hg2 dm dq ef cd;have wh:=dm.app (L:=[⟨n2,ga0 y.1⟩]);have ew:=Lu (S3++[⟨n2,ga0 y.1⟩]) tk' (n2+1+ua3) iq eq _ z0.1 y.1 o0 oy wh;have hg3:=D9 (c:=d.2) wh;rw [<- hd] at ew;rw [G3 dm] at ew hg3;have hf4:=dm.fS (c:=d.2);obtain ⟨S4,hS4⟩:∃ S4,S4=flS S3 iq eq d.2:=⟨_,rfl⟩;have vn:=dq.flag (S':=flS S3 iq eq d.2) (fun j hj=>ga6 hj) hf4;have pf:(flS S3 iq eq d.2).length=S3.length:=Be;have hn4:∀ v,v≠iq->nth (flS S3 iq eq d.2) v=nth S3 v:=fun v hv=>ga6 hv;have a0k:nth S4 S.length=nth S3 S.length:=by rw [hS4]; first|rfl|exact Ay cR
   rw [<- hS4] at ew hg3 hf4 vn pf hn4;have hE3:entAt (S3++[⟨n2,ga0 y.1⟩]) S2.length n2=some (ga0 y.1):=Al ef;have m9:S4.length=S2.length:=aA
   have qh:entAt (S4++[⟨n2,ga0 y.1⟩]) S2.length n2=some (ga0 y.1):=Al m9;have qi:entAt (S4++[⟨n2,ga0 d.1⟩]) S2.length n2=some (ga0 d.1):=Al m9;have hP4 e e':=De (e:=e) (e':=e') m9;have wi:=vn.app [⟨n2,ga0 d.1⟩];have yj:=wi.top;simp only [intA] at yj;have hr:=Ru (S4++[⟨n2,ga0 d.1⟩]) tk' (n2+1+ua3+ua4) iq eq _ d.1 od wi.fa;have bp:=apB_one (y:=ceW (qF.rat d.1)) ae jr rfl pb;have kr:Lv S'.length (S4++[⟨n2,ga0 d.1⟩])=S4:=by rw [<- hl2,<- m9]; simp
   simp (maxSteps:=10^6)+contextual(disch:=try exact dqd)only[evg1,simprocAttr,Cg,Ca,Ch,ga27,e0,e3,e4,e16,e17,c1,hw,u3,htj,js,i9,hrc,wd,cq,hg1,we,ko,wg,yi,hg2,hE3,ew,hg3,qh,hP4,qi,yj,hr,bp,kr,Ek,xfs,puQ,tkQ,ga1,ga5,ovQ,ovQ2,Ao,Bc,Tu,Tv];exact IH (S4,n2+1+ua3+ua4+ua11,Eo tk' cp,A4 tk' cp 4,j+1,out++[d.1],Cj fq (Cj y.2 (Cj z0.2 d.2))) _ aF ⟨rfl,aE,by rw [hR,jk _ yb]; simp only [C7,Co,Ct,Fx],by simp [rz],ee,by simpa only [Fx] using vn,aE,fun v hv ho=>by rw [hn4 v ho.1,cd v ho.1,bc v ho.1]; exact ba v hv ho,by rw [Aa a0k,Aa kn,Aa i6]; exact wd,Za02⟩
 ·have c1:decide ((j:Int)<(t.rows.length:Int))=false:=by simpa using hjm
  have nj:t.rows.length - j=0:=aA
  rw [nj] at hR;simp only [Ef,Fu,Fk] at hR;have hmf:Hu qF t=(out,Cj one.2 fq):=by unfold Hu; rw [hR,<- bu]
  simp (maxSteps:=10^6)+contextual(disch:=try exact dqd)only[evg1,simprocAttr,Cg,Ca,Ch,ga27,e0,e3,e4,e16,e17,c1];rw [hΦ,hmf];have hT5:=hT.take (n:=S.length) (au.of fun h=>h);exact ⟨_,n',tk',cp,rfl,cQ,by simpa only [Fx] using hT5,fun v hv=>by
   by_cases io:v<S.length
   ·rw [Ey io]; exact ba v io hv
   ·rw [Ae,Ae,E9 cQ,E9 aA]⟩):p:=h
namespace QQ
theorem Yb:Ar15:=Ma15
end QQ
end
end
section
open Go Tryz
def Pn (i:Nat):List ByteArray->ByteArray->Int
 | [],_=>-1
 | x :: l,s=>if sEq x s then i else Pn (i+1) l s
theorem Alf (a b:ByteArray):sEq a b=sEq b a:=by
 unfold sEq; rw [X7,beq_iff_eq,beq_iff_eq]; exact ⟨Eq.symm,Eq.symm⟩
section
variable (S:List Ent) (tk:List Nat) (k:Nat)
theorem Yu (l:List ByteArray) (s:ByteArray) (hlen:l.length<=1000000):cL prog 68 [.frz (l.map strC) .unk,.str s] S tk k=some (.int (Pn 0 l s),S,tk,k):=by
 refine opP func68 ntmps68 (hp3:=rfl) ?_;simp (maxSteps:=10^6)+contextual(disch:=try exact dqd)only[ev1,simprocAttr,Cg,Ca,Ch,results68];refine loop1 (P:=prog) (fun x st=>st.T.length=19/\(x<=l.length)/\(Pn 0 l s=Pn x (l.drop x) s)/\getT st.T 0=.frz (l.map strC) .unk/\getT st.T 1=.str s/\getT st.T 7=.int (l.length:Nat)/\getT st.T 8=.int (x:Nat)/\st.S=[]) (fun x=>l.length - x) (fun x=>.int (Pn 0 l s)) (0) ?_ ?_;case refine_2=>exact ⟨rfl,Cs _,rfl,rfl,rfl,rfl,rfl,rfl⟩
 rintro i ⟨T,S',tk',n'⟩ ⟨hl,hi,hA,e0,e1,e7,e8,eS⟩ IH;subst eS;obtain ⟨g,hg,hT⟩:=Aw hl;rw [hg] at e0 e1 e7 e8;subst hT;clear hg hl;by_cases la:i<l.length
 ·have d1:decide ((i:Int)<(l.length:Int))=true:=bP
  obtain ⟨x,hx⟩:=Ah la;have hx':nth (l.map strC) i=some (strC x):=by rw [Er,hx]; rfl
  have hw:Ce.wrap ((i:Int)+1)=((i+1:Nat):Int):=aR
  rw [Av hx] at hA;simp only [Pn] at hA;have hcm:=Alf s x;cases hq:sEq x s <;> rw [hq] at hA hcm
  ·simp (maxSteps:=10^6)+contextual(disch:=try exact dqd)only[ev1,simprocAttr,Cg,Ca,Ch,results68,e0,e1,e7,e8,d1,hx',hw,strC,hq,hcm];exact IH (i+1) _ aF ⟨rfl,aE,by simpa using hA,rfl,rfl,rfl,rfl,rfl⟩
  ·simp (maxSteps:=10^6)+contextual(disch:=try exact dqd)only[ev1,simprocAttr,Cg,Ca,Ch,results68,e0,e1,e7,e8,d1,hx',hw,strC,hq,hcm];simpa using hA.symm
 ·have d1:decide ((i:Int)<(l.length:Int))=false:=bP
  have he:i=l.length:=aA
  simp (maxSteps:=10^6)+contextual(disch:=try exact dqd)only[ev1,simprocAttr,Cg,Ca,Ch,results68,e0,e1,e7,e8,d1];rw [hA,he,Fh]; rfl
theorem Ub (l:List ByteArray) (s:ByteArray) (hlen:l.length<=1000000):cL prog 142 [.frz (l.map strC) .unk,.str s] S tk k=some (.int (Pn 0 l s),S,tk,k):=by
 have h S tk k:=Yu S tk k l s hlen;refine opP func142 ntmps142 (hp3:=rfl) ?_;simp (maxSteps:=10^6)+contextual(disch:=try exact dqd)only[ev1,simprocAttr,Cg,Ca,Ch,results142,h]
end
theorem Qx:∀ {l:List ByteArray} {s:ByteArray} {i:Nat},s ∈ l->∃ j,j<l.length/\Pn i l s=((i+j:Nat):Int)/\nth l j=some s
 | [],_,_,h=>aM
 | x :: l,s,i,h=>by
  by_cases hx:sEq x s=true
  ·refine ⟨0,by simp,?_,?_⟩
   ·unfold Pn; rw [if_pos hx]; rfl
   ·have:x=s:=by rw [Uh] at hx; simpa using hx
    rw [this]; rfl
  ·rcases Cy.1 h with rfl|h
   ·exact absurd (by rw [Uh]; simp) hx
   ·obtain ⟨j,h1,h2,h3⟩:=Qx (i:=i+1) h;refine ⟨j+1,aU,?_,h3⟩;unfold Pn; rw [if_neg hx,h2]; congr 1; omega
def idxV (vars:List ByteArray) (s:ByteArray):Nat:=(Pn 0 vars s).toNat
theorem Mt {l:List ByteArray} {s:ByteArray} (h:s ∈ l):Pn 0 l s=((idxV l s:Nat):Int)/\idxV l s<l.length:=by
 obtain ⟨j,h1,h2,h3⟩:=Qx (i:=0) h;unfold idxV;rw [h2];exact ⟨aA,aA⟩
def setC (F:Fld) (u z:Q) (ix:Nat) (row:List Q) (n:Int):List Q × Bool :=
 (put (put row (2*ix) (F.times u (F.whole n).1).1) (2*ix+1) (F.minus z (F.times u (F.whole n).1).1).1,((F.whole n).2 || (F.times u (F.whole n).1).2) || (F.minus z (F.times u (F.whole n).1).1).2)
def coefsC (F:Fld) (u z:Q) (vars:List ByteArray):List (ByteArray × Int)->List Q->List Q × Bool
 | [],row=>(row,false)
 | c :: cs,row=>((coefsC F u z vars cs (setC F u z (idxV vars c.1) row c.2).1).1,(setC F u z (idxV vars c.1) row c.2).2 || (coefsC F u z vars cs (setC F u z (idxV vars c.1) row c.2).1).2)
def H6 (F:Fld) (real W k:Nat) (c r:Q):Q × Bool:=if k<real\/k=W - 1 then F.minus c r else (c,false)
def costL (F:Fld) (real W:Nat):Nat->List Q->List Q->List Q × Bool
 | k,c :: cs,r :: rs=>((H6 F real W k c r).1 :: (costL F real W (k+1) cs rs).1,(H6 F real W k c r).2 || (costL F real W (k+1) cs rs).2)
 | _,cs,_=>(cs,false)
def Jj (F:Fld) (flip:Bool):Q × Bool:=if flip=true then ((F.whole (-1)).1,(F.whole 1).2 || (F.whole (-1)).2) else F.whole 1
def Rb (F:Fld) (u z:Q) (n:Int):Q × Bool:=((F.minus z (F.times u (F.whole n).1).1).1,((F.whole n).2 || (F.times u (F.whole n).1).2) || (F.minus z (F.times u (F.whole n).1).1).2)
def Ng (eq:Bool) (row:List Q) (slack:Nat) (u:Q):List Q:=if eq=true then row else put row slack u
def Dt (r:RowT):Bool:=decide (0<r.2.1)
def rowF (F:Fld) (z:Q) (vars:List ByteArray) (real W i slack:Nat) (r:RowT):List Q × Bool :=
 let u:=Jj F (Dt r)
 let a:=coefsC F u.1 z vars r.1 (Cd W z)
 let y:=Rb F u.1 z r.2.1
 (put (put (Ng r.2.2 a.1 slack u.1) (real+i) (F.whole 1).1) (W - 1) y.1,((u.2 || a.2) || (F.whole 1).2) || y.2)
def begS (F:Fld) (z:Q) (vars:List ByteArray) (real W:Nat):List RowT->Nat->Nat->Tb->Tb
 | [],_,_,t=>t
 | r :: l,i,slack,t =>
  let a:=rowF F z vars real W i slack r
  let c:=costL F real W 0 t.cost a.1
  begS F z vars real W l (i+1) (if r.2.2=true then slack else slack+1) { t with rows:=t.rows++[a.1],cost:=c.1,basis:=t.basis++[real+i],flip:=t.flip++[Dt r],fl:=(t.fl || a.2) || c.2 }
def neqs:List RowT->Nat
 | []=>0
 | r :: l=>(if r.2.2=true then 0 else 1)+neqs l
def Bp (F:Fld) (l:List RowT) (vars:List ByteArray) (fl:Bool):Tb :=
 let z:=F.whole 0
 let real:=2*vars.length+neqs l
 let W:=real+l.length+1
 begS F z.1 vars real W l 0 (2*vars.length) { vars:=vars.length,real:=real,rows:=[],cost:=Cd W z.1,basis:=[],flip:=[],fl:=fl || z.2 }
end
section
open Go
open Go.Proofs.YthelkgdmgihhiaaGreat renaming ceQ->ga0
set_option maxRecDepth 100000
abbrev Ar16 (p:Prop:=by exact ∀ {S S':List Ent}{iq eq:Nat}{I:TI}{t:Tb}{c c':Cap}{ir er ib eb id nr b:Nat}{f fl':Bool}{row:List Q}(h:Az S iq eq I t c)(aj:entAt S' I.it I.et=some [.ifc ua0 (rcvQ iq eq),intA t.vars,intA t.real,.sref ir er 0 (t.rows.length+1) 1,.sref I.ic I.ec 0 t.cost.length ua2,.sref ib eb 0 (t.rows.length+1) 1,.frz ((t.flip++[f]).map Dn) c'])(gt:entAt S' ir er=some ((I.ids++[(id,nr)]).map (f7 t.cost.length ua2)))(qj:entAt S' ib eb=some ((t.basis++[b]).map intA))(bz:entAt S' id nr=some (flat ga0 row))(jr:row.length=t.cost.length)(mj:okL qF row)(ig:∀ p ∈ I.ids,nth S' p.1=nth S p.1)(wj:nth S' I.ic=nth S I.ic)(dn:FAq S' iq eq fl')(bp:Apart ⟨I.it,I.et,ir,er,I.ic,I.ec,ib,eb,I.ids++[(id,nr)]⟩ iq)(hm:t.rows.length+1<=1000000)(hb:b<t.cost.length),Az S' iq eq ⟨I.it,I.et,ir,er,I.ic,I.ec,ib,eb,I.ids++[(id,nr)]⟩ { t with rows:=t.rows++[row],basis:=t.basis++[b],flip:=t.flip++[f],fl:=fl' } c'):=p
theorem Ma16 {p:Prop} (h:p:=by
 intro h aj gt qj bz jr mj ig wj dn bp hm hb;have hlen:(t.rows++[row]).length=t.rows.length+1:=by simp
 refine ⟨?_,by simp [h.nids],fun _=>gt,fun i p r hp hr=>?_,fun r hr=>?_,?_,fun _=>qj,by simp [h.nb],by simp [h.nf],dn,bp,fun r hr=>?_,h.okc,h.bigW,by rw [hlen]; exact hm,h.real,fun x hx=>?_⟩
 ·rw [aj]; simp only [hlen,cw]
 ·rw [Ae] at hp hr;by_cases hi:i<I.ids.length
  ·rw [Cp hi,<- Ae] at hp;rw [Cp (by rw [<- h.nids]; exact hi),<- Ae] at hr;rw [Aa (ig p (Aj hp))];exact h.rowE i p r hp hr
  ·have wk:i=I.ids.length:=by
    have:=(Fq.1 hp).1;simp at this; omega
   rw [wk,C8 (Cb _),I3] at hp;rw [wk,h.nids,C8 (Cb _),I3] at hr;simp only [Iv,A0] at hp hr;subst hp; subst hr;exact bz
 ·rcases Cr.1 hr with hr|hr
  ·exact h.rowW r hr
  ·simp only [Fj] at hr; subst hr; exact jr
 ·rw [Aa wj]; exact h.costE
 ·rcases Cr.1 hr with hr|hr
  ·exact h.okr r hr
  ·simp only [Fj] at hr; subst hr; exact mj
 ·rcases Cr.1 hx with hx|hx
  ·exact h.bB x hx
  ·simp only [Fj] at hx; subst hx; exact hb):p:=h
namespace QQ
theorem Az.add:Ar16:=fun {S S' iq eq I t c c' ir er ib eb id nr b f fl' row}=>Ma16
structure E7 (S SS:List Ent) (iq eq:Nat) (I:TI) (t:Tb) (cp:Cap) (L nz n15 n16 n19:Nat) (z:Q) (r:RowT) (row:List Q) (u:Q):Prop where
 T:Az SS iq eq I t cp
 low:LowQ I iq L t
 Z:entAt SS (S.length+1) nz=some (ceQ z)
 E15:entAt SS L n15=some (rowC r)
 E16:entAt SS (L+1) n16=some (flat ceQ row)
 E19:entAt SS (L+2) n19=some (ceQ u)
 len:SS.length=L+3
 fr:∀ j,j<S.length->j≠iq->nth SS j=nth S j
 qL:iq<S.length
 SL:S.length+3<=L
 ic:I.ic=S.length+2
end QQ
section
variable {S SS S':List Ent} {iq eq:Nat} {I:TI} {t:Tb} {cp:Cap} {L nz n15 n16 n19:Nat} {z u:Q} {r:RowT} {row:List Q}
abbrev Ar17 (p:Prop:=by exact ∀ {S SS S':List Ent}{iq eq:Nat}{I:TI}{t:Tb}{cp:Cap}{L nz n15 n16 n19:Nat}{z u:Q}{r:RowT}{row:List Q}{fl':Bool}(h:E7 S SS iq eq I t cp L nz n15 n16 n19 z r row u)(hS:∀ j,j≠iq->nth S' j=nth SS j)(hl:S'.length=SS.length)(hf:FAq S' iq eq fl'),E7 S S' iq eq I { t with fl:=fl' } cp L nz n15 n16 n19 z r row u):=p
theorem Ma17 {p:Prop} (h:p:=by
 intro h hS hl hf;have hq:=h.qL;have hL:=h.SL;exact ⟨h.T.flag hS hf,h.low.of fun h=>h,by rw [Aa (hS _ aA)]; exact h.Z,by rw [Aa (hS _ aA)]; exact h.E15,by rw [Aa (hS _ aA)]; exact h.E16,by rw [Aa (hS _ aA)]; exact h.E19,by rw [hl]; exact h.len,fun j h1 h2=>by rw [hS j h2]; exact h.fr j h1 h2,hq,hL,h.ic⟩):p:=h
namespace QQ
theorem E7.flag:Ar17:=fun {S SS S' iq eq I t cp L nz n15 n16 n19 z u r row fl'}=>Ma17
end QQ
abbrev Ar18 (p:Prop:=by exact ∀ {S SS:List Ent}{iq eq:Nat}{I:TI}{t:Tb}{cp:Cap}{L nz n15 n16 n19:Nat}{z u:Q}{r:RowT}{row:List Q}(h:E7 S SS iq eq I t cp L nz n15 n16 n19 z r row u)(row':List Q),E7 S (put SS (L+1) ⟨n16,flat ga0 row'⟩) iq eq I t cp L nz n15 n16 n19 z r row' u):=p
theorem Ma18 {p:Prop} (h:p:=by
 intro h row';have hq:=h.qL;have hL:=h.SL;have hl:=h.len;have key:∀ j,j≠L+1->nth (Go.Proofs.YthelkgdmgihhiaaGreat.put SS (L+1) ⟨n16,flat ga0 row'⟩) j=nth SS j:=fun j hj=>Ad (Od hj);have hT:=h.T.frame (S':=Go.Proofs.YthelkgdmgihhiaaGreat.put SS (L+1) ⟨n16,flat ga0 row'⟩) (fl':=t.fl) h.low (fun j h1 h2=>key j aA) (h.T.fa.put aA);exact ⟨hT,h.low,Za55,Za53,Ag aA,by rw [Aa (key _ aA)]; exact h.E19,by rw [Am]; exact hl,fun j h1 h2=>Za50,hq,hL,h.ic⟩):p:=h
namespace QQ
theorem E7.put:Ar18:=fun {S SS iq eq I t cp L nz n15 n16 n19 z u r row}=>Ma18
end QQ
abbrev Ar19 (p:Prop:=by exact ∀ {S SS:List Ent}{iq eq:Nat}{I:TI}{t:Tb}{cp:Cap}{L nz n15 n16 n19:Nat}{z u:Q}{r:RowT}{row:List Q}(h:E7 S SS iq eq I t cp L nz n15 n16 n19 z r row u)(u':Q),E7 S (Go.Proofs.YthelkgdmgihhiaaGreat.put SS (L+2) ⟨n19,ga0 u'⟩) iq eq I t cp L nz n15 n16 n19 z r row u'):=p
theorem Ma19 {p:Prop} (h:p:=by
 intro h u';have hq:=h.qL;have hL:=h.SL;have hl:=h.len;have key:∀ j,j≠L+2->nth (Go.Proofs.YthelkgdmgihhiaaGreat.put SS (L+2) ⟨n19,ga0 u'⟩) j=nth SS j:=fun j hj=>Ad (Od hj);have hT:=h.T.frame (S':=Go.Proofs.YthelkgdmgihhiaaGreat.put SS (L+2) ⟨n19,ga0 u'⟩) (fl':=t.fl) h.low (fun j h1 h2=>key j aA) (h.T.fa.put aA);exact ⟨hT,h.low,Za55,Za53,by rw [Aa (key _ aA)]; exact h.E16,Ag aA,by rw [Am]; exact hl,fun j h1 h2=>Za50,hq,hL,h.ic⟩):p:=h
namespace QQ
theorem E7.unit:Ar19:=fun {S SS iq eq I t cp L nz n15 n16 n19 z u r row}=>Ma19
end QQ
abbrev Ar20 (p:Prop:=by exact ∀ {S SS:List Ent}{iq eq:Nat}{I:TI}{t:Tb}{cp:Cap}{L nz n15 n16 n19:Nat}{z u:Q}{r:RowT}{row:List Q}{k':List Q}(h:E7 S SS iq eq I t cp L nz n15 n16 n19 z r row u)(hk:k'.length=t.cost.length)(ho:okL qF k'),E7 S (Go.Proofs.YthelkgdmgihhiaaGreat.put SS I.ic ⟨I.ec,flat ga0 k'⟩) iq eq I { t with cost:=k' } cp L nz n15 n16 n19 z r row u):=p
theorem Ma20 {p:Prop} (h:p:=by
 intro h hk ho;have hq:=h.qL;have hL:=h.SL;have hl:=h.len;have hic:=h.ic;have key:∀ j,j≠I.ic->nth (Go.Proofs.YthelkgdmgihhiaaGreat.put SS I.ic ⟨I.ec,flat ga0 k'⟩) j=nth SS j:=fun j hj=>Ad (Od hj);have hT:=h.T.setCost (S':=Go.Proofs.YthelkgdmgihhiaaGreat.put SS I.ic ⟨I.ec,flat ga0 k'⟩) (fl':=t.fl) hk ho (fun j h1 h2=>key j h1) (Ag aA) (h.T.fa.put aA);exact ⟨hT,h.low.of fun h=>h,Za55,Za53,by rw [Aa (key _ aA)]; exact h.E16,by rw [Aa (key _ aA)]; exact h.E19,by rw [Am]; exact hl,fun j h1 h2=>Za50,hq,hL,h.ic⟩):p:=h
namespace QQ
theorem E7.cost:Ar20:=fun {S SS iq eq I t cp L nz n15 n16 n19 z u r row k'}=>Ma20
end QQ
end
end
section
open Go
def Mq:Code->Nat
 | .seq a _=>Mq a
 | .region id _ _=>id
 | .block _ c=>Mq c
 | .loop c=>Mq c
 | .scope c=>Mq c
 | _=>0
def Ki (n:Nat):Code->List Nat->List Kont->Option (Code × List Kont)
 | .seq a b,lv,k=>match Ki n a lv (.seq b :: k) with|some r=>some r|none=>Ki n b lv k
 | .block id c,lv,k=>Ki n c lv (.block id :: k)
 | .scope c,lv,k=>Ki n c lv k
 | .cond _ a b,lv,k=>match Ki n a lv k with|some r=>some r|none=>Ki n b lv k
 | .loop c,lv,k=>if (Mq c == n)=true then some (.loop c,k) else match lv with
  | x :: lv=>Ki n c lv (.loop c x :: k)
  | []=>none
 | _,_,_=>none
def Ahh (fn:Func) (n:Nat) (lv:List Nat):Option (Code × List Kont):=match fn.body with|some c=>Ki n c lv []|none=>none
section
variable [Globs] {P:Program} [Ext P] {fn:Func}
noncomputable def KA (P:Program) [Ext P] (fn:Func) (n:Nat) (lv:List Nat) (st:St):Option (AV × St):=match Ahh fn n lv with|some (c,k)=>RK P fn c st k|none=>none
theorem Acz {n:Nat} {lv:List Nat} {c:Code} {k:List Kont} (h:Ahh fn n lv=some (c,k)) {st:St} {fin:Option (AV × St)->Option Rs} {Φ:Rs->Prop} {t:Tag (c,k)} (hg:Gd fin Φ (KX P fn c st k t)):Gd fin Φ (KA P fn n lv st):=by unfold KA; rw [h]; exact hg
theorem Pp {n:Nat} {lv:List Nat} {c:Code} {k:List Kont} (h:Ahh fn n lv=some (c,k)) {st:St} {fin:Option (AV × St)->Option Rs} {Φ:Rs->Prop} {t:Tag (c,k)} (hg:Gd fin Φ (KA P fn n lv st)):Gd fin Φ (KX P fn c st k t):=by unfold KA at hg; rw [h] at hg; exact hg
end
theorem L4:∀ l:List RowT,neqs l<=l.length
 | []=>Cb _
 | r :: l=>by
  have:=L4 l;unfold neqs;split <;> simp only [Ck] <;> omega
theorem M2 {l:List RowT} {q:Nat} {r:RowT} (h:nth l q=some r):neqs (l.drop q)=(if r.2.2=true then 0 else 1)+neqs (l.drop (q+1)):=by
 rw [Av h]; rfl
section
variable {P:Program} {t:TypeId} {x:AV} {S:List Ent} {n:Nat}
theorem P2 {a b c d e:Nat} : lit1 1 1 [(0,.sref a b c d e)]=some (.lit 1 [.sref a b c d e]):=rfl
theorem Afc (h:apT P t=some 1) (hx:leafOk x=true):apO P t (.frz [] .nilc) (.lit 1 [x]) S n=some (.sref S.length n 0 1 1,S++[⟨n,[x]⟩],n+1):=by
 have hl:litC 1 (.lit 1 [x])=some (1,[x]):=by simp [litC,hx]
 exact Ya2e
theorem Afb {c:Cap} (h:apT P t=some 1) (hx:leafOk x=true):apO P t (.frz [] .nilc) (.frz [[x]] c) S n=some (.sref S.length n 0 1 1,S++[⟨n,[x]⟩],n+1):=by
 have hl:litC 1 (.frz [[x]] c)=some (1,[x]):=by simp [litC,hx,Dv]
 exact Ya2e
theorem Aa6 {id ep len:Nat} {cs:List AV} (h:apT P t=some 1) (hx:leafOk x=true) (hE:entAt S id ep=some cs) (hc:cs.length=len) (h0:0<len) (h1:len+1<=1048576):apO P t (.sref id ep 0 len 1) (.lit 1 [x]) S n=some (.sref id n 0 (len+1) 1,put S id ⟨n,cs++[x]⟩,n+1):=by
 have hl:litC 1 (.lit 1 [x])=some (1,[x]):=by simp [litC,hx]
 exact Ya0c
theorem Aa5 {id ep len:Nat} {cs:List AV} {c:Cap} (h:apT P t=some 1) (hx:leafOk x=true) (hE:entAt S id ep=some cs) (hc:cs.length=len) (h0:0<len) (h1:len+1<=1048576):apO P t (.sref id ep 0 len 1) (.frz [[x]] c) S n=some (.sref id n 0 (len+1) 1,put S id ⟨n,cs++[x]⟩,n+1):=by
 have hl:litC 1 (.frz [[x]] c)=some (1,[x]):=by simp [litC,hx,Dv]
 exact Ya0c
end
structure BegC (S:List Ent) (l:List RowT) (vars:List ByteArray) (iq c W:Nat):Prop where
 hl:l.length<=1000
 mf:vars.length<=1000
 hv:∀ r ∈ l,∀ c ∈ r.1,c.1 ∈ vars
 hc:∀ r ∈ l,i64 r.2.1/\∀ c ∈ r.1,i64 c.2
 ei:fewC l
 mh:iq<S.length
 sj:c=2*vars.length+neqs l
 t7:W=c+l.length+1
namespace QQ
def Aet (S:List Ent) (l:List RowT) (vars:List ByteArray) (fl:Bool) (k iq eq c W nz:Nat) (z:Q) (i:Nat) (st:St):Prop :=
 ∃ sl t1 I cp,i<=l.length/\Bp qF l vars fl=begS qF z vars c W (l.drop i) i sl t1/\Az st.S iq eq I t1 cp/\t1.rows.length=i/\t1.cost.length=W/\t1.real=c/\t1.vars=vars.length/\sl+neqs (l.drop i)=c/\Ba st.tk cp 1=true/\entAt st.S (S.length+1) nz=some (ceQ z)/\S.length+3<=st.S.length/\(∀ j,j<S.length->j≠iq->nth st.S j=nth S j)/\(I.it=S.length/\I.et=k/\I.ic=S.length+2)/\(S.length+2<I.ir/\S.length+2<I.ib/\∀ p ∈ I.ids,S.length+2<p.1) /\
  st.T.length=270/\getT st.T 0=.ifc 118 (rcvQ iq eq)/\getT st.T 1=.frz (l.map rowC) .unk/\getT st.T 2=.frz (vars.map strC) .unk/\getT st.T 7=.ref S.length k 0/\getT st.T 10=.int (sl:Nat)/\getT st.T 11=.int (W:Nat)/\getT st.T 12=.ref (S.length+1) nz 0/\getT st.T 83=.frz (l.map rowC) .unk/\getT st.T 84=.int (l.length:Nat)/\getT st.T 85=.int (i:Nat)
end QQ
end
end Go.Proofs.YthelkgdmgihhiaaGreat
