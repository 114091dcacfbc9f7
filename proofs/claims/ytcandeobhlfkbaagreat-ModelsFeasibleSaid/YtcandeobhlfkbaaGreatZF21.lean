/- Part 21. -/
import Derived.Test.YtcandeobhlfkbaaGreatZF20
open Bool renaming or->Cl,or_false->Fv,or_assoc->Fy,false_or->I1,false_ne_true->Ob
open Go.IntKind renaming i64->Cf
open Go.Proofs.YtcandeobhlfkbaaGreat.AV renaming bool->Cb,int->Cd,str->Ce
open List renaming length_cons->Ck,mem_cons->Cn,map_cons->Cp,cons_append->Cr,length_append->Cs,getElem?_append_left->Ct,length_nil->Cu,nil_append->Cw,mem_append->C4,getElem?_append_right->C6,getElem?_eq_none->C9,append_assoc->Fa,take_of_length_le->Fc,length_eq_zero_iff->Fh,map_nil->Fi,length_map->Fq,getElem?_eq_some_iff->Fu,getElem?_map->Fw,getElem?_cons_zero->F2,append_nil->F4,mem_singleton->He,map_append->Ij,length_take->Ix,length_pos_iff->Lo,take->Oc,singleton_append->O9,drop->iO
open Nat renaming le_refl->Cc,zero_le->Co,zero_add->Fg,mul_one->Ib,sub_self->I4,add_zero->M9
open Ne renaming symm->Oo
open Option.some renaming injEq->A2
open Prod.mk renaming injEq->Cg
namespace Go.Proofs.YtcandeobhlfkbaaGreat
section
open Go
open Go.Proofs.YtcandeobhlfkbaaGreat renaming ceQ->ga0
set_option maxRecDepth 100000
namespace QQ
structure A1 (S:List Ent) (iq eq:Nat) (I:TI) (t:Tb) (c:Cap):Prop where
 top:entAt S I.it I.et=some [.ifc 84 (rcvQ iq eq),intA t.vars,intA t.real,cq I.ir I.er 1 t.rows.length,.sref I.ic I.ec 0 t.cost.length 2,cq I.ib I.eb 1 t.rows.length,.frz (t.flip.map Dw) c]
 nids:I.ids.length=t.rows.length
 rowsE:t.rows≠[]->entAt S I.ir I.er=some (I.ids.map (fo t.cost.length 2))
 rowE:∀ i p r,nth I.ids i=some p->nth t.rows i=some r->entAt S p.1 p.2=some (flat ceQ r)
 rowW:∀ r ∈ t.rows,r.length=t.cost.length
 costE:entAt S I.ic I.ec=some (flat ceQ t.cost)
 basisE:t.rows≠[]->entAt S I.ib I.eb=some (t.basis.map intA)
 nb:t.basis.length=t.rows.length
 nf:t.flip.length=t.rows.length
 fa:FAq S iq eq t.fl
 ap:Apart I iq
 okr:∀ r ∈ t.rows,okL qF r
 okc:okL qF t.cost
 bigW:t.cost.length<=1000000
 bigM:t.rows.length<=1000000
 real:t.real<t.cost.length
 bB:∀ b ∈ t.basis,b<t.cost.length
end QQ
section
variable {S S':List Ent} {iq eq:Nat} {I:TI} {t:Tb} {c:Cap}
abbrev At1 (p:Prop:=by exact ∀ {S S':List Ent}{iq eq:Nat}{I:TI}{t:Tb}{c:Cap}(h:A1 S iq eq I t c){i:Nat}{p:Nat × Nat}{r0 r':List Q}{fl':Bool}(hp:nth I.ids i=some p)(hr:nth t.rows i=some r0)(hl:r'.length=t.cost.length)(ho:okL qF r')(hS:∀ j,j≠p.1->j≠iq->nth S' j=nth S j)(he:entAt S' p.1 p.2=some (flat ga0 r'))(hf:FAq S' iq eq fl'),A1 S' iq eq I { t with rows:=put t.rows i r',fl:=fl' } c):=p
theorem Ma1 {p:Prop} (h:p:=by
 intro h i p r0 r' fl' hp hr hl ho hS he hf;have a8:i<t.rows.length:=Bh hr;have ji:=h.ap.row p (Am hp);have key:∀ j e,j≠p.1->j≠iq->entAt S' j e=entAt S j e:=fun j e h1 h2=>Aa (hS j h1 h2);have hne:put t.rows i r'≠[]->t.rows≠[]:=fun hn h0=>hn (Akm.2 h0);refine ⟨?_,by rw [Aj]; exact h.nids,fun hn=>?_,fun j q r hq ab=>?_,fun r ab=>?_,?_,fun hn=>?_,Za4w,by rw [Aj]; exact h.nf,hf,h.ap,fun r ab=>?_,h.okc,h.bigW,by rw [Aj]; exact h.bigM,h.real,h.bB⟩
 ·rw [key _ _ ji.1.symm h.ap.qt.symm,Aj]; exact h.top
 ·rw [key _ _ ji.2.1.symm h.ap.qr.symm]; exact h.rowsE (hne hn)
 ·rw [K8 a8] at ab;by_cases e:j=i
  ·exact Ya1a
  ·rw [if_neg e] at ab;have hq2:=h.ap.row q (Am hq);rw [key _ _ (h.ap.rows j i q p hq hp e) hq2.2.2.2.2];exact Ya27
 ·exact Ya1j
 ·rw [key _ _ ji.2.2.1.symm h.ap.qc.symm]; exact h.costE
 ·rw [key _ _ ji.2.2.2.1.symm h.ap.qb.symm]; exact h.basisE (hne hn)
 ·rcases Bp ab with rfl|ab
  ·exact ho
  ·exact h.okr r ab):p:=h
namespace QQ
theorem A1.row:At1:=fun {S S' iq eq I t c}=>Ma1
end QQ
abbrev At2 (p:Prop:=by exact ∀ {S S':List Ent}{iq eq:Nat}{I:TI}{t:Tb}{c:Cap}(h:A1 S iq eq I t c){k':List Q}{fl':Bool}(hl:k'.length=t.cost.length)(ho:okL qF k')(hS:∀ j,j≠I.ic->j≠iq->nth S' j=nth S j)(he:entAt S' I.ic I.ec=some (flat ga0 k'))(hf:FAq S' iq eq fl'),A1 S' iq eq I { t with cost:=k',fl:=fl' } c):=p
theorem Ma2 {p:Prop} (h:p:=by
 intro h k' fl' hl ho hS he hf;have key:∀ j e,j≠I.ic->j≠iq->entAt S' j e=entAt S j e:=fun j e h1 h2=>Aa (hS j h1 h2);refine ⟨?_,h.nids,fun hn=>?_,fun j q r hq ab=>?_,fun r ab=>by rw [hl]; exact h.rowW r ab,he,fun hn=>?_,h.nb,h.nf,hf,h.ap,h.okr,ho,by rw [hl]; exact h.bigW,h.bigM,by rw [hl]; exact h.real,fun b hb=>by rw [hl]; exact h.bB b hb⟩
 ·rw [key _ _ h.ap.tc h.ap.qt.symm,hl]; exact h.top
 ·rw [key _ _ h.ap.rc h.ap.qr.symm,hl]; exact h.rowsE hn
 ·have hq2:=h.ap.row q (Am hq);rw [key _ _ hq2.2.2.1 hq2.2.2.2.2];exact Ya27
 ·rw [key _ _ h.ap.cb.symm h.ap.qb.symm]; exact h.basisE hn):p:=h
namespace QQ
theorem A1.setCost:At2:=fun {S S' iq eq I t c}=>Ma2
end QQ
abbrev At3 (p:Prop:=by exact ∀ {S:List Ent}{iq eq:Nat}{I:TI}{t:Tb}{c:Cap}(h:A1 S iq eq I t c){i b:Nat}(hn0:t.rows≠[])(hb:b<t.cost.length),A1 (put S I.ib ⟨I.eb,(put t.basis i b).map intA⟩) iq eq I { t with basis:=put t.basis i b } c):=p
theorem Ma3 {p:Prop} (h:p:=by
 intro h i b hn0 hb;have a8:=A9 (h.basisE hn0);have key:∀ j e,j≠I.ib->entAt (put S I.ib ⟨I.eb,(put t.basis i b).map intA⟩) j e=entAt S j e:=fun j e h1=>Ah (Oo h1);refine ⟨?_,h.nids,fun hn=>?_,fun j q r hq ab=>?_,h.rowW,?_,fun hn=>Ai a8,Za4w,h.nf,h.fa.put h.ap.qb.symm,h.ap,h.okr,h.okc,h.bigW,h.bigM,h.real,fun x hx=>?_⟩
 ·rw [key _ _ h.ap.tb]; exact h.top
 ·rw [key _ _ h.ap.rb]; exact h.rowsE hn
 ·have hq2:=h.ap.row q (Am hq);rw [key _ _ hq2.2.2.2.1];exact Ya27
 ·rw [key _ _ h.ap.cb]; exact h.costE
 ·rcases Bp hx with rfl|hx
  ·exact hb
  ·exact h.bB x hx):p:=h
namespace QQ
theorem A1.setBasis:At3:=fun {S iq eq I t c}=>Ma3
end QQ
abbrev At4 (p:Prop:=by exact ∀ {S S':List Ent}{iq eq:Nat}{I:TI}{t:Tb}{c:Cap}(h:A1 S iq eq I t c){fl':Bool}(hS:∀ j,j≠iq->nth S' j=nth S j)(hf:FAq S' iq eq fl'),A1 S' iq eq I { t with fl:=fl' } c):=p
theorem Ma4 {p:Prop} (h:p:=by
 intro h fl' hS hf;have key:∀ j e,j≠iq->entAt S' j e=entAt S j e:=fun j e h1=>Aa (hS j h1);refine ⟨?_,h.nids,fun hn=>?_,fun j q r hq ab=>?_,h.rowW,?_,fun hn=>?_,h.nb,h.nf,hf,h.ap,h.okr,h.okc,h.bigW,h.bigM,h.real,h.bB⟩
 ·rw [key _ _ h.ap.qt.symm]; exact h.top
 ·rw [key _ _ h.ap.qr.symm]; exact h.rowsE hn
 ·have hq2:=h.ap.row q (Am hq);rw [key _ _ hq2.2.2.2.2];exact Ya27
 ·rw [key _ _ h.ap.qc.symm]; exact h.costE
 ·rw [key _ _ h.ap.qb.symm]; exact h.basisE hn):p:=h
namespace QQ
theorem A1.flag:At4:=fun {S S' iq eq I t c}=>Ma4
end QQ
abbrev At5 (p:Prop:=by exact ∀ {S:List Ent}{iq eq:Nat}{I:TI}{t:Tb}{c:Cap}(h:A1 S iq eq I t c)(L:List Ent),A1 (S++L) iq eq I t c):=p
theorem Ma5 {p:Prop} (h:p:=by
 intro h L;exact ⟨Ac h.top,h.nids,fun hn=>Ac (h.rowsE hn),fun j q r hq hr=>Ac (h.rowE j q r hq hr),h.rowW,Ac h.costE,fun hn=>Ac (h.basisE hn),h.nb,h.nf,h.fa.app,h.ap,h.okr,h.okc,h.bigW,h.bigM,h.real,h.bB⟩):p:=h
namespace QQ
theorem A1.app:At5:=fun {S iq eq I t c}=>Ma5
structure LowQ (I:TI) (iq n:Nat) (t:Tb):Prop where
 it:I.it<n
 ic:I.ic<n
 ir:t.rows≠[]->I.ir<n
 ib:t.rows≠[]->I.ib<n
 row:∀ p ∈ I.ids,p.1<n
 iq:iq<n
theorem A1.low (h:A1 S iq eq I t c):LowQ I iq S.length t:=by
 refine ⟨A9 h.top,A9 h.costE,fun hn=>A9 (h.rowsE hn),fun hn=>A9 (h.basisE hn),fun p hp=>?_,A9 h.fa⟩;exact Yam
end QQ
abbrev At6 (p:Prop:=by exact ∀ {S:List Ent}{iq eq:Nat}{I:TI}{t:Tb}{c:Cap}(h:A1 S iq eq I t c){n:Nat}(hl:LowQ I iq n t),A1 (S.take n) iq eq I t c):=p
theorem Ma6 {p:Prop} (h:p:=by
 intro h n hl;refine ⟨by rw [D4 hl.it]; exact h.top,h.nids,fun hn=>by rw [D4 (hl.ir hn)]; exact h.rowsE hn,fun j q r hq hr=>by rw [D4 (hl.row q (Am hq))]; exact h.rowE j q r hq hr,h.rowW,by rw [D4 hl.ic]; exact h.costE,fun hn=>by rw [D4 (hl.ib hn)]; exact h.basisE hn,h.nb,h.nf,h.fa.take hl.iq,h.ap,h.okr,h.okc,h.bigW,h.bigM,h.real,h.bB⟩):p:=h
namespace QQ
theorem A1.take:At6:=fun {S iq eq I t c}=>Ma6
theorem LowQ.of {n:Nat} {t':Tb} (h:LowQ I iq n t) (hn:t'.rows≠[]->t.rows≠[]):LowQ I iq n t':=⟨h.it,h.ic,fun h'=>h.ir (hn h'),fun h'=>h.ib (hn h'),h.row,h.iq⟩
end QQ
abbrev At7 (p:Prop:=by exact ∀ {S S':List Ent}{iq eq:Nat}{I:TI}{t:Tb}{c:Cap}(h:A1 S iq eq I t c){n:Nat}{fl':Bool}(hl:LowQ I iq n t)(hS:∀ j,j<n->j≠iq->nth S' j=nth S j)(hf:FAq S' iq eq fl'),A1 S' iq eq I { t with fl:=fl' } c):=p
theorem Ma7 {p:Prop} (h:p:=by
 intro h n fl' hl hS hf;have key:∀ j e,j<n->j≠iq->entAt S' j e=entAt S j e:=fun j e h1 h2=>Aa (hS j h1 h2);refine ⟨?_,h.nids,fun hn=>?_,fun j q r hq ab=>?_,h.rowW,?_,fun hn=>?_,h.nb,h.nf,hf,h.ap,h.okr,h.okc,h.bigW,h.bigM,h.real,h.bB⟩
 ·rw [key _ _ hl.it h.ap.qt.symm]; exact h.top
 ·rw [key _ _ (hl.ir hn) h.ap.qr.symm]; exact h.rowsE hn
 ·have hq2:=h.ap.row q (Am hq);rw [key _ _ (hl.row q (Am hq)) hq2.2.2.2.2];exact Ya27
 ·rw [key _ _ hl.ic h.ap.qc.symm]; exact h.costE
 ·rw [key _ _ (hl.ib hn) h.ap.qb.symm]; exact h.basisE hn):p:=h
namespace QQ
theorem A1.frame:At7:=fun {S S' iq eq I t c}=>Ma7
end QQ
def OutQ (I:TI) (iq j:Nat):Prop:=j≠iq/\j≠I.ic/\j≠I.ib/\∀ p ∈ I.ids,j≠p.1
namespace QQ
def Yn (S:List Ent) (tk:List Nat) (iq eq:Nat) (I:TI) (t':Tb) (cc:Cap) (v:AV) (r:Rs):Prop :=
 ∃ S' k',r=(v,S',tk,k')/\S'.length=S.length/\A1 S' iq eq I t' cc/\∀ j,OutQ I iq j->nth S' j=nth S j
end QQ
end
end
section
open Go Tryz
open Go.Proofs.Tryz renaming func88->ga7,ntmps88->ga8,results88->ga9
open Go.Proofs.YtcandeobhlfkbaaGreat renaming ceQ->ga0,Av->ga1,Bs->ga5,A0->ga6
set_option maxRecDepth 100000
namespace QQ
abbrev ua5:Nat:=88
end QQ
set_option maxHeartbeats 8000000
set_option maxRecDepth 100000
theorem Adm {F:Fld} (hF:F.Keeps) {b:Q} (hb:F.ok b):∀ {l:List Q},okL F l->okL F (divL F b l).1
 | [],h=>h
 | x :: l,h=>by
  intro q hq;simp only [divL,Cn] at hq;rcases hq with rfl|hq
  ·unfold dvS;split
   ·exact h _ (by simp)
   ·exact hF.over _ _ (h _ (by simp)) hb
  ·exact Adm hF hb (fun q hq=>h q bV) q hq
theorem Pm {F:Fld} {l m:List Q} {c:Nat} : (lessT F l m c).1.length=l.length:=by
 unfold lessT;split
 ·split
  ·rfl
  ·exact Np
 ·rfl
theorem Z9 {F:Fld} (hF:F.Keeps) {l m:List Q} {c:Nat} (h:okL F l) (h':okL F m):okL F (lessT F l m c).1:=by
 unfold lessT;split
 ·rename_i b hb;split
  ·exact h
  ·exact Xa hF (h b (Am hb)) h h'
 ·exact h
section
variable (S:List Ent) (tk:List Nat) (k iq eq:Nat)
abbrev At8 (p:Prop:=by exact ∀ (S:List Ent)(tk:List Nat)(k iq eq:Nat)(I:TI)(t:Tb)(cc:Cap)(i c:Nat)(ai:A1 S iq eq I t cc)(hi:i<t.rows.length)(hc:c<t.cost.length),∃ r,cL prog ua5 [.ref I.it I.et 0,.int i,.int c] S tk k=some r/\Yn S tk iq eq I (D9 qF t i c) cc (.tup []) r):=p
theorem Ma8 {p:Prop} (h:p:=by
 intro S tk k iq eq I t cc i c ai hi hc;obtain ⟨Φ,hΦ⟩:∃ Φ,Φ=Yn S tk iq eq I (D9 qF t i c) cc (.tup []):=⟨_,rfl⟩;rw [<- hΦ];obtain ⟨row,bo⟩:=Af hi;obtain ⟨pi,jq⟩:=Af (show i<I.ids.length by rw [ai.nids]; exact hi);have jp:=ai.rowW row (Am bo);have hro:=ai.okr row (Am bo);obtain ⟨b,hb⟩:=Af (show c<row.length by omega);have ob:qF.ok b:=hro b (Am hb);have hn0:t.rows≠[]:=fun h=>by rw [h] at hi; simp at hi
 have co:0<t.rows.length:=aA
 have aj:=ai.top;rw [Bl co,Bl co] at aj;have j3:=ai.rowsE hn0;have nh:nth (iO i (I.ids.map (fo t.cost.length ua2))) 0=some (.sref pi.1 pi.2 0 t.cost.length ua2):=Eb (by rw [Ae] at jq ⊢; rw [Fw,jq]; rfl);have xh:=Aw (ce:=ga0) ga1 hb;have hre:=ai.rowE i pi row jq bo;refine opG ga7 ga8 ?_;simp (maxSteps:=10^6)+contextual(disch:=try exact dqd)only[evg1,simprocAttr,Cd,Cb,Ce,ga9,aj,j3,nh,xh,hre,hi,hc,Ib,intA,ga1,ga5,ovQ];have hW:=ai.bigW;have hM:=ai.bigM;have ar:=ai.low;have hpl:=ar.row pi (Am jq);have ji:=ai.ap.row pi (Am jq);have ot:=Aan bo;have eT:({ t with rows:=t.rows,fl:=t.fl } : Tb)=t:=rfl;refine Ga (P:=prog) (fun x st=>st.T.length=89/\(divL qF b row=(x.2.2.1++(divL qF b x.2.2.2.1).1,Cl x.2.2.2.2 (divL qF b x.2.2.2.1).2))/\(x.2.2.1.length+x.2.2.2.1.length=t.cost.length)/\(A1 x.1 iq eq I { t with rows:=put t.rows i (x.2.2.1++x.2.2.2.1),fl:=Cl t.fl x.2.2.2.2 } cc)/\(entAt x.1 S.length k=some (ga0 b))/\(x.1.length=S.length+1)/\(∀ j,j<S.length->OutQ I iq j->nth x.1 j=nth S j)/\(okL qF x.2.2.2.1)/\getT st.T 0=.ref I.it I.et 0/\getT st.T 1=.int (i:Nat)/\getT st.T 2=.int (c:Nat)/\getT st.T 6=.sref pi.1 pi.2 0 t.cost.length ua2/\getT st.T 7=.ref S.length k 0/\getT st.T 23=.int (t.cost.length:Nat)/\getT st.T 24=.int (x.2.2.1.length:Nat)/\st.S=x.1/\st.tk=tk/\st.n=x.2.1) (fun x=>x.2.2.2.1.length) ((S++[⟨k,ga0 b⟩]),(k+1),([]:List Q),row,false) ?_ ?_;case refine_2=>exact ⟨rfl,by simp,by simpa using jp,by simp only [Cw,ot,Fv]; exact ai.app _,Al rfl,by simp,fun j hj _=>Bo hj,hro,rfl,rfl,rfl,rfl,rfl,rfl,rfl,rfl,rfl,rfl⟩
 rintro ⟨SS,n1,p,u,fp⟩ ⟨T,S',tk',n'⟩ ⟨hl,hR,j1,hT,yl,ey,bc,ou,e0,e1,e2,e6,e7,e23,e24,eS,eT,eN⟩ IH;simp only at hR j1 hT yl ey bc ou e0 e1 e2 e6 e7 e23 e24 eS eT eN;subst eS eT eN;obtain ⟨g,hg,hT⟩:=Au hl;rw [hg] at e0 e1 e2 e6 e7 e23 e24;subst hT;clear hg hl;by_cases ca:p.length<t.cost.length
 ·have c1:decide ((p.length:Int)<(t.cost.length:Int))=true:=cH
  obtain ⟨a0,u,rfl⟩:∃ a0 u',u=a0 :: u':=by
   cases u with
   | nil=>simp at j1; omega
   | cons x u=>exact ⟨x,u,rfl⟩
  have oa0:=ou a0 (by simp);have sm:=Aw (ce:=ga0) ga1 (Ek (p:=p) (u:=u) (x:=a0));have vf:nth (put t.rows i (p++a0 :: u)) i=some (p++a0 :: u):=Dq hi;have he:=hT.rowE i pi _ jq vf;have cl:=hT.top;have hs:=Acm S' tk' n' iq eq (Cl t.fl fp) a0 oa0 hT.fa;have vg:u.length<(a0 :: u).length:=by simp
  have hw:Cf.wrap ((p.length:Int)+1)=(((p++[a0]).length:Nat):Int):=bS
  by_cases hz:sgn a0=0
  ·have c2:(sgn a0 != 0)=false:=bN
   have ah:dvS qF b a0=(a0,false):=by unfold dvS; rw [if_pos hz]
   simp (maxSteps:=10^6)+contextual(disch:=try exact dqd)only[evg1,simprocAttr,Cd,Cb,Ce,ga9,e0,e1,e2,e6,e7,e23,e24,c1,c2,hw,cl,he,sm,ca,hs,Eu,xfs,puQ,tkQ];exact IH (S',n'+ua3,p++[a0],u,fp) _ aF ⟨rfl,by rw [hR]; simp only [divL,ah,Fa,Cr,Cw,I1],by show (p++[a0]).length+u.length=t.cost.length; simp only [Cs,Ck,Cu] at j1 ⊢; omega,by simpa using hT,yl,ey,bc,fun q hq=>ou q bV,bA⟩
  ·have c2:(sgn a0 != 0)=true:=bN
   obtain ⟨y,hy⟩:∃ y,y=qF.over a0 b:=⟨_,rfl⟩;have oy:qF.ok y.1:=by rw [hy]; exact Dh.over _ _ oa0 ob
   have ah:dvS qF b a0=y:=by unfold dvS; rw [if_neg hz,hy]
   have qg:Cf.wrap ((p.length:Int)+1)=(((p++[y.1]).length:Nat):Int):=bS
   have cu:=Asr S' tk' (n'+ua3) iq eq (Cl t.fl fp) a0 b oa0 ob hT.fa;have hg1:=El (c:=y.2) hT.fa;rw [<- hy] at cu;obtain ⟨S2,a7⟩:∃ S2,S2=flS S' iq eq y.2:=⟨_,rfl⟩;rw [<- a7] at cu hg1;have bm:FAq S2 iq eq (Cl (Cl t.fl fp) y.2):=by rw [a7]; exact hT.fa.fS
   have hl2:S2.length=S'.length:=by rw [a7,Bj]
   have az:∀ j,j≠iq->nth S2 j=nth S' j:=fun j hj=>by rw [a7,ga6 hj]
   have iw:nth S2 S.length=nth S' S.length:=Za5h
   have he2:entAt S2 pi.1 pi.2=some (flat ga0 (p++a0 :: u)):=by rw [Aa (az _ ji.2.2.2.2)]; exact he
   have ho:=Bc (ce:=ga0) ga1 (l:=p++a0 :: u) (k:=p.length) (q':=y.1) (by simp);rw [Gu] at ho;have jx:∀ x,Oc S'.length (put S2 pi.1 x)=put S2 pi.1 x:=fun x=>Fc (by simp [Ao,hl2]);simp (maxSteps:=10^6)+contextual(disch:=try exact dqd)only[evg1,simprocAttr,Cd,Cb,Ce,ga9,e0,e1,e2,e6,e7,e23,e24,c1,c2,qg,jx,cl,he,sm,yl,ca,hs,cu,hg1,he2,ho,Eu,xfs,puQ,ga1,ga5,tkQ];have iy:Cl t.fl (Cl fp y.2)=Cl (Cl t.fl fp) y.2:=(Fy _ _ _).symm;have dk:=hT.row (S':=put S2 pi.1 ⟨pi.2,flat ga0 (p++y.1 :: u)⟩) (r':=p++y.1 :: u) (fl':=Cl (Cl t.fl fp) y.2) jq vf (by simp only [Cs,Ck] at j1 ⊢; exact j1) (fun q hq=>by
    rcases C4.1 hq with h|h
    ·exact hT.okr _ (Am vf) q cJ
    ·rcases Cn.1 h with rfl|h
     ·exact oy
     ·exact ou q cJ) (fun j h1 h2=>by rw [Ad (Oo h1),az j h2]) (Ai (A9 he2)) (bm.put ji.2.2.2.2)
   simp only [Nz] at dk;exact IH (put S2 pi.1 ⟨pi.2,flat ga0 (p++y.1 :: u)⟩,n'+ua3+Z1 b,p++[y.1],u,Cl fp y.2) _ aF ⟨rfl,by rw [hR]; simp only [divL,ah,Fa,Cr,Cw,Fy],by show (p++[y.1]).length+u.length=t.cost.length; simp only [Cs,Ck,Cu] at j1 ⊢; omega,by simp only [Fa,Cr,Cw,iy]; exact dk,by rw [Ah aE,Aa iw]; exact yl,by rw [Ao,hl2]; exact ey,fun j h1 h2=>by rw [Ad (Oo (h2.2.2.2 pi (Am jq))),az j h2.1]; exact bc j h1 h2,fun q hq=>ou q bV,bA⟩
 ·have c1:decide ((p.length:Int)<(t.cost.length:Int))=false:=cH
  have xo:u=[]:=Fh.1 aA;subst xo;simp only [divL] at hR;simp only [F4,Cu,M9,Fv] at hR j1 hT;have a0l:D9 qF t i c={ t with rows:=(lessRows qF p c i 0 (put t.rows i p)).1,cost:=(lessT qF t.cost p c).1,basis:=put t.basis i c,fl:=Cl (Cl (Cl t.fl fp) (lessRows qF p c i 0 (put t.rows i p)).2) (lessT qF t.cost p c).2 }:=by
   unfold D9 B7;rw [Ba bo,Ba hb,hR]
  have op:okL qF p:=by have:=Adm Dh ob hro; rw [hR] at this; exact this
  have j4:=hT.top;simp only [Aj] at j4;rw [Bl co,Bl co] at j4;simp (maxSteps:=10^6)+contextual(disch:=try exact dqd)only[evg1,simprocAttr,Cd,Cb,Ce,ga9,e0,e1,e2,e6,e7,e23,e24,c1,j4];refine Ga (P:=prog) (fun x st=>st.T.length=89/\(lessRows qF p c i 0 (put t.rows i p)=(x.2.2.1++(lessRows qF p c i x.2.2.1.length x.2.2.2.1).1,Cl x.2.2.2.2 (lessRows qF p c i x.2.2.1.length x.2.2.2.1).2))/\(x.2.2.1.length+x.2.2.2.1.length=t.rows.length)/\(A1 x.1 iq eq I { t with rows:=x.2.2.1++x.2.2.2.1,fl:=Cl (Cl t.fl fp) x.2.2.2.2 } cc)/\(nth (x.2.2.1++x.2.2.2.1) i=some p)/\(x.1.length=S.length+1)/\(∀ j,j<S.length->OutQ I iq j->nth x.1 j=nth S j)/\getT st.T 0=.ref I.it I.et 0/\getT st.T 1=.int (i:Nat)/\getT st.T 2=.int (c:Nat)/\getT st.T 6=.sref pi.1 pi.2 0 t.cost.length ua2/\getT st.T 58=.sref I.ir I.er 0 t.rows.length 1/\getT st.T 59=.int (t.rows.length:Nat)/\getT st.T 60=.int (x.2.2.1.length:Nat)/\st.S=x.1/\st.tk=tk'/\st.n=x.2.1) (fun x=>x.2.2.2.1.length) (S',n',([]:List (List Q)),(put t.rows i p),false) ?_ ?_;case refine_2=>exact ⟨rfl,by simp,by simp [Aj],by simp only [Cw,Fv]; exact hT,by simp only [Cw]; exact Dq hi,ey,bc,rfl,rfl,rfl,rfl,rfl,rfl,rfl,rfl,rfl,rfl⟩
  rintro ⟨SS,n1,P,U,fq⟩ ⟨T,S',tk',n'⟩ ⟨hl,eh,d9,au,cz,qh,j5,e0,e1,e2,e6,e58,e59,e60,eS,eT,eN⟩ IH;simp only at eh d9 au cz qh j5 e0 e1 e2 e6 e58 e59 e60 eS eT eN;subst eS eT eN;obtain ⟨g,hg,hT⟩:=Au hl;rw [hg] at e0 e1 e2 e6 e58 e59 e60;subst hT;clear hg hl;by_cases bz:P.length<t.rows.length
  ·have c2:decide ((P.length:Int)<(t.rows.length:Int))=true:=dC
   obtain ⟨r0,U,rfl⟩:∃ r0 U',U=r0 :: U':=by
    cases U with
    | nil=>simp at d9; omega
    | cons x u=>exact ⟨x,u,rfl⟩
   have vg:U.length<(r0 :: U).length:=by simp
   obtain ⟨pk,gc⟩:=Af (show P.length<I.ids.length by rw [ai.nids]; exact bz);have c9:nth (iO P.length (I.ids.map (fo t.cost.length ua2))) 0=some (.sref pk.1 pk.2 0 t.cost.length ua2):=Eb (by rw [Ae] at gc ⊢; rw [Fw,gc]; rfl);have i5:nth (P++r0 :: U) P.length=some r0:=Ek;have u9:P++r0 :: U≠[]:=by simp
   have vj:=au.rowsE u9;have hw2:∀ z:List Q,Cf.wrap ((P.length:Int)+1)=(((P++[z]).length:Nat):Int):=fun z=>bS
   by_cases ov:P.length=i
   ·have c3:((P.length:Int) != (i:Int))=false:=by rw [ov]; simp
    have sj:lessK qF p c i P.length r0=(r0,false):=by unfold lessK; rw [if_pos ov]
    have hw3:=hw2 r0;simp (maxSteps:=10^6)+contextual(disch:=try exact dqd)only[evg1,simprocAttr,Cd,Cb,Ce,ga9,e0,e1,e2,e6,e58,e59,e60,c2,c3,vj,c9,bz,hw3,Ib];exact IH (S',n',P++[r0],U,fq) _ aF ⟨rfl,by rw [eh]; simp only [lessRows,sj,Fa,Cr,Cw,I1,Cs,Ck,Cu,Fg],by show (P++[r0]).length+U.length=t.rows.length; simp only [Cs,Ck,Cu] at d9 ⊢; omega,by simpa using au,by simpa using cz,qh,j5,bA⟩
   ·have c3:((P.length:Int) != (i:Int))=true:=aB
    have dn:=au.rowE P.length pk r0 gc i5;have qi:=au.rowE i pi p jq cz;have di:=au.rowW r0 (Am i5);have pg:=ai.ap.row pk (Am gc);obtain ⟨r,hcall,S3,k3,rfl,d7,oc,de,b7⟩:=Ask S' tk' n' iq eq _ I.it I.et pk.1 pk.2 pi.1 pi.2 t.cost.length c _ r0 p au.top au.fa dn qi di j1 hc hW (au.okr r0 (Am i5)) op (ai.ap.rows _ _ pk pi gc jq ov) pg.1 pg.2.2.2.2 ai.ap.qt ji.2.2.2.2.symm;have sj:lessK qF p c i P.length r0=lessT qF r0 p c:=by unfold lessK; rw [if_neg ov]
    obtain ⟨z,hz⟩:∃ z,z=lessT qF r0 p c:=⟨_,rfl⟩;rw [<- hz] at oc de sj;have hw3:=hw2 z.1;have jx:Oc S'.length S3=S3:=Fc aA;simp (maxSteps:=10^6)+contextual(disch:=try exact dqd)only[evg1,simprocAttr,Cd,Cb,Ce,ga9,e0,e1,e2,e6,e58,e59,e60,c2,c3,vj,c9,bz,hw3,hcall,jx,Ib];have dk:=au.row (S':=S3) (r':=z.1) (fl':=Cl (Cl (Cl t.fl fp) fq) z.2) gc i5 (by rw [hz,Pm]; exact di) (by rw [hz]; exact Z9 Dh (au.okr r0 (Am i5)) op) b7 oc de;simp only [Gu] at dk;exact IH (S3,k3,P++[z.1],U,Cl fq z.2) _ aF ⟨rfl,by rw [eh]; simp only [lessRows,sj,Fa,Cr,Cw,Fy,Cs,Ck,Cu,Fg],by show (P++[z.1]).length+U.length=t.rows.length; simp only [Cs,Ck,Cu] at d9 ⊢; omega,by simpa [Fy] using dk,by rw [Fa,O9,<- Gu (x:=r0),K8 (by simp),if_neg (fun h=>ov h.symm)]; exact cz,by rw [d7]; exact qh,fun j h1 h2=>by rw [b7 j (h2.2.2.2 pk (Am gc)) h2.1]; exact j5 j h1 h2,bA⟩
  ·have c2:decide ((P.length:Int)<(t.rows.length:Int))=false:=dC
   have vk:U=[]:=Fh.1 aA;subst vk;simp only [lessRows] at eh;simp only [F4,Cu,M9,Fv] at eh d9 au cz;have qj:P≠[]:=fun h=>by rw [h] at d9; simp at d9; omega
   have j6:=au.top;simp only [d9] at j6;rw [Bl co,Bl co] at j6;have qi:=au.rowE i pi p jq cz;obtain ⟨r,hcall,S3,k3,rfl,d7,oc,de,b7⟩:=Ask S' tk' n' iq eq _ I.it I.et I.ic I.ec pi.1 pi.2 t.cost.length c _ t.cost p au.top au.fa au.costE qi rfl j1 hc hW ai.okc op ji.2.2.1.symm ai.ap.tc.symm ai.ap.qc.symm ai.ap.qt ji.2.2.2.2.symm;have dk:=au.setCost (S':=S3) (k':=(lessT qF t.cost p c).1) Pm (Z9 Dh ai.okc op) b7 oc de;have j7:=dk.top;simp only [d9] at j7;rw [Bl co,Bl co] at j7;have td:=dk.basisE qj;obtain ⟨b0,hb0⟩:=Af (show i<t.basis.length by rw [ai.nb]; exact hi);have jy:over (t.basis.map intA) i [.prim (.int .i64 (c:Int))]=some ((put t.basis i c).map intA):=by
    rw [<- Pp];exact Xm (w:=intA b0) (by rw [Ae] at hb0 ⊢; rw [Fw,hb0]; rfl)
   have vn:=dk.setBasis (i:=i) (b:=c) qj (by simp only [Pm]; exact hc);simp (maxSteps:=10^6)+contextual(disch:=try exact dqd)only[evg1,simprocAttr,Cd,Cb,Ce,ga9,e0,e1,e2,e6,e58,e59,e60,c2,j6,hcall,j7,td,jy,hi,Ib];rw [hΦ,a0l,eh];have vp:LowQ I iq S.length { t with rows:=P,cost:=(lessT qF t.cost p c).1,basis:=put t.basis i c,fl:=Cl (Cl (Cl t.fl fp) fq) (lessT qF t.cost p c).2 }:=ar.of fun _=>hn0;exact ⟨_,_,rfl,by rw [Ix,Ao,d7]; omega,vn.take vp,fun j hj=>by
    by_cases fu:j<S.length
    ·rw [Gc fu,Ad (Oo hj.2.2.1),b7 j hj.2.1 hj.1]; exact j5 j fu hj
    ·rw [Ae,Ae,C9 cM,C9 aA]⟩):p:=h
namespace QQ
theorem Asu:At8:=Ma8
end QQ
end
end
section
open Go Tryz
open Go.Proofs.Tryz renaming func87->ga10,ntmps87->ga11,results87->ga12
open Go.Proofs.YtcandeobhlfkbaaGreat renaming ceQ->ga0,Av->ga1,Bs->ga5,A0->ga6
set_option maxRecDepth 100000
namespace QQ
abbrev ua6:Nat:=87
end QQ
set_option maxHeartbeats 8000000
set_option maxRecDepth 100000
def M8:Option (Nat × Q)->AV
 | none=>.int (-1)
 | some (i,_)=>.int (i:Nat)
theorem L0 {F:Fld} {basis:List Nat} {c W m:Nat} : ∀ {l:List (List Q)} {k:Nat} {b:Option (Nat × Q)} {i:Nat} {q:Q} {f:Bool},k+l.length<=m->(∀ i q,b=some (i,q)->i<m)->Bv F basis c W k l b=(some (i,q),f)->i<m
 | [],k,b,i,q,f,_,hb,h=>by
  simp only [Bv,Cg] at h;exact hb i q h.1
 | r :: l,k,b,i,q,f,hl,hb,h=>by
  simp only [Ck] at hl;unfold Bv at h;split at h
  ·exact L0 aA hb h
  ·split at h
   ·simp only [Cg] at h;exact L0 (k:=k+1) (l:=l) aA (fun i q e=>by simp only [A2,Cg] at e; omega) (Prod.ext h.1 rfl)
   ·rename_i bi least;simp only [Cg] at h;refine L0 (k:=k+1) (l:=l) aA (fun i' q' e=>?_) (Prod.ext h.1 rfl);split at e
    ·simp only [A2,Cg] at e;exact hb i' least (by rw [e.1])
    ·simp only [A2,Cg] at e; omega
theorem Aju {F:Fld} {t:Tb} {c i:Nat} {q:Q} {f:Bool} (h:Bn F t c=(some (i,q),f)):i<t.rows.length :=
 L0 (k:=0) (by simp) (fun _ _ e=>by cases e) h
section
variable (S:List Ent) (tk:List Nat) (k iq eq:Nat)
abbrev At9 (p:Prop:=by exact ∀ (S:List Ent)(tk:List Nat)(k iq eq:Nat)(I:TI)(t:Tb)(cc:Cap)(c:Nat)(ai:A1 S iq eq I t cc)(hc:c<t.cost.length),∃ r,cL prog ua6 [.ref I.it I.et 0,.int c] S tk k=some r/\Yn S tk iq eq I { t with fl:=Cl t.fl (Bn qF t c).2 } cc (M8 (Bn qF t c).1) r):=p
theorem Ma9 {p:Prop} (h:p:=by
 intro S tk k iq eq I t cc c ai hc;obtain ⟨Φ,hΦ⟩:∃ Φ,Φ=Yn S tk iq eq I { t with fl:=Cl t.fl (Bn qF t c).2 } cc (M8 (Bn qF t c).1):=⟨_,rfl⟩;rw [<- hΦ];have aj:=ai.top;by_cases bw:t.rows=[]
 ·have ie:t.rows.length=0:=by rw [bw]; rfl
  rw [ie] at aj;simp only [cq] at aj;have hlv:Bn qF t c=(none,false):=by unfold Bn; rw [bw]; rfl
  refine opG ga10 ga11 ?_;have d0:decide ((0:Int)<((0:Nat):Int))=false:=rfl;simp (maxSteps:=10^6)+contextual(disch:=try exact dqd)only[evg1,simprocAttr,Cd,Cb,Ce,ga12,aj];refine Ga (P:=prog) (fun x st=>st.T.length=93/\getT st.T 5=.int (-1)/\getT st.T 15=.int ((0:Nat):Int)/\getT st.T 16=.int 0/\st.S=S++[⟨k,zeroQ⟩]/\st.tk=tk/\st.n=x) (fun x=>0) (k+1) ?_ ?_;case refine_2=>exact ⟨rfl,rfl,rfl,rfl,rfl,rfl,rfl⟩
  rintro n1 ⟨T,S',tk',n'⟩ ⟨hl,e5,e15,e16,eS,eT,eN⟩ IH;subst eS eT eN;obtain ⟨g,hg,hT⟩:=Au hl;rw [hg] at e5 e15 e16;subst hT;clear hg hl;simp (maxSteps:=10^6)+contextual(disch:=try exact dqd)only[evg1,simprocAttr,Cd,Cb,Ce,ga12,e5,e15,e16,d0,Hk];rw [hΦ,hlv];exact ⟨S,_,rfl,rfl,by simp only [Fv]; exact ai,fun j _=>rfl⟩
 have co:0<t.rows.length:=Lo.2 bw;rw [Bl co,Bl co] at aj;have j3:=ai.rowsE bw;have hW:=ai.bigW;have hM:=ai.bigM;have ar:=ai.low;have ci:=ai.real;refine opG ga10 ga11 ?_;simp (maxSteps:=10^6)+contextual(disch:=try exact dqd)only[evg1,simprocAttr,Cd,Cb,Ce,ga12,aj];refine Ga (P:=prog) (fun x st=>st.T.length=93/\(Bn qF t c=((Bv qF t.basis c t.cost.length x.2.2.1.length x.2.2.2.1 x.2.2.2.2.1).1,Cl x.2.2.2.2.2 (Bv qF t.basis c t.cost.length x.2.2.1.length x.2.2.2.1 x.2.2.2.2.1).2))/\(t.rows=x.2.2.1++x.2.2.2.1)/\(A1 x.1 iq eq I { t with fl:=Cl t.fl x.2.2.2.2.2 } cc)/\(∃ lc,entAt x.1 S.length k=some lc/\lc.length=ua2/\∀ bi q,x.2.2.2.2.1=some (bi,q)->lc=ga0 q/\bi<x.2.2.1.length/\qF.ok q)/\(x.1.length=S.length+1)/\(∀ j,j<S.length->OutQ I iq j->nth x.1 j=nth S j)/\getT st.T 0=.ref I.it I.et 0/\getT st.T 1=.int (c:Nat)/\getT st.T 5=M8 x.2.2.2.2.1/\getT st.T 6=.ref S.length k 0/\getT st.T 14=.sref I.ir I.er 0 t.rows.length 1/\getT st.T 15=.int (t.rows.length:Nat)/\getT st.T 16=.int (x.2.2.1.length:Nat)/\st.S=x.1/\st.tk=tk/\st.n=x.2.1) (fun x=>x.2.2.2.1.length) ((S++[⟨k,zeroQ⟩]),(k+1),([]:List (List Q)),t.rows,(none:Option (Nat × Q)),false) ?_ ?_;case refine_2=>exact ⟨rfl,by simp [Bn],rfl,by simp only [Fv]; exact ai.app _,⟨_,Al rfl,rfl,fun _ _ h=>aV⟩,by simp,fun j hj _=>Bo hj,rfl,rfl,rfl,rfl,rfl,rfl,rfl,rfl,rfl,rfl⟩
 rintro ⟨SS,n1,P,U,bst,fq⟩ ⟨T,S',tk',n'⟩ ⟨hl,hR,d9,hT,jl,ey,bc,e0,e1,e5,e6,e14,e15,e16,eS,eT,eN⟩ IH;simp only at hR d9 hT jl ey bc e0 e1 e5 e6 e14 e15 e16 eS eT eN;subst eS eT eN;obtain ⟨g,hg,hT⟩:=Au hl;rw [hg] at e0 e1 e5 e6 e14 e15 e16;subst hT;clear hg hl;have tv:t.rows.length=P.length+U.length:=fL
 obtain ⟨lc,hlc,vq,hlb⟩:=jl;by_cases bz:P.length<t.rows.length
 ·have c1:decide ((P.length:Int)<(t.rows.length:Int))=true:=dC
  obtain ⟨r0,U,rfl⟩:∃ r0 U',U=r0 :: U':=by
   exact Ya3d
  have vg:U.length<(r0 :: U).length:=by simp
  obtain ⟨pk,gc⟩:=Af (show P.length<I.ids.length by rw [ai.nids]; exact bz);have c9:nth (iO P.length (I.ids.map (fo t.cost.length ua2))) 0=some (.sref pk.1 pk.2 0 t.cost.length ua2):=Eb (by rw [Ae] at gc ⊢; rw [Fw,gc]; rfl);have i5:nth t.rows P.length=some r0:=by rw [d9]; exact Ek
  have di:=ai.rowW r0 (Am i5);have hro:=ai.okr r0 (Am i5);have l6:=hT.rowsE bw;have dn:=hT.rowE P.length pk r0 gc i5;have cl:=hT.top;simp only at cl;rw [Bl co,Bl co] at cl;obtain ⟨x,hx⟩:=Af (show c<r0.length by omega);obtain ⟨z,hz⟩:=Af (show t.cost.length - 1<r0.length by omega);have ox:=hro x (Am hx);have oz:=hro z (Am hz);have i6:=Aw (ce:=ga0) ga1 hx;have mj:=Aw (ce:=ga0) ga1 hz;have hs:=Acm S' tk' n' iq eq (Cl t.fl fq) x ox hT.fa;have hw2:Cf.wrap ((P.length:Int)+1)=(((P++[r0]).length:Nat):Int):=bS
  have i7:t.rows=(P++[r0])++U:=fL
  have j8:(P++[r0]).length=P.length+1:=by simp
  by_cases lu:sgn x<=0
  ·have c2:decide (sgn x<=0)=true:=by simpa using lu
   simp (maxSteps:=10^6)+contextual(disch:=try exact dqd)only[evg1,simprocAttr,Cd,Cb,Ce,ga12,e0,e1,e5,e6,e14,e15,e16,c1,c2,hw2,cl,l6,c9,dn,i6,bz,hc,hs,Eu,xfs,puQ,tkQ,Ib];exact IH (S',n'+ua3,P++[r0],U,bst,fq) _ aF ⟨rfl,by rw [hR,j8]; simp only [Bv,Ba hx]; rw [if_pos lu],i7,hT,⟨lc,hlc,vq,fun bi q h=>by obtain ⟨h1,h2,h3⟩:=hlb bi q h; exact ⟨h1,Za33,h3⟩⟩,ey,bc,bA⟩
  ·have c2:decide (sgn x<=0)=false:=by simpa using lu
   obtain ⟨y,hy⟩:∃ y,y=qF.over z x:=⟨_,rfl⟩;have oy:qF.ok y.1:=by rw [hy]; exact Dh.over _ _ oz ox
   have cu:=Asr S' tk' (n'+ua3) iq eq (Cl t.fl fq) z x oz ox hT.fa;have hg1:=El (c:=y.2) hT.fa;rw [<- hy] at cu;obtain ⟨S2,a7⟩:∃ S2,S2=flS S' iq eq y.2:=⟨_,rfl⟩;rw [<- a7] at cu hg1;have bm:FAq S2 iq eq (Cl (Cl t.fl fq) y.2):=by rw [a7]; exact hT.fa.fS
   have hl2:S2.length=S'.length:=by rw [a7,Bj]
   have az:∀ j,j≠iq->nth S2 j=nth S' j:=fun j hj=>by rw [a7,ga6 hj]
   have iw:nth S2 S.length=nth S' S.length:=Za5h
   have ml:entAt S2 S.length k=some lc:=by rw [Aa iw]; exact hlc
   have hW1:Cf.wrap ((t.cost.length:Int) - 1)=((t.cost.length - 1:Nat):Int):=aS
   have mn:t.cost.length - 1<t.cost.length:=aA
   obtain ⟨n2,qk⟩:∃ n2,n2=n'+ua3+Z1 x:=⟨_,rfl⟩;rw [<- qk] at cu;obtain ⟨E,hE⟩:∃ E:Ent,E=⟨n2,ga0 y.1⟩:=⟨_,rfl⟩;have vr:entAt (S2++[⟨n2,ga0 y.1⟩]) S2.length n2=some (ga0 y.1):=Bz;have j9:=Ac (L:=[⟨n2,ga0 y.1⟩]) ml;have a0m:over lc 0 (ga0 y.1)=some (ga0 y.1):=by
    have:=Qs (e:=lc) (r:=[]) (e':=ga0 y.1) (by rw [vq]; rfl);exact Ya15
   have hSl:S.length<S2.length:=aA
   have a0n:∀ v,Oc S'.length (put S2 S.length v++[⟨n2,ga0 y.1⟩])=put S2 S.length v:=fun v=>by rw [<- hl2,<- Ao (l:=S2) (i:=S.length) (v:=v)]; simp
   have a0o:=fun v=>Dt (L:=[⟨n2,ga0 y.1⟩]) (x:=v) hSl;cases bst with
   | none =>
    have c3:decide ((-1:Int) >= 0)=false:=rfl;simp only [M8] at e5;simp (maxSteps:=10^6)+contextual(disch:=try exact dqd)only[evg1,simprocAttr,Cd,Cb,Ce,ga12,e0,e1,e5,e6,e14,e15,e16,c1,c2,c3,hw2,cl,l6,c9,dn,i6,mj,hW1,mn,bz,hc,hs,cu,hg1,vr,j9,a0m,a0o,a0n,Eu,xfs,puQ,tkQ,ga1,ga5,ovQ,Ib];have dk:=hT.frame (S':=put S2 S.length ⟨k,ga0 y.1⟩) (n:=S.length) (fl':=Cl (Cl t.fl fq) y.2) (ar.of fun h=>h) (fun j h1 h2=>by rw [Ad aA,az j h2]) (by first|exact ⟨⟩|exact bm.put (fun h=>cU));exact IH (put S2 S.length ⟨k,ga0 y.1⟩,n2+1,P++[r0],U,some (P.length,y.1),Cl fq y.2) _ aF ⟨rfl,by rw [hR,j8]; simp only [Bv,Ba hx,Ba hz]; rw [if_neg lu,<- hy,<- Fy],i7,by simpa only [Fy] using dk,⟨_,Ai hSl,ga1 _,fun bi q h=>Za5a⟩,by rw [Ao,hl2]; exact ey,fun j h1 h2=>by rw [Ad aE,az j h2.1]; exact bc j h1 h2,bA⟩
   | some bq =>
    obtain ⟨bi,least⟩:=bq;obtain ⟨a0p,hbi,ol⟩:=hlb bi least rfl;subst a0p;have c3:decide ((bi:Int) >= 0)=true:=by simp
    simp only [M8] at e5;obtain ⟨d,hd⟩:∃ d,d=qF.minus y.1 least:=⟨_,rfl⟩;have ef:=Mg (S2++[⟨n2,ga0 y.1⟩]) tk' (n2+1) iq eq (Cl (Cl t.fl fq) y.2) y.1 least oy ol (bm.app (L:=[⟨n2,ga0 y.1⟩]));have hg2:=El (c:=d.2) (b:=Cl (Cl t.fl fq) y.2) (bm.app (L:=[⟨n2,ga0 y.1⟩]));rw [<- hd] at ef;rw [Hd bm] at ef hg2;obtain ⟨S3,cr⟩:∃ S3,S3=flS S2 iq eq d.2:=⟨_,rfl⟩;rw [<- cr] at ef hg2;have od:qF.ok d.1:=by rw [hd]; exact Dh.minus _ _ oy ol
    have de:FAq S3 iq eq (Cl (Cl (Cl t.fl fq) y.2) d.2):=by rw [cr]; exact bm.fS
    have hs3:=Acm (S3++[⟨n2,ga0 y.1⟩]) tk' (n2+1+ua4) iq eq (Cl (Cl (Cl t.fl fq) y.2) d.2) d.1 od (de.app (L:=[⟨n2,ga0 y.1⟩]));have d7:S3.length=S2.length:=by rw [cr,Bj]
    have b7:∀ j,j≠iq->nth S3 j=nth S2 j:=fun j hj=>by rw [cr,ga6 hj]
    have ka:nth S3 S.length=nth S2 S.length:=by rw [cr]; first|rfl|exact A0 cU
    have ke:entAt (S2++[⟨n2,ga0 y.1⟩]) I.it I.et=some [.ifc ua0 (rcvQ iq eq),intA t.vars,intA t.real,.sref I.ir I.er 0 t.rows.length 1,.sref I.ic I.ec 0 t.cost.length ua2,.sref I.ib I.eb 0 t.rows.length 1,.frz (t.flip.map Dw) cc]:=Ac (by rw [Aa (az _ ai.ap.qt.symm)]; exact cl);have np:entAt (S3++[⟨n2,ga0 y.1⟩]) I.it I.et=some [.ifc ua0 (rcvQ iq eq),intA t.vars,intA t.real,.sref I.ir I.er 0 t.rows.length 1,.sref I.ic I.ec 0 t.cost.length ua2,.sref I.ib I.eb 0 t.rows.length 1,.frz (t.flip.map Dw) cc]:=Ac (by rw [Aa (b7 _ ai.ap.qt.symm),Aa (az _ ai.ap.qt.symm)]; exact cl);have hb3:entAt (S3++[⟨n2,ga0 y.1⟩]) I.ib I.eb=some (t.basis.map intA):=Ac (by rw [Aa (b7 _ ai.ap.qb.symm),Aa (az _ ai.ap.qb.symm)]; exact hT.basisE bw);obtain ⟨bk,oe⟩:=Af (show P.length<t.basis.length by rw [ai.nb]; exact bz);obtain ⟨bb,hbb⟩:=Af (show bi<t.basis.length by rw [ai.nb]; omega);have i8:nth (iO P.length (t.basis.map intA)) 0=some (.prim (.int .i64 (bk:Int))):=Eb (by rw [Ae] at oe ⊢; rw [Fw,oe]; rfl);have ql:nth (iO bi (t.basis.map intA)) 0=some (.prim (.int .i64 (bb:Int))):=Eb (by rw [Ae] at hbb ⊢; rw [Fw,hbb]; rfl);have mo:bi<t.rows.length:=aA
    have vt:entAt (S3++[⟨n2,ga0 y.1⟩]) S2.length n2=some (ga0 y.1):=Al d7;have vu:entAt (S3++[⟨n2,ga0 y.1⟩]) S.length k=some (ga0 least):=Ac Za4j;have vv:Oc S'.length (S3++[⟨n2,ga0 y.1⟩])=S3:=by rw [<- hl2,<- d7]; simp
    have vw:∀ v,Oc S'.length (put S3 S.length v++[⟨n2,ga0 y.1⟩])=put S3 S.length v:=fun v=>by rw [<- hl2,<- d7,<- Ao (l:=S3) (i:=S.length) (v:=v)]; simp
    have vz:=fun v=>Dt (L:=[⟨n2,ga0 y.1⟩]) (x:=v) (show S.length<S3.length by omega);have hw:worse t.basis (sgn d.1) P.length bi=(decide (0<sgn d.1) || (sgn d.1 == 0 && decide (bb<bk))):=by unfold worse; rw [Ba oe,Ba hbb]
    have qo:Cl fq (Cl (Cl y.2 d.2) (Bv qF t.basis c t.cost.length (P++[r0]).length U (if worse t.basis (sgn d.1) P.length bi=true then some (bi,least) else some (P.length,y.1))).2)=Cl (Cl fq (Cl y.2 d.2)) (Bv qF t.basis c t.cost.length (P++[r0]).length U (if worse t.basis (sgn d.1) P.length bi=true then some (bi,least) else some (P.length,y.1))).2:=(Fy _ _ _).symm;have gd:Bn qF t c=((Bv qF t.basis c t.cost.length (P++[r0]).length U (if worse t.basis (sgn d.1) P.length bi=true then some (bi,least) else some (P.length,y.1))).1,Cl (Cl fq (Cl y.2 d.2)) (Bv qF t.basis c t.cost.length (P++[r0]).length U (if worse t.basis (sgn d.1) P.length bi=true then some (bi,least) else some (P.length,y.1))).2):=by
     rw [hR,<- qo,j8]; simp only [Bv,Ba hx,Ba hz]; rw [if_neg lu,<- hy,<- hd]
    have te:A1 S3 iq eq I { t with fl:=Cl t.fl (Cl fq (Cl y.2 d.2)) } cc:=by
     have:=hT.frame (S':=S3) (n:=S.length) (fl':=Cl (Cl (Cl t.fl fq) y.2) d.2) (ar.of fun h=>h) (fun j h1 h2=>by rw [b7 j h2,az j h2]) de;simpa only [Fy] using this
    have hTn:A1 (put S3 S.length ⟨k,ga0 y.1⟩) iq eq I { t with fl:=Cl t.fl (Cl fq (Cl y.2 d.2)) } cc:=te.frame (n:=S.length) (ar.of fun h=>h) (fun j h1 h2=>by rw [Ad aA]) (by first|exact ⟨⟩|exact te.fa.put (fun h=>cU));by_cases h1:0<sgn d.1
    ·have k1:decide (sgn d.1 > 0)=true:=aR
     have gg:worse t.basis (sgn d.1) P.length bi=true:=by rw [hw]; simp [h1]
     rw [if_pos gg] at gd;simp (maxSteps:=10^6)+contextual(disch:=try exact dqd)only[evg1,simprocAttr,Cd,Cb,Ce,ga12,e0,e1,e5,e6,e14,e15,e16,c1,c2,c3,k1,hw2,cl,ke,np,hb3,l6,c9,dn,i6,mj,hW1,mn,bz,mo,hc,hs,hs3,cu,ef,hg1,hg2,vr,j9,i8,ql,vv,Eu,xfs,puQ,tkQ,ga1,ga5,ovQ,Ib];exact Ya0k
    have k1:decide (sgn d.1 > 0)=false:=aR
    by_cases h2:sgn d.1=0
    ·have k2:(sgn d.1 == 0)=true:=bR
     by_cases h3:bb<bk
     ·have k3:decide ((bk:Int) > (bb:Int))=true:=fD
      have gg:worse t.basis (sgn d.1) P.length bi=true:=by rw [hw]; simp [h2,h3]
      rw [if_pos gg] at gd;simp (maxSteps:=10^6)+contextual(disch:=try exact dqd)only[evg1,simprocAttr,Cd,Cb,Ce,ga12,e0,e1,e5,e6,e14,e15,e16,c1,c2,c3,k1,k2,k3,hw2,cl,ke,np,hb3,l6,c9,dn,i6,mj,hW1,mn,bz,mo,hc,hs,hs3,cu,ef,hg1,hg2,vr,j9,i8,ql,vv,Eu,xfs,puQ,tkQ,ga1,ga5,ovQ,Ib];exact Ya0k
     ·have k3:decide ((bk:Int) > (bb:Int))=false:=aB
      have gg:worse t.basis (sgn d.1) P.length bi=false:=by rw [hw]; simp [h2,h3]
      rw [gg,if_neg Ob] at gd;simp (maxSteps:=10^6)+contextual(disch:=try exact dqd)only[evg1,simprocAttr,Cd,Cb,Ce,ga12,e0,e1,e5,e6,e14,e15,e16,c1,c2,c3,k1,k2,k3,hw2,cl,ke,np,hb3,l6,c9,dn,i6,mj,hW1,mn,bz,mo,hc,hs,hs3,cu,ef,hg1,hg2,vr,j9,vt,vu,i8,ql,vw,vz,ovQ2,Eu,xfs,puQ,tkQ,ga1,ga5,ovQ,Ib];exact Ya06
    ·have k2:(sgn d.1 == 0)=false:=bR
     have gg:worse t.basis (sgn d.1) P.length bi=false:=by rw [hw]; simp [h1,h2]
     rw [gg,if_neg Ob] at gd;simp (maxSteps:=10^6)+contextual(disch:=try exact dqd)only[evg1,simprocAttr,Cd,Cb,Ce,ga12,e0,e1,e5,e6,e14,e15,e16,c1,c2,c3,k1,k2,hw2,cl,ke,np,hb3,l6,c9,dn,i6,mj,hW1,mn,bz,mo,hc,hs,hs3,cu,ef,hg1,hg2,vr,j9,vt,vu,vw,vz,ovQ2,Eu,xfs,puQ,tkQ,ga1,ga5,ovQ,Ib];exact Ya06
 ·have c1:decide ((P.length:Int)<(t.rows.length:Int))=false:=dC
  have vk:U=[]:=Fh.1 aA;subst vk;simp (maxSteps:=10^6)+contextual(disch:=try exact dqd)only[evg1,simprocAttr,Cd,Cb,Ce,ga12,e0,e1,e5,e6,e14,e15,e16,c1];simp only [Bv,Fv] at hR;have hfz:fz3 S.length S' (M8 bst)=M8 bst:=by cases bst <;> rfl
  rw [hΦ,hR,hfz];exact ⟨_,_,rfl,cM,hT.take (ar.of fun h=>h),fun j hj=>by
   by_cases fu:j<S.length
   ·rw [Gc fu]; exact bc j fu hj
   ·rw [Ae,Ae,C9 cM,C9 aA]⟩):p:=h
namespace QQ
theorem Am5:At9:=Ma9
end QQ
end
end
section
open Go Tryz
open Go.Proofs.Tryz renaming func62->ga13,ntmps62->ga14,results62->ga15
open Go.Proofs.YtcandeobhlfkbaaGreat renaming ceQ->ga0,Av->ga1
set_option maxRecDepth 100000
namespace QQ
abbrev ua7:Nat:=62
end QQ
set_option maxHeartbeats 8000000
set_option maxRecDepth 100000
section
variable (S:List Ent) (tk:List Nat) (k iq eq:Nat)
abbrev At10 (p:Prop:=by exact ∀ (S:List Ent)(tk:List Nat)(k iq eq:Nat)(I:TI)(t t':Tb)(cc:Cap)(K:Nat)(b:Bool)(ai:A1 S iq eq I t cc)(hK:H2 qF K t=some (b,t')),∃ r,cL prog ua7 [.ref I.it I.et 0] S tk k=some r/\Yn S tk iq eq I t' cc (.bool b) r):=p
theorem Ma10 {p:Prop} (h:p:=by
 intro S tk k iq eq I t t' cc K b ai hK;obtain ⟨Φ,hΦ⟩:∃ Φ,Φ=Yn S tk iq eq I t' cc (.bool b):=⟨_,rfl⟩;rw [<- hΦ];refine opG ga13 ga14 ?_;simp (maxSteps:=10^6)+contextual(disch:=try exact dqd)only[evg1,simprocAttr,Cd,Cb,Ce,ga15];refine Ga (P:=prog) (fun x st=>st.T.length=46/\(H2 qF x.2.2.1 x.2.2.2=some (b,t'))/\(A1 x.1 iq eq I x.2.2.2 cc)/\(x.1.length=S.length)/\(∀ j,OutQ I iq j->nth x.1 j=nth S j)/\getT st.T 0=.ref I.it I.et 0/\st.S=x.1/\st.tk=tk/\st.n=x.2.1) (fun x=>x.2.2.1) (S,k,K,t) ?_ ?_;case refine_2=>exact ⟨rfl,hK,ai,rfl,fun j _=>rfl,rfl,rfl,rfl,rfl⟩
 rintro ⟨SS,n1,K1,t1⟩ ⟨T,S',tk',n'⟩ ⟨hl,hK1,hT,ey,bc,e0,eS,eT,eN⟩ IH;simp only at hK1 hT ey bc e0 eS eT eN;subst eS eT eN;obtain ⟨g,hg,hT⟩:=Au hl;rw [hg] at e0;subst hT;clear hg hl;have IHA:=IH;clear IH;cases K1 with
 | zero=>simp [H2] at hK1
 | succ K1 =>
 have aj:=hT.top;have ci:=hT.real;have hW:=hT.bigW;have gn:=Adt S' tk' n' iq eq t1.fl hT.fa;have iy:Oc S.length S'=S':=Fc aA;unfold H2 at hK1;cases ah:(qF.stop && t1.fl) with
 | true =>
  rw [ah] at hK1 gn;rw [if_pos rfl] at hK1;simp only [A2,Cg] at hK1;obtain ⟨rfl,rfl⟩:=hK1;simp (maxSteps:=10^6)+contextual(disch:=try exact dqd)only[evg1,simprocAttr,Cd,Cb,Ce,ga15,e0,aj,gn,Eu,xfs,puQ];rw [hΦ,iy];exact ⟨S',n',rfl,ey,hT,bc⟩
 | false =>
 rw [ah] at hK1 gn;rw [if_neg Ob] at hK1;simp only [intA] at aj;simp (maxSteps:=10^6)+contextual(disch:=try exact dqd)only[evg1,simprocAttr,Cd,Cb,Ce,ga15,e0,aj,gn,Eu,xfs,puQ];refine Ga (P:=prog) (fun x st=>st.T.length=46/\(x.2<=t1.real)/\(colF t1.cost t1.real 0=colF t1.cost (t1.real - x.2) x.2)/\getT st.T 0=.ref I.it I.et 0/\getT st.T 3=.int (-1)/\getT st.T 14=.int (t1.real:Nat)/\getT st.T 15=.int (x.2:Nat)/\st.S=S'/\st.tk=tk'/\st.n=x.1) (fun x=>t1.real - x.2) (n',0) ?_ ?_;case refine_2=>exact ⟨rfl,Co _,rfl,rfl,rfl,rfl,rfl,rfl,rfl,rfl⟩
 rintro ⟨n2,j⟩ ⟨T,S',tk',n'⟩ ⟨hl,hj,hc,e0,e3,e14,e15,eS,eT,eN⟩ IH;simp only at hj hc e0 e3 e14 e15 eS eT eN;subst eS eT eN;obtain ⟨g,hg,hT⟩:=Au hl;rw [hg] at e0 e3 e14 e15;subst hT;clear hg hl;by_cases qp:j<t1.real
 ·have c1:decide ((j:Int)<(t1.real:Int))=true:=fJ
  have hw:Cf.wrap ((j:Int)+1)=((j+1:Nat):Int):=aU
  have mq:j<t1.cost.length:=aA
  obtain ⟨x,hx⟩:=Af mq;have ox:=hT.okc x (Am hx);have i6:=Aw (ce:=ga0) ga1 hx;have hs:=Acm S' tk' n' iq eq t1.fl x ox hT.fa;have jr:=hT.costE;have xl:colF t1.cost (t1.real - j) j=if sgn x<0 then some j else colF t1.cost (t1.real - (j+1)) (j+1):=by
   rw [show t1.real - j=(t1.real - (j+1))+1 by omega];simp only [colF,Ba hx]
  by_cases hneg:sgn x<0
  ·have c2:decide (sgn x<0)=true:=cD
   have c3:decide ((j:Int)<0)=false:=by simp
   rw [hc,xl,if_pos hneg] at hK1;simp only at hK1;obtain ⟨r,hlv,S2,k2,rfl,hl2,au,bm⟩:=Am5 S' tk' (n'+ua3) iq eq I t1 cc j hT mq;obtain ⟨lv,wa⟩:∃ lv,lv=Bn qF t1 j:=⟨_,rfl⟩;rw [<- wa] at hK1 hlv au;obtain ⟨lb,lf⟩:=lv;cases lb with
   | none =>
    simp only [A2,Cg] at hK1;obtain ⟨rfl,rfl⟩:=hK1;have c4:decide ((-1:Int)<0)=true:=rfl;simp only [M8] at hlv;have wb:Oc S.length S2=S2:=Fc aA;simp (maxSteps:=10^6)+contextual(disch:=try exact dqd)only[evg1,simprocAttr,Cd,Cb,Ce,ga15,e0,e3,e14,e15,c1,c2,c3,c4,aj,jr,i6,mq,hs,hlv,Eu,xfs,puQ,tkQ];rw [hΦ,wb];exact ⟨S2,k2,rfl,aA,au,fun j hj=>by rw [bm j hj]; exact bc j hj⟩
   | some bq =>
    obtain ⟨i,q⟩:=bq;simp only at hK1;have xn:i<t1.rows.length:=Aju (F:=qF) (t:=t1) (c:=j) (q:=q) (f:=lf) wa.symm;obtain ⟨r,hpv,S3,k3,rfl,d7,dk,de⟩:=Asu S2 tk' k2 iq eq I _ cc i j au xn mq;have c4:decide ((i:Int)<0)=false:=by simp
    simp only [M8] at hlv;have wc:Oc S'.length S3=S3:=Fc aA;simp (maxSteps:=10^6)+contextual(disch:=try exact dqd)only[evg1,simprocAttr,Cd,Cb,Ce,ga15,e0,e3,e14,e15,c1,c2,c3,c4,aj,jr,i6,mq,hs,hlv,hpv,wc,Eu,xfs,puQ,tkQ];exact IHA (S3,k3,K1,D9 qF { t1 with fl:=Cl t1.fl lf } i j) _ aF ⟨rfl,hK1,dk,aE,fun j hj=>by rw [de j hj,bm j hj]; exact bc j hj,bA⟩
  ·have c2:decide (sgn x<0)=false:=cD
   rw [xl,if_neg hneg] at hc;simp (maxSteps:=10^6)+contextual(disch:=try exact dqd)only[evg1,simprocAttr,Cd,Cb,Ce,ga15,e0,e3,e14,e15,c1,c2,hw,aj,jr,i6,mq,hs,Eu,xfs,puQ,tkQ];exact IH (n'+ua3,j+1) _ aF ⟨rfl,aE,hc,bA⟩
 ·have c1:decide ((j:Int)<(t1.real:Int))=false:=fJ
  have c3:decide ((-1:Int)<0)=true:=rfl;have ly:t1.real - j=0:=aA
  rw [hc,ly] at hK1;simp only [colF,A2,Cg] at hK1;obtain ⟨rfl,rfl⟩:=hK1;simp (maxSteps:=10^6)+contextual(disch:=try exact dqd)only[evg1,simprocAttr,Cd,Cb,Ce,ga15,e0,e3,e14,e15,c1,c3,aj];rw [hΦ,iy];exact ⟨S',n',rfl,ey,hT,bc⟩):p:=h
namespace QQ
theorem Amr:At10:=Ma10
end QQ
end
end
section
open Go Tryz
open Go.Proofs.Tryz renaming func63->ga16,ntmps63->ga17,results63->ga18,func89->ga19,ntmps89->ga20,results89->ga21
open Go.Proofs.YtcandeobhlfkbaaGreat renaming ceQ->ga0,Av->ga1,Bs->ga5
set_option maxRecDepth 100000
namespace QQ
abbrev ua8:Nat:=63
abbrev ua9:Nat:=89
end QQ
set_option maxHeartbeats 4000000
set_option maxRecDepth 100000
theorem Zb {basis:List Nat} {k:Nat} : ∀ {l:List (List Q)} {i j:Nat},Km basis k i l=some j->i<=j/\j<i+l.length/\at_ 0 basis j=k
 | [],_,_,h=>by simp [Km] at h
 | r :: l,i,j,h=>by
  unfold Km at h;split at h
  ·simp only [A2] at h; subst h; rename_i h; exact ⟨Cc _,by simp,h⟩
  ·have:=Zb h; simp only [Ck]; omega
namespace QQ
def Aq9 (S:List Ent) (tk:List Nat) (iq eq:Nat) (y:Q × Bool) (r:Rs):Prop:=∃ k',r=(.agg (ceQ y.1),flS S iq eq y.2,tk,k')
end QQ
section
variable (S:List Ent) (tk:List Nat) (k iq eq:Nat)
abbrev At11 (p:Prop:=by exact ∀ (S:List Ent)(tk:List Nat)(k iq eq:Nat)(I:TI)(t:Tb)(cc:Cap)(hT:A1 S iq eq I t cc),∃ r,cL prog ua8 [.ref I.it I.et 0] S tk k=some r/\Yn S tk iq eq I t cc (.bool (J3 t)) r):=p
theorem Ma11 {p:Prop} (h:p:=by
 intro S tk k iq eq I t cc hT;obtain ⟨Φ,hΦ⟩:∃ Φ,Φ=Yn S tk iq eq I t cc (.bool (J3 t)):=⟨_,rfl⟩;rw [<- hΦ];have aj:=hT.top;have hW:=hT.bigW;have ci:=hT.real;have jr:=hT.costE;obtain ⟨z,hz⟩:=Af (show t.cost.length - 1<t.cost.length by omega);have oz:=hT.okc z (Am hz);have mj:=Aw (ce:=ga0) ga1 hz;have hs:=Acm S tk k iq eq t.fl z oz hT.fa;have hW1:Cf.wrap ((t.cost.length:Int) - 1)=((t.cost.length - 1:Nat):Int):=aS
 have mn:t.cost.length - 1<t.cost.length:=aA
 refine opG ga16 ga17 ?_;simp (maxSteps:=10^6)+contextual(disch:=try exact dqd)only[evg1,simprocAttr,Cd,Cb,Ce,ga18,aj,jr,mj,hW1,mn,hs,Eu,xfs,puQ,tkQ];rw [hΦ];exact ⟨S,_,by simp only [J3,Ba hz]; rfl,rfl,hT,fun j _=>rfl⟩):p:=h
namespace QQ
theorem Ai4:At11:=Ma11
end QQ
abbrev At12 (p:Prop:=by exact ∀ (S:List Ent)(tk:List Nat)(k iq eq:Nat)(I:TI)(t:Tb)(cc:Cap)(c:Nat)(hT:A1 S iq eq I t cc),∃ r,cL prog ua9 [.ref I.it I.et 0,.int c] S tk k=some r/\Aq9 S tk iq eq (Df qF t c) r):=p
theorem Ma12 {p:Prop} (h:p:=by
 intro S tk k iq eq I t cc c hT;obtain ⟨Φ,hΦ⟩:∃ Φ,Φ=Aq9 S tk iq eq (Df qF t c):=⟨_,rfl⟩;rw [<- hΦ];have aj:=hT.top;have hM:=hT.bigM;have hW:=hT.bigW;have ci:=hT.real;have ar:=hT.low;obtain ⟨y,hy⟩:∃ y,y=qF.whole 0:=⟨_,rfl⟩;obtain ⟨h,hh⟩:∃ h,h=cq I.ib I.eb 1 t.rows.length:=⟨_,rfl⟩;have hlen:lenV false true h=some (.int (t.rows.length:Nat)):=by
  rw [hh];cases t.rows.length with
  | zero=>rfl
  | succ n=>rfl
 rw [<- hh] at aj;have bj:=hT.fa.app (L:=[⟨k,zeroQ⟩]);have fj:=Ln (S++[⟨k,zeroQ⟩]) tk (k+1) iq eq t.fl 0 aC bj;rw [<- hy,Hd hT.fa] at fj;have hl1:(flS S iq eq y.2).length=S.length:=Bj;have hE:=Al (k:=k) (cs:=zeroQ) hl1;have mi:=Al (k:=k) (cs:=ga0 y.1) hl1;have hP:=fun e e'=>Dl (e:=e) (e':=e') hl1;have te:=fun L=>Js (L:=L) hl1;have htA:=Ac (L:=[⟨k,zeroQ⟩]) aj;refine opG ga19 ga20 ?_;simp (maxSteps:=10^6)+contextual(disch:=try exact dqd)only[evg1,simprocAttr,Cd,Cb,Ce,ga21,aj,htA,hlen];refine Ga (P:=prog) (fun x st=>st.T.length=44/\(t.rows=x.1++x.2)/\(Km t.basis c 0 t.rows=Km t.basis c x.1.length x.2)/\getT st.T 0=.ref I.it I.et 0/\getT st.T 1=.int (c:Nat)/\getT st.T 4=.ref S.length k 0/\getT st.T 10=h/\getT st.T 11=.int (t.rows.length:Nat)/\getT st.T 12=.int (x.1.length:Nat)/\st.S=S++[⟨k,zeroQ⟩]/\st.tk=tk/\st.n=k+1) (fun x=>x.2.length) (([]:List (List Q)),t.rows) ?_ ?_;case refine_2=>exact ⟨rfl,rfl,rfl,rfl,rfl,rfl,rfl,rfl,rfl,rfl,rfl,rfl⟩
 rintro ⟨P,U⟩ ⟨T,S',tk',n'⟩ ⟨hl,d9,hR,e0,e1,e4,e10,e11,e12,eS,eT,eN⟩ IH;simp only at d9 hR e0 e1 e4 e10 e11 e12 eS eT eN;subst eS eT eN;obtain ⟨g,hg,hT⟩:=Au hl;rw [hg] at e0 e1 e4 e10 e11 e12;subst hT;clear hg hl;have tv:t.rows.length=P.length+U.length:=fL
 by_cases bz:P.length<t.rows.length
 ·have c1:decide ((P.length:Int)<(t.rows.length:Int))=true:=dC
  have co:0<t.rows.length:=aA
  have bw:t.rows≠[]:=fun h0=>by rw [h0] at co; simp at co
  rw [Bl co] at hh;subst hh;have cl:=hT.top;rw [Bl co,Bl co] at cl;obtain ⟨r0,U,rfl⟩:∃ r0 U',U=r0 :: U':=by
   exact Ya3d
  have vg:U.length<(r0 :: U).length:=by simp
  have hw2:Cf.wrap ((P.length:Int)+1)=(((P++[r0]).length:Nat):Int):=bS
  have j8:(P++[r0]).length=P.length+1:=by simp
  obtain ⟨bk,oe⟩:=Af (show P.length<t.basis.length by rw [hT.nb]; exact bz);have i8:nth (iO P.length (t.basis.map intA)) 0=some (.prim (.int .i64 (bk:Int))):=Eb (by rw [Ae] at oe ⊢; rw [Fw,oe]; rfl);have td:=Ac (L:=[⟨k,zeroQ⟩]) (hT.basisE bw);have htB:=Ac (L:=[⟨k,zeroQ⟩]) cl;by_cases hb:bk=c
  ·have c2:((bk:Int) == (c:Int))=true:=by simp [hb]
   obtain ⟨pk,gc⟩:=Af (show P.length<I.ids.length by rw [hT.nids]; exact bz);have c9:nth (iO P.length (I.ids.map (fo t.cost.length ua2))) 0=some (.sref pk.1 pk.2 0 t.cost.length ua2):=Eb (by rw [Ae] at gc ⊢; rw [Fw,gc]; rfl);have i5:nth t.rows P.length=some r0:=by rw [d9]; exact Ek
   have di:=hT.rowW r0 (Am i5);have l6:=Ac (L:=[⟨k,zeroQ⟩]) (hT.rowsE bw);have dn:=Ac (L:=[⟨k,zeroQ⟩]) (hT.rowE P.length pk r0 gc i5);obtain ⟨z,hz⟩:=Af (show t.cost.length - 1<r0.length by omega);have mj:=Aw (ce:=ga0) ga1 hz;have hW1:Cf.wrap ((t.cost.length:Int) - 1)=((t.cost.length - 1:Nat):Int):=aS
   have mn:t.cost.length - 1<t.cost.length:=aA
   have dz:Df qF t c=(z,false):=by
    unfold Df;rw [hR];unfold Km;rw [Ba oe,if_pos hb];simp only [B7,Ba i5,Ba hz]
   have b8:entAt (S++[⟨k,ga0 z⟩]) S.length k=some (ga0 z):=Al rfl;have az:∀ e e',put (S++[e]) S.length e'=S++[e']:=fun e e'=>Dl rfl;simp (maxSteps:=10^6)+contextual(disch:=try exact dqd)only[evg1,simprocAttr,Cd,Cb,Ce,ga21,e0,e1,e4,e10,e11,e12,c1,c2,htB,td,i8,l6,c9,dn,mj,hW1,mn,bz,b8,az,Hk,Aok,tkQ,ga1,ga5,ovQ,Ib];rw [hΦ,dz];exact ⟨_,rfl⟩
  ·have c2:((bk:Int) == (c:Int))=false:=aB
   simp (maxSteps:=10^6)+contextual(disch:=try exact dqd)only[evg1,simprocAttr,Cd,Cb,Ce,ga21,e0,e1,e4,e10,e11,e12,c1,c2,htB,td,i8,bz,hw2,Ib];exact IH (P++[r0],U) _ aF ⟨rfl,fL,by rw [hR,j8]; simp only [Km]; rw [Ba oe,if_neg hb],bA⟩
 ·have c1:decide ((P.length:Int)<(t.rows.length:Int))=false:=dC
  have vk:U=[]:=Fh.1 aA;subst vk;have dz:Df qF t c=y:=by unfold Df; rw [hR]; simp only [Km]; exact hy.symm
  simp (maxSteps:=10^6)+contextual(disch:=try exact dqd)only[evg1,simprocAttr,Cd,Cb,Ce,ga21,e0,e1,e4,e10,e11,e12,c1,htA,fj,hE,mi,hP,te,Eu,xfs,puQ,Aok,tkQ,ga1,ga5,ovQ];rw [hΦ,dz];exact ⟨_,rfl⟩):p:=h
namespace QQ
theorem Ain:At12:=Ma12
end QQ
end
end
section
open Go
set_option maxRecDepth 100000
namespace QQ
theorem Es (n:Int) (hn:i64 n):qF.ok (qF.whole n).1:=Dh.whole n hn
end QQ
abbrev At13 (p:Prop:=by exact ∀ {S:List Ent}{iq eq:Nat}{I:TI}{t:Tb}{cc:Cap}{c:Nat}(hT:A1 S iq eq I t cc),qF.ok (Df qF t c).1):=p
theorem Ma13 {p:Prop} (h:p:=by
 intro hT;unfold Df;split
 ·rename_i i hi;have hlt:=(Zb hi).2.1;obtain ⟨r0,bw⟩:=Af (show i<t.rows.length by omega);have di:=hT.rowW r0 (Am bw);have ci:=hT.real;obtain ⟨z,hz⟩:=Af (show t.cost.length - 1<r0.length by omega);simp only [B7,Ba bw,Ba hz];exact hT.okr r0 (Am bw) z (Am hz)
 ·exact Es 0 aC):p:=h
namespace QQ
theorem Ail:At13:=fun {S iq eq I t cc c}=>Ma13
end QQ
end
section
open Go Tryz
open Go.Proofs.Tryz renaming func65->ga22,ntmps65->ga23,results65->ga24,func64->ga25,ntmps64->ga26,results64->ga27
open Go.Proofs.YtcandeobhlfkbaaGreat renaming ceQ->ga0,Av->ga1,Bs->ga5,A0->ga6
set_option maxRecDepth 100000
namespace QQ
abbrev ua10:Nat:=65
abbrev ua11:Nat:=3
abbrev ua12:Nat:=64
end QQ
set_option maxHeartbeats 8000000
set_option maxRecDepth 100000
namespace QQ
def Lf (l:List Q):List (List AV):=l.map fun q=>ceW (qF.rat q)
theorem Aeq (l:List Q):B9 4 (Lf l)=true:=Za1b
def Alt (S:List Ent) (iq eq:Nat) (I:TI) (t':Tb) (cc:Cap) (l:List Q) (r:Rs):Prop :=
 ∃ S' k' tk' c,r=(.frz (Lf l) c,S',tk',k')/\S'.length=S.length/\A1 S' iq eq I t' cc/\∀ j,OutQ I iq j->nth S' j=nth S j
end QQ
section
variable (S:List Ent) (tk:List Nat) (k iq eq:Nat)
abbrev At14 (p:Prop:=by exact ∀ (S:List Ent)(tk:List Nat)(k iq eq:Nat)(I:TI)(t:Tb)(cc:Cap)(ai:A1 S iq eq I t cc)(hv:2*t.vars<=t.real),∃ r,cL prog ua10 [.ref I.it I.et 0] S tk k=some r/\Alt S iq eq I { t with fl:=Cl t.fl (E3 qF t).2 } cc (E3 qF t).1 r):=p
theorem Ma14 {p:Prop} (h:p:=by
 intro S tk k iq eq I t cc ai hv;obtain ⟨Φ,hΦ⟩:∃ Φ,Φ=Alt S iq eq I { t with fl:=Cl t.fl (E3 qF t).2 } cc (E3 qF t).1:=⟨_,rfl⟩;rw [<- hΦ];have aj:=ai.top;have hW:=ai.bigW;have ci:=ai.real;simp only [intA] at aj;refine opG ga22 ga23 ?_;simp (maxSteps:=10^6)+contextual(disch:=try exact dqd)only[evg1,simprocAttr,Cd,Cb,Ce,ga24,aj];refine Ga (P:=prog) (fun x st=>st.T.length=40/\(x.2.2.2.2.1<=t.vars)/\(E3 qF t=(x.2.2.2.2.2.1++(Ep (ptF qF t) (t.vars - x.2.2.2.2.1) x.2.2.2.2.1).1,Cl x.2.2.2.2.2.2 (Ep (ptF qF t) (t.vars - x.2.2.2.2.1) x.2.2.2.2.1).2))/\(x.2.2.2.2.2.1.length=x.2.2.2.2.1)/\(Bd x.2.2.1 x.2.2.2.1 4=true)/\(A1 x.1 iq eq I { t with fl:=Cl t.fl x.2.2.2.2.2.2 } cc)/\(x.1.length=S.length)/\(∀ v,OutQ I iq v->nth x.1 v=nth S v)/\getT st.T 0=.ref I.it I.et 0/\getT st.T 3=.frz (Lf x.2.2.2.2.2.1) x.2.2.2.1/\getT st.T 8=.int (t.vars:Nat)/\getT st.T 9=.int (x.2.2.2.2.1:Nat)/\st.S=x.1/\st.tk=x.2.2.1/\st.n=x.2.1) (fun x=>t.vars - x.2.2.2.2.1) (S,k,tk,Cap.nilc,0,([]:List Q),false) ?_ ?_;case refine_2=>exact ⟨rfl,Co _,by simp [E3],rfl,rfl,by simp only [Fv]; exact ai,rfl,fun j _=>rfl,rfl,rfl,rfl,rfl,rfl,rfl,rfl⟩
 rintro ⟨SS,n1,tk1,cp,j,out,fq⟩ ⟨T,S',tk',n'⟩ ⟨hl,hj,hR,pb,hok,hT,ey,bc,e0,e3,e8,e9,eS,eT,eN⟩ IH;simp only at hj hR pb hok hT ey bc e0 e3 e8 e9 eS eT eN;subst eS eT eN;obtain ⟨g,hg,hT⟩:=Au hl;rw [hg] at e0 e3 e8 e9;subst hT;clear hg hl;have iy:Oc S.length S'=S':=Fc aA;by_cases hjv:j<t.vars
 ·have c1:decide ((j:Int)<(t.vars:Int))=true:=by simpa using hjv
  have hw:Cf.wrap ((j:Int)+1)=((j+1:Nat):Int):=aU
  have hwm:Cf.wrap (2*(j:Int))=((2*j:Nat):Int):=aU
  have a0q:Cf.wrap (((2*j:Nat):Int)+1)=((2*j+1:Nat):Int):=aU
  have cl:=hT.top;obtain ⟨a,ha⟩:∃ a,a=Df qF t (2*j):=⟨_,rfl⟩;obtain ⟨b,hb⟩:∃ b,b=Df qF t (2*j+1):=⟨_,rfl⟩;obtain ⟨d,hd⟩:∃ d,d=qF.minus a.1 b.1:=⟨_,rfl⟩;have oa:qF.ok a.1:=by rw [ha]; exact Ail ai
  have ob:qF.ok b.1:=by rw [hb]; exact Ail ai
  have od:qF.ok d.1:=by rw [hd]; exact Dh.minus _ _ oa ob
  obtain ⟨r,ei,k1,rfl⟩:=Ain S' tk' n' iq eq I _ cc (2*j) hT;have ea:Df qF { t with fl:=Cl t.fl fq } (2*j)=a:=ha.symm;rw [ea] at ei;have hg1:=El (c:=a.2) hT.fa;have ls:=hT.fa.fS (c:=a.2);obtain ⟨S1,cj⟩:∃ S1,S1=flS S' iq eq a.2:=⟨_,rfl⟩;have fk:=hT.flag (S':=flS S' iq eq a.2) (fun j hj=>ga6 hj) ls;rw [<- cj] at ei hg1 ls fk;obtain ⟨r,hcb,k2,rfl⟩:=Ain S1 tk' k1 iq eq I _ cc (2*j+1) fk;have eb:Df qF { t with fl:=Cl (Cl t.fl fq) a.2 } (2*j+1)=b:=hb.symm;rw [eb] at hcb;have hg2:=El (c:=b.2) ls;have bm:=ls.fS (c:=b.2);obtain ⟨S2,a7⟩:∃ S2,S2=flS S1 iq eq b.2:=⟨_,rfl⟩;rw [<- a7] at hcb hg2 bm;have hm:=Mg S2 tk' k2 iq eq _ a.1 b.1 oa ob bm;rw [<- hd] at hm;have hg3:=El (c:=d.2) bm;have de:=bm.fS (c:=d.2);obtain ⟨S3,cr⟩:∃ S3,S3=flS S2 iq eq d.2:=⟨_,rfl⟩;rw [<- cr] at hm hg3 de;have hr:=T2 S3 tk' (k2+ua4) iq eq _ d.1 od de;have b7:∀ v,v≠iq->nth S3 v=nth S' v:=fun v hv=>by rw [cr,ga6 hv,a7,ga6 hv,cj,ga6 hv]
  have d7:S3.length=S'.length:=by rw [cr,Bj,a7,Bj,cj,Bj]
  have a2h:entAt S1 I.it I.et=_:=fk.top;have hpt:ptF qF t j=(d.1,Cl (Cl a.2 b.2) d.2):=by rw [hd,hb,ha]; rfl
  have kg:Ep (ptF qF t) (t.vars - j) j=(d.1 :: (Ep (ptF qF t) (t.vars - (j+1)) (j+1)).1,Cl (Cl (Cl a.2 b.2) d.2) (Ep (ptF qF t) (t.vars - (j+1)) (j+1)).2):=by
   rw [show t.vars - j=(t.vars - (j+1))+1 by omega];simp only [Ep,hpt]
  have jp:=Aeq out;have pn:(Lf out).length+1<=1048576:=Za3t
  have hle:Lf (out++[d.1])=Lf out++[ceW (qF.rat d.1)]:=by unfold Lf; simp
  have hap:=apB_one (y:=ceW (qF.rat d.1)) hok jp rfl pn;have dh:=Dj hok;have wd:Oc S'.length S3=S3:=Fc aA;simp (maxSteps:=10^6)+contextual(disch:=try exact dqd)only[evg1,simprocAttr,Cd,Cb,Ce,ga24,e0,e3,e8,e9,c1,hw,hwm,a0q,cl,ei,hcb,hm,hr,hg1,hg2,hg3,hap,wd,Eu,xfs,puQ,tkQ,Aq,Be,U9,Va];have dk:=hT.flag (S':=S3) b7 de;exact IH (S3,k2+ua4+ua11,G6 tk' cp,Bg tk' cp 4,j+1,out++[d.1],Cl fq (Cl (Cl a.2 b.2) d.2)) _ aF ⟨rfl,aE,by rw [hR,kg]; simp only [Fa,Cr,Cw,Fy],by simp [pb],dh,by simpa only [Fy] using dk,aE,fun v hv=>by rw [b7 v hv.1]; exact bc v hv,Za02⟩
 ·have c1:decide ((j:Int)<(t.vars:Int))=false:=by simpa using hjv
  have ly:t.vars - j=0:=aA
  rw [ly] at hR;simp only [Ep,F4,Fv] at hR;simp (maxSteps:=10^6)+contextual(disch:=try exact dqd)only[evg1,simprocAttr,Cd,Cb,Ce,ga24,e0,e3,e8,e9,c1];rw [hΦ,hR,iy];exact ⟨S',n',tk',cp,rfl,ey,hT,bc⟩):p:=h
namespace QQ
theorem Asw:At14:=Ma14
end QQ
abbrev At15 (p:Prop:=by exact ∀ (S:List Ent)(tk:List Nat)(k iq eq:Nat)(I:TI)(t:Tb)(cc:Cap)(ai:A1 S iq eq I t cc)(hv:t.real+t.rows.length<t.cost.length),∃ r,cL prog ua12 [.ref I.it I.et 0] S tk k=some r/\Alt S iq eq I { t with fl:=Cl t.fl (H3 qF t).2 } cc (H3 qF t).1 r):=p
theorem Ma15 {p:Prop} (h:p:=by
 intro S tk k iq eq I t cc ai hv;obtain ⟨Φ,hΦ⟩:∃ Φ,Φ=Alt S iq eq I { t with fl:=Cl t.fl (H3 qF t).2 } cc (H3 qF t).1:=⟨_,rfl⟩;rw [<- hΦ];have aj:=ai.top;have hW:=ai.bigW;have hM:=ai.bigM;have ci:=ai.real;have ar:=ai.low;obtain ⟨one,hone⟩:∃ one,one=qF.whole 1:=⟨_,rfl⟩;obtain ⟨z0,hz0⟩:∃ z0,z0=qF.whole 0:=⟨_,rfl⟩;have o1:qF.ok one.1:=by rw [hone]; exact Es 1 aC
 have o0:qF.ok z0.1:=by rw [hz0]; exact Es 0 aC
 have hw1:=Ln S tk k iq eq t.fl 1 aC ai.fa;rw [<- hone] at hw1;have ls:=ai.fa.fS (c:=one.2);obtain ⟨S1,cj⟩:∃ S1,S1=flS S iq eq one.2:=⟨_,rfl⟩;have fk:=ai.flag (S':=flS S iq eq one.2) (fun j hj=>ga6 hj) ls;have hl1:(flS S iq eq one.2).length=S.length:=Bj;have b8:∀ v,v≠iq->nth (flS S iq eq one.2) v=nth S v:=fun v hv=>ga6 hv;rw [<- cj] at hw1 ls fk hl1 b8;obtain ⟨h,hh⟩:∃ h,h=cq I.ir I.er 1 t.rows.length:=⟨_,rfl⟩;have hlen:lenV false true h=some (.int (t.rows.length:Nat)):=by
  rw [hh];cases t.rows.length with
  | zero=>rfl
  | succ n=>rfl
 rw [<- hh] at aj;have cl:entAt (S1++[⟨k+ua3,ga0 one.1⟩]) I.it I.et=_:=Ac fk.top;simp only at cl;rw [<- hh] at cl;refine opG ga25 ga26 ?_;simp (maxSteps:=10^6)+contextual(disch:=try exact dqd)only[evg1,simprocAttr,Cd,Cb,Ce,ga27,aj,hw1,cl,hlen,Eu,xfs,puQ,ga1,ga5,ovQ];rw [hl1];refine Ga (P:=prog) (fun x st=>st.T.length=71/\(x.2.2.2.2.1<=t.rows.length)/\(Ep (mulF qF t) t.rows.length 0=(x.2.2.2.2.2.1++(Ep (mulF qF t) (t.rows.length - x.2.2.2.2.1) x.2.2.2.2.1).1,Cl x.2.2.2.2.2.2 (Ep (mulF qF t) (t.rows.length - x.2.2.2.2.1) x.2.2.2.2.1).2))/\(x.2.2.2.2.2.1.length=x.2.2.2.2.1)/\(Bd x.2.2.1 x.2.2.2.1 4=true)/\(A1 x.1 iq eq I { t with fl:=Cl (Cl t.fl one.2) x.2.2.2.2.2.2 } cc)/\(x.1.length=S.length+1)/\(∀ v,v<S.length->OutQ I iq v->nth x.1 v=nth S v)/\(entAt x.1 S.length (k+ua3)=some (ga0 one.1))/\getT st.T 0=.ref I.it I.et 0/\getT st.T 3=.frz (Lf x.2.2.2.2.2.1) x.2.2.2.1/\getT st.T 4=.ref S.length (k+ua3) 0/\getT st.T 16=.int (t.rows.length:Nat)/\getT st.T 17=.int (x.2.2.2.2.1:Nat)/\st.S=x.1/\st.tk=x.2.2.1/\st.n=x.2.1) (fun x=>t.rows.length - x.2.2.2.2.1) ((S1++[⟨k+ua3,ga0 one.1⟩]),(k+ua3+1),tk,Cap.nilc,0,([]:List Q),false) ?_ ?_;case refine_2=>exact ⟨rfl,Co _,by simp,rfl,rfl,by simp only [Fv]; exact fk.app _,by simp [hl1],fun v hv ho=>by rw [Bo aA]; exact b8 v ho.1,Al hl1,rfl,rfl,rfl,rfl,rfl,rfl,rfl,rfl⟩
 rintro ⟨SS,n1,tk1,cp,j,out,fq⟩ ⟨T,S',tk',n'⟩ ⟨hl,hj,hR,pb,hok,hT,ey,bc,we,e0,e3,e4,e16,e17,eS,eT,eN⟩ IH;simp only at hj hR pb hok hT ey bc we e0 e3 e4 e16 e17 eS eT eN;subst eS eT eN;obtain ⟨g,hg,hT⟩:=Au hl;rw [hg] at e0 e3 e4 e16 e17;subst hT;clear hg hl;by_cases hjm:j<t.rows.length
 ·have c1:decide ((j:Int)<(t.rows.length:Int))=true:=by simpa using hjm
  have hw:Cf.wrap ((j:Int)+1)=((j+1:Nat):Int):=aU
  have u0:Cf.wrap ((t.real:Int)+(j:Int))=((t.real+j:Nat):Int):=aU
  have hrc:t.real+j<t.cost.length:=aA
  have htj:=hT.top;simp only [intA] at htj;have jr:=hT.costE;obtain ⟨x,hx⟩:=Af hrc;have ox:=ai.okc x (Am hx);have i6:=Aw (ce:=ga0) ga1 hx;obtain ⟨y,hy⟩:∃ y,y=qF.minus x one.1:=⟨_,rfl⟩;have oy:qF.ok y.1:=by rw [hy]; exact Dh.minus _ _ ox o1
  have cu:=Mg S' tk' n' iq eq (Cl (Cl t.fl one.2) fq) x one.1 ox o1 hT.fa;rw [<- hy] at cu;have hg1:=El (c:=y.2) hT.fa;have bm:=hT.fa.fS (c:=y.2);obtain ⟨S2,a7⟩:∃ S2,S2=flS S' iq eq y.2:=⟨_,rfl⟩;have au:=hT.flag (S':=flS S' iq eq y.2) (fun j hj=>ga6 hj) bm;have hl2:(flS S' iq eq y.2).length=S'.length:=Bj;have az:∀ v,v≠iq->nth (flS S' iq eq y.2) v=nth S' v:=fun v hv=>ga6 hv;have iw:nth S2 S.length=nth S' S.length:=Za5h
  rw [<- a7] at cu hg1 bm au hl2 az;obtain ⟨n2,qk⟩:∃ n2,n2=n'+ua4:=⟨_,rfl⟩;rw [<- qk] at cu;have wg:entAt (S2++[⟨n2,ga0 y.1⟩]) S2.length n2=some (ga0 y.1):=Bz;obtain ⟨bf,t7⟩:=Af (show j<t.flip.length by rw [ai.nf]; exact hjm);have wh:nth (t.flip.map Dw) j=some [.prim (.bool bf)]:=by rw [Ae] at t7 ⊢; rw [Fw,t7]; rfl
  have mr:=au.app [⟨n2,ga0 y.1⟩];have ke:=mr.top;simp only [intA] at ke;have jj:∀ v,mulF qF t j=v->Ep (mulF qF t) (t.rows.length - j) j=(v.1 :: (Ep (mulF qF t) (t.rows.length - (j+1)) (j+1)).1,Cl v.2 (Ep (mulF qF t) (t.rows.length - (j+1)) (j+1)).2):=by
   intro v hv;rw [show t.rows.length - j=(t.rows.length - (j+1))+1 by omega];simp only [Ep,hv]
  have jp:=Aeq out;have pn:(Lf out).length+1<=1048576:=Za3t
  have dh:=Dj hok;cases bf with
  | false =>
   have yg:mulF qF t j=y:=by
    unfold mulF;rw [Ba hx,Ba t7,<- hone,<- hy]; rfl
   have hr:=T2 (S2++[⟨n2,ga0 y.1⟩]) tk' (n2+1) iq eq _ y.1 oy mr.fa;have hap:=apB_one (y:=ceW (qF.rat y.1)) hok jp rfl pn;have kh:Oc S'.length (S2++[⟨n2,ga0 y.1⟩])=S2:=by rw [<- hl2]; simp
   simp (maxSteps:=10^6)+contextual(disch:=try exact dqd)only[evg1,simprocAttr,Cd,Cb,Ce,ga27,e0,e3,e4,e16,e17,c1,hw,u0,htj,jr,i6,hrc,we,cu,hg1,wg,ke,wh,hr,hap,kh,Eu,xfs,puQ,tkQ,ga1,ga5,ovQ,Aq,Be,U9,Va];exact IH (S2,n2+1+ua11,G6 tk' cp,Bg tk' cp 4,j+1,out++[y.1],Cl fq y.2) _ aF ⟨rfl,aE,by rw [hR,jj y yg]; simp only [Fa,Cr,Cw,Fy],by simp [pb],dh,by simpa only [Fy] using au,aE,fun v hv ho=>by rw [az v ho.1]; exact bc v hv ho,by rw [Aa iw]; exact we,Za02⟩
  | true =>
   obtain ⟨d,hd⟩:∃ d,d=qF.minus z0.1 y.1:=⟨_,rfl⟩;have od:qF.ok d.1:=by rw [hd]; exact Dh.minus _ _ o0 oy
   have yg:mulF qF t j=(d.1,Cl y.2 (Cl z0.2 d.2)):=by
    unfold mulF;rw [Ba hx,Ba t7,<- hone,<- hy,<- hz0,hd]; rfl
   have ym:=Ln (S2++[⟨n2,ga0 y.1⟩]) tk' (n2+1) iq eq _ 0 aC mr.fa;have hg2:=El (c:=z0.2) mr.fa;rw [<- hz0] at ym;rw [Hd bm] at ym hg2;have de:=bm.fS (c:=z0.2);obtain ⟨S3,cr⟩:∃ S3,S3=flS S2 iq eq z0.2:=⟨_,rfl⟩;have dk:=au.flag (S':=flS S2 iq eq z0.2) (fun j hj=>ga6 hj) de;have d7:(flS S2 iq eq z0.2).length=S2.length:=Bj;have b7:∀ v,v≠iq->nth (flS S2 iq eq z0.2) v=nth S2 v:=fun v hv=>ga6 hv;have ka:nth S3 S.length=nth S2 S.length:=by rw [cr]; first|rfl|exact A0 cU
   rw [<- cr] at ym hg2 de dk d7 b7;have wi:=de.app (L:=[⟨n2,ga0 y.1⟩]);have ef:=Mg (S3++[⟨n2,ga0 y.1⟩]) tk' (n2+1+ua3) iq eq _ z0.1 y.1 o0 oy wi;have hg3:=El (c:=d.2) wi;rw [<- hd] at ef;rw [Hd de] at ef hg3;have hf4:=de.fS (c:=d.2);obtain ⟨S4,hS4⟩:∃ S4,S4=flS S3 iq eq d.2:=⟨_,rfl⟩;have vn:=dk.flag (S':=flS S3 iq eq d.2) (fun j hj=>ga6 hj) hf4;have pu:(flS S3 iq eq d.2).length=S3.length:=Bj;have hn4:∀ v,v≠iq->nth (flS S3 iq eq d.2) v=nth S3 v:=fun v hv=>ga6 hv;have a0r:nth S4 S.length=nth S3 S.length:=by rw [hS4]; first|rfl|exact A0 cU
   rw [<- hS4] at ef hg3 hf4 vn pu hn4;have hE3:entAt (S3++[⟨n2,ga0 y.1⟩]) S2.length n2=some (ga0 y.1):=Al d7;have mu:S4.length=S2.length:=aA
   have qq:entAt (S4++[⟨n2,ga0 y.1⟩]) S2.length n2=some (ga0 y.1):=Al mu;have qu:entAt (S4++[⟨n2,ga0 d.1⟩]) S2.length n2=some (ga0 d.1):=Al mu;have hP4:=fun e e'=>Dl (e:=e) (e':=e') mu;have wj:=vn.app [⟨n2,ga0 d.1⟩];have yn:=wj.top;simp only [intA] at yn;have hr:=T2 (S4++[⟨n2,ga0 d.1⟩]) tk' (n2+1+ua3+ua4) iq eq _ d.1 od wj.fa;have hap:=apB_one (y:=ceW (qF.rat d.1)) hok jp rfl pn;have kh:Oc S'.length (S4++[⟨n2,ga0 d.1⟩])=S4:=by rw [<- hl2,<- mu]; simp
   simp (maxSteps:=10^6)+contextual(disch:=try exact dqd)only[evg1,simprocAttr,Cd,Cb,Ce,ga27,e0,e3,e4,e16,e17,c1,hw,u0,htj,jr,i6,hrc,we,cu,hg1,wg,ke,wh,ym,hg2,hE3,ef,hg3,qq,hP4,qu,yn,hr,hap,kh,Eu,xfs,puQ,tkQ,ga1,ga5,ovQ,ovQ2,Aq,Be,U9,Va];exact IH (S4,n2+1+ua3+ua4+ua11,G6 tk' cp,Bg tk' cp 4,j+1,out++[d.1],Cl fq (Cl y.2 (Cl z0.2 d.2))) _ aF ⟨rfl,aE,by rw [hR,jj _ yg]; simp only [Fa,Cr,Cw,Fy],by simp [pb],dh,by simpa only [Fy] using vn,aE,fun v hv ho=>by rw [hn4 v ho.1,b7 v ho.1,az v ho.1]; exact bc v hv ho,by rw [Aa a0r,Aa ka,Aa iw]; exact we,Za02⟩
 ·have c1:decide ((j:Int)<(t.rows.length:Int))=false:=by simpa using hjm
  have ly:t.rows.length - j=0:=aA
  rw [ly] at hR;simp only [Ep,F4,Fv] at hR;have hmf:H3 qF t=(out,Cl one.2 fq):=by unfold H3; rw [hR,<- hone]
  simp (maxSteps:=10^6)+contextual(disch:=try exact dqd)only[evg1,simprocAttr,Cd,Cb,Ce,ga27,e0,e3,e4,e16,e17,c1];rw [hΦ,hmf];have hT5:=hT.take (n:=S.length) (ar.of fun h=>h);exact ⟨_,n',tk',cp,rfl,cM,by simpa only [Fy] using hT5,fun v hv=>by
   by_cases fu:v<S.length
   ·rw [Gc fu]; exact bc v fu hv
   ·rw [Ae,Ae,C9 cM,C9 aA]⟩):p:=h
namespace QQ
theorem Aad:At15:=Ma15
end QQ
end
end
section
open Go
open Go.Proofs.YtcandeobhlfkbaaGreat renaming ceQ->ga0
set_option maxRecDepth 100000
abbrev At16 (p:Prop:=by exact ∀ {S S':List Ent}{iq eq:Nat}{I:TI}{t:Tb}{c c':Cap}{ir er ib eb id nr b:Nat}{f fl':Bool}{row:List Q}(h:A1 S iq eq I t c)(aj:entAt S' I.it I.et=some [.ifc ua0 (rcvQ iq eq),intA t.vars,intA t.real,.sref ir er 0 (t.rows.length+1) 1,.sref I.ic I.ec 0 t.cost.length ua2,.sref ib eb 0 (t.rows.length+1) 1,.frz ((t.flip++[f]).map Dw) c'])(gm:entAt S' ir er=some ((I.ids++[(id,nr)]).map (fo t.cost.length ua2)))(qw:entAt S' ib eb=some ((t.basis++[b]).map intA))(bo:entAt S' id nr=some (flat ga0 row))(jp:row.length=t.cost.length)(hro:okL qF row)(gy:∀ p ∈ I.ids,nth S' p.1=nth S p.1)(wk:nth S' I.ic=nth S I.ic)(hfa:FAq S' iq eq fl')(hap:Apart ⟨I.it,I.et,ir,er,I.ic,I.ec,ib,eb,I.ids++[(id,nr)]⟩ iq)(hm:t.rows.length+1<=1000000)(hb:b<t.cost.length),A1 S' iq eq ⟨I.it,I.et,ir,er,I.ic,I.ec,ib,eb,I.ids++[(id,nr)]⟩ { t with rows:=t.rows++[row],basis:=t.basis++[b],flip:=t.flip++[f],fl:=fl' } c'):=p
theorem Ma16 {p:Prop} (h:p:=by
 intro h aj gm qw bo jp hro gy wk hfa hap hm hb;have hlen:(t.rows++[row]).length=t.rows.length+1:=by simp
 refine ⟨?_,by simp [h.nids],fun _=>gm,fun i p r hp hr=>?_,fun r hr=>?_,?_,fun _=>qw,by simp [h.nb],by simp [h.nf],hfa,hap,fun r hr=>?_,h.okc,h.bigW,by rw [hlen]; exact hm,h.real,fun x hx=>?_⟩
 ·rw [aj]; simp only [hlen,cq]
 ·rw [Ae] at hp hr;by_cases hi:i<I.ids.length
  ·rw [Ct hi,<- Ae] at hp;rw [Ct (by rw [<- h.nids]; exact hi),<- Ae] at hr;rw [Aa (gy p (Am hp))];exact h.rowE i p r hp hr
  ·have qf:i=I.ids.length:=by
    have:=(Fu.1 hp).1;simp at this; omega
   rw [qf,C6 (Cc _),I4] at hp;rw [qf,h.nids,C6 (Cc _),I4] at hr;simp only [F2,A2] at hp hr;subst hp; subst hr;exact bo
 ·rcases C4.1 hr with hr|hr
  ·exact h.rowW r hr
  ·simp only [He] at hr; subst hr; exact jp
 ·rw [Aa wk]; exact h.costE
 ·rcases C4.1 hr with hr|hr
  ·exact h.okr r hr
  ·simp only [He] at hr; subst hr; exact hro
 ·rcases C4.1 hx with hx|hx
  ·exact h.bB x hx
  ·simp only [He] at hx; subst hx; exact hb):p:=h
namespace QQ
theorem A1.add:At16:=fun {S S' iq eq I t c c' ir er ib eb id nr b f fl' row}=>Ma16
structure Gk (S SS:List Ent) (iq eq:Nat) (I:TI) (t:Tb) (cp:Cap) (L nz n15 n16 n19:Nat) (z:Q) (r:RowT) (row:List Q) (u:Q):Prop where
 T:A1 SS iq eq I t cp
 low:LowQ I iq L t
 Z:entAt SS (S.length+1) nz=some (ceQ z)
 E15:entAt SS L n15=some (rowC r)
 E16:entAt SS (L+1) n16=some (flat ceQ row)
 E19:entAt SS (L+2) n19=some (ceQ u)
 len:SS.length=L+3
 fr:∀ j,j<S.length->j≠iq->nth SS j=nth S j
 qL:iq<S.length
 SL:S.length+3<=L
 ic:I.ic=S.length+2
end QQ
section
variable {S SS S':List Ent} {iq eq:Nat} {I:TI} {t:Tb} {cp:Cap} {L nz n15 n16 n19:Nat} {z u:Q} {r:RowT} {row:List Q}
abbrev At17 (p:Prop:=by exact ∀ {S SS S':List Ent}{iq eq:Nat}{I:TI}{t:Tb}{cp:Cap}{L nz n15 n16 n19:Nat}{z u:Q}{r:RowT}{row:List Q}{fl':Bool}(h:Gk S SS iq eq I t cp L nz n15 n16 n19 z r row u)(hS:∀ j,j≠iq->nth S' j=nth SS j)(hl:S'.length=SS.length)(hf:FAq S' iq eq fl'),Gk S S' iq eq I { t with fl:=fl' } cp L nz n15 n16 n19 z r row u):=p
theorem Ma17 {p:Prop} (h:p:=by
 intro h hS hl hf;have hq:=h.qL;have hL:=h.SL;exact ⟨h.T.flag hS hf,h.low.of fun h=>h,by rw [Aa (hS _ aA)]; exact h.Z,by rw [Aa (hS _ aA)]; exact h.E15,by rw [Aa (hS _ aA)]; exact h.E16,by rw [Aa (hS _ aA)]; exact h.E19,by rw [hl]; exact h.len,fun j h1 h2=>by rw [hS j h2]; exact h.fr j h1 h2,hq,hL,h.ic⟩):p:=h
namespace QQ
theorem Gk.flag:At17:=fun {S SS S' iq eq I t cp L nz n15 n16 n19 z u r row fl'}=>Ma17
end QQ
abbrev At18 (p:Prop:=by exact ∀ {S SS:List Ent}{iq eq:Nat}{I:TI}{t:Tb}{cp:Cap}{L nz n15 n16 n19:Nat}{z u:Q}{r:RowT}{row:List Q}(h:Gk S SS iq eq I t cp L nz n15 n16 n19 z r row u)(row':List Q),Gk S (put SS (L+1) ⟨n16,flat ga0 row'⟩) iq eq I t cp L nz n15 n16 n19 z r row' u):=p
theorem Ma18 {p:Prop} (h:p:=by
 intro h row';have hq:=h.qL;have hL:=h.SL;have hl:=h.len;have key:∀ j,j≠L+1->nth (Go.Proofs.YtcandeobhlfkbaaGreat.put SS (L+1) ⟨n16,flat ga0 row'⟩) j=nth SS j:=fun j hj=>Ad (Oo hj);have hT:=h.T.frame (S':=Go.Proofs.YtcandeobhlfkbaaGreat.put SS (L+1) ⟨n16,flat ga0 row'⟩) (fl':=t.fl) h.low (fun j h1 h2=>key j aA) (h.T.fa.put aA);exact ⟨hT,h.low,Za5k,Za5i,Ai aA,by rw [Aa (key _ aA)]; exact h.E19,by rw [Ao]; exact hl,fun j h1 h2=>Za5f,hq,hL,h.ic⟩):p:=h
namespace QQ
theorem Gk.put:At18:=fun {S SS iq eq I t cp L nz n15 n16 n19 z u r row}=>Ma18
end QQ
abbrev At19 (p:Prop:=by exact ∀ {S SS:List Ent}{iq eq:Nat}{I:TI}{t:Tb}{cp:Cap}{L nz n15 n16 n19:Nat}{z u:Q}{r:RowT}{row:List Q}(h:Gk S SS iq eq I t cp L nz n15 n16 n19 z r row u)(u':Q),Gk S (Go.Proofs.YtcandeobhlfkbaaGreat.put SS (L+2) ⟨n19,ga0 u'⟩) iq eq I t cp L nz n15 n16 n19 z r row u'):=p
theorem Ma19 {p:Prop} (h:p:=by
 intro h u';have hq:=h.qL;have hL:=h.SL;have hl:=h.len;have key:∀ j,j≠L+2->nth (Go.Proofs.YtcandeobhlfkbaaGreat.put SS (L+2) ⟨n19,ga0 u'⟩) j=nth SS j:=fun j hj=>Ad (Oo hj);have hT:=h.T.frame (S':=Go.Proofs.YtcandeobhlfkbaaGreat.put SS (L+2) ⟨n19,ga0 u'⟩) (fl':=t.fl) h.low (fun j h1 h2=>key j aA) (h.T.fa.put aA);exact ⟨hT,h.low,Za5k,Za5i,by rw [Aa (key _ aA)]; exact h.E16,Ai aA,by rw [Ao]; exact hl,fun j h1 h2=>Za5f,hq,hL,h.ic⟩):p:=h
namespace QQ
theorem Gk.unit:At19:=fun {S SS iq eq I t cp L nz n15 n16 n19 z u r row}=>Ma19
end QQ
abbrev At20 (p:Prop:=by exact ∀ {S SS:List Ent}{iq eq:Nat}{I:TI}{t:Tb}{cp:Cap}{L nz n15 n16 n19:Nat}{z u:Q}{r:RowT}{row:List Q}{k':List Q}(h:Gk S SS iq eq I t cp L nz n15 n16 n19 z r row u)(hk:k'.length=t.cost.length)(ho:okL qF k'),Gk S (Go.Proofs.YtcandeobhlfkbaaGreat.put SS I.ic ⟨I.ec,flat ga0 k'⟩) iq eq I { t with cost:=k' } cp L nz n15 n16 n19 z r row u):=p
theorem Ma20 {p:Prop} (h:p:=by
 intro h hk ho;have hq:=h.qL;have hL:=h.SL;have hl:=h.len;have hic:=h.ic;have key:∀ j,j≠I.ic->nth (Go.Proofs.YtcandeobhlfkbaaGreat.put SS I.ic ⟨I.ec,flat ga0 k'⟩) j=nth SS j:=fun j hj=>Ad (Oo hj);have hT:=h.T.setCost (S':=Go.Proofs.YtcandeobhlfkbaaGreat.put SS I.ic ⟨I.ec,flat ga0 k'⟩) (fl':=t.fl) hk ho (fun j h1 h2=>key j h1) (Ai aA) (h.T.fa.put aA);exact ⟨hT,h.low.of fun h=>h,Za5k,Za5i,by rw [Aa (key _ aA)]; exact h.E16,by rw [Aa (key _ aA)]; exact h.E19,by rw [Ao]; exact hl,fun j h1 h2=>Za5f,hq,hL,h.ic⟩):p:=h
namespace QQ
theorem Gk.cost:At20:=fun {S SS iq eq I t cp L nz n15 n16 n19 z u r row k'}=>Ma20
end QQ
end
end
section
open Go
namespace QQ
def Ahc (S:List Ent) (l:List RowT) (vars:List ByteArray) (fl:Bool) (k iq eq c W nz:Nat) (z:Q) (i:Nat) (st:St):Prop :=
 ∃ sl t1 I cp,i<=l.length/\Bq qF l vars fl=begS qF z vars c W (l.drop i) i sl t1/\A1 st.S iq eq I t1 cp/\t1.rows.length=i/\t1.cost.length=W/\t1.real=c/\t1.vars=vars.length/\sl+neqs (l.drop i)=c/\Bd st.tk cp 1=true/\entAt st.S (S.length+1) nz=some (ceQ z)/\S.length+3<=st.S.length/\(∀ j,j<S.length->j≠iq->nth st.S j=nth S j)/\(I.it=S.length/\I.et=k/\I.ic=S.length+2)/\(S.length+2<I.ir/\S.length+2<I.ib/\∀ p ∈ I.ids,S.length+2<p.1) /\
  st.T.length=270/\getT st.T 0=.ifc 84 (rcvQ iq eq)/\getT st.T 1=.frz (l.map rowC) .unk/\getT st.T 2=.frz (vars.map strC) .unk/\getT st.T 7=.ref S.length k 0/\getT st.T 10=.int (sl:Nat)/\getT st.T 11=.int (W:Nat)/\getT st.T 12=.ref (S.length+1) nz 0/\getT st.T 83=.frz (l.map rowC) .unk/\getT st.T 84=.int (l.length:Nat)/\getT st.T 85=.int (i:Nat)
end QQ
end
end Go.Proofs.YtcandeobhlfkbaaGreat
