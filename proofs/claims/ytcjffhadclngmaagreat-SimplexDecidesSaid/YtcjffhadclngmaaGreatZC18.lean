/- Part 18. -/
import Derived.Test.YtcjffhadclngmaaGreatZC17
open Bool renaming or->Cj,or_false->Fk,or_assoc->Fo,false_ne_true->F6,false_or->Oi
open Go.IntKind renaming i64->Ca
open Go.Proofs.YtcjffhadclngmaaGreat.AV renaming bool->Bg,int->Cb,str->Cc
open List renaming length_cons->Ch,length_append->Cm,cons_append->Cn,length_nil->Co,nil_append->Cq,map_cons->Ct,getElem?_eq_none->Cu,mem_cons->Cv,getElem?_map->Cw,getElem?_append_left->C3,length_eq_zero_iff->C4,mem_append->C5,take_of_length_le->C6,map_nil->Ei,append_assoc->Fa,getElem?_append_right->Fc,length_map->Fj,mem_singleton->Fu,getElem?_eq_some_iff->Fx,append_nil->Fy,map_append->F4,length_pos_iff->F8,take->Ib,length_take->Iu,drop->I7,getElem?_cons_zero->Oc,singleton_append->O2
open Nat renaming le_refl->Ce,zero_le->Cl,mul_one->C9,zero_add->El,add_zero->I5,sub_self->Ol
open Ne renaming symm->Ih
open Option.some renaming injEq->A8
open Prod.mk renaming injEq->Cg
namespace Go.Proofs.YtcjffhadclngmaaGreat
section
open Go Tryz
open Go.Proofs.Tryz renaming func109->ga10,ntmps109->ga11,results109->ga12
open Go.Proofs.YtcjffhadclngmaaGreat renaming ceQ->ga0,Ay->ga1,puQ->ga5,Bs->ga6,ovQ->ga7,A2->ga8,tkQ->ga9
set_option maxRecDepth 100000
namespace QQ
abbrev ua5:Nat:=109
end QQ
set_option maxHeartbeats 8000000
set_option maxRecDepth 100000
theorem Ago {F:Fld} (hF:F.Keeps) {b:Q} (hb:F.ok b):∀ {l:List Q},okL F l->okL F (divL F b l).1
 | [],h=>h
 | x :: l,h=>by
  intro q hq;simp only [divL,Cv] at hq;rcases hq with rfl|hq
  ·unfold dvS;split
   ·exact h _ (by simp)
   ·exact hF.over _ _ (h _ (by simp)) hb
  ·exact Ago hF hb (fun q hq=>h q bN) q hq
theorem K8 {F:Fld} {l m:List Q} {c:Nat} : (lessT F l m c).1.length=l.length:=by
 unfold lessT;split
 ·split
  ·rfl
  ·exact Ql
 ·rfl
theorem V6 {F:Fld} (hF:F.Keeps) {l m:List Q} {c:Nat} (h:okL F l) (h':okL F m):okL F (lessT F l m c).1:=by
 unfold lessT;split
 ·rename_i b hb;split
  ·exact h
  ·exact Zt hF (h b (Ak hb)) h h'
 ·exact h
section
variable (S:List Ent) (tk:List Nat) (k iq eq:Nat)
abbrev Aw8 (p:Prop:=by exact ∀ (S:List Ent)(tk:List Nat)(k iq eq:Nat)(I:TI)(t:Tb)(cc:Cap)(i c:Nat)(ag:A7 S iq eq I t cc)(hi:i<t.rows.length)(hc:c<t.cost.length),∃ r,cL prog ua5 [.ref I.it I.et 0,.int i,.int c] S tk k=some r/\Ut S tk iq eq I (Dm qF t i c) cc (.tup []) r):=p
theorem Ma8 {p:Prop} (h:p:=by
 intro S tk k iq eq I t cc i c ag hi hc;obtain ⟨Φ,hΦ⟩:∃ Φ,Φ=Ut S tk iq eq I (Dm qF t i c) cc (.tup []):=⟨_,rfl⟩;rw [<- hΦ];obtain ⟨row,az⟩:=Af hi;obtain ⟨pi,gv⟩:=Af (show i<I.ids.length by rw [ag.nids]; exact hi);have iw:=ag.rowW row (Ak az);have ii:=ag.okr row (Ak az);obtain ⟨b,hb⟩:=Af (show c<row.length by omega);have ob:qF.ok b:=ii b (Ak hb);have gn:t.rows≠[]:=fun h=>by rw [h] at hi; simp at hi
 have bh:0<t.rows.length:=aA
 have aa:=ag.top;rw [A9 bh,A9 bh] at aa;have kn:=ag.rowsE gn;have j4:nth (I7 i (I.ids.map (da t.cost.length ua2))) 0=some (.sref pi.1 pi.2 0 t.cost.length ua2):=Bd (by rw [Ag] at gv ⊢; rw [Cw,gv]; rfl);have sb:=Ap (ce:=ga0) ga1 hb;have b9:=ag.rowE i pi row gv az;refine opG ga10 ga11 ?_;simp (maxSteps:=10^6)+contextual(disch:=try exact dqd)only[evg1,simprocAttr,Cb,Bg,Cc,ga12,aa,kn,j4,sb,b9,hi,hc,C9,intA,ga1,ga6,ga7];have hW:=ag.bigW;have hM:=ag.bigM;have aq:=ag.low;have dt:=aq.row pi (Ak gv);have mj:=ag.ap.row pi (Ak gv);have tq:=Wg az;have eT:({ t with rows:=t.rows,fl:=t.fl } : Tb)=t:=rfl;refine Dp (P:=prog) (fun x st=>st.T.length=89/\(divL qF b row=(x.2.2.1++(divL qF b x.2.2.2.1).1,Cj x.2.2.2.2 (divL qF b x.2.2.2.1).2))/\(x.2.2.1.length+x.2.2.2.1.length=t.cost.length)/\(A7 x.1 iq eq I { t with rows:=put t.rows i (x.2.2.1++x.2.2.2.1),fl:=Cj t.fl x.2.2.2.2 } cc)/\(entAt x.1 S.length k=some (ga0 b))/\(x.1.length=S.length+1)/\(∀ j,j<S.length->OutQ I iq j->nth x.1 j=nth S j)/\(okL qF x.2.2.2.1)/\getT st.T 0=.ref I.it I.et 0/\getT st.T 1=.int (i:Nat)/\getT st.T 2=.int (c:Nat)/\getT st.T 6=.sref pi.1 pi.2 0 t.cost.length ua2/\getT st.T 7=.ref S.length k 0/\getT st.T 23=.int (t.cost.length:Nat)/\getT st.T 24=.int (x.2.2.1.length:Nat)/\st.S=x.1/\st.tk=tk/\st.n=x.2.1) (fun x=>x.2.2.2.1.length) ((S++[⟨k,ga0 b⟩]),(k+1),([]:List Q),row,false) ?_ ?_;case refine_2=>exact ⟨rfl,by simp,by simpa using iw,by simp only [Cq,tq,Fk]; exact ag.app _,Am rfl,by simp,fun j hj _=>Ax hj,ii,rfl,rfl,rfl,rfl,rfl,rfl,rfl,rfl,rfl,rfl⟩
 rintro ⟨SS,n1,p,u,fp⟩ ⟨T,S',tk',n'⟩ ⟨hl,hR,kt,hT,y4,cn,am,ou,e0,e1,e2,e6,e7,e23,e24,eS,eT,eN⟩ IH;simp only at hR kt hT y4 cn am ou e0 e1 e2 e6 e7 e23 e24 eS eT eN;subst eS eT eN;obtain ⟨g,hg,hT⟩:=Au hl;rw [hg] at e0 e1 e2 e6 e7 e23 e24;subst hT;clear hg hl;by_cases dj:p.length<t.cost.length
 ·have c1:decide ((p.length:Int)<(t.cost.length:Int))=true:=bW
  obtain ⟨a0,u,rfl⟩:∃ a0 u',u=a0 :: u':=by
   exact Ya3x
  have oa0:=ou a0 (by simp);have ui:=Ap (ce:=ga0) ga1 (Ej (p:=p) (u:=u) (x:=a0));have yk:nth (put t.rows i (p++a0 :: u)) i=some (p++a0 :: u):=Bw hi;have he:=hT.rowE i pi _ gv yk;have cj:=hT.top;have hs:=Adh S' tk' n' iq eq (Cj t.fl fp) a0 oa0 hT.fa;have vj:u.length<(a0 :: u).length:=by simp
  have hw:Ca.wrap ((p.length:Int)+1)=(((p++[a0]).length:Nat):Int):=bI
  by_cases hz:sgn a0=0
  ·have c2:(sgn a0 != 0)=false:=cK
   have aj:dvS qF b a0=(a0,false):=by unfold dvS; rw [if_pos hz]
   simp (maxSteps:=10^6)+contextual(disch:=try exact dqd)only[evg1,simprocAttr,Cb,Bg,Cc,ga12,e0,e1,e2,e6,e7,e23,e24,c1,c2,hw,cj,he,ui,dj,hs,Eh,xfs,ga5,ga9];exact IH (S',n'+ua3,p++[a0],u,fp) _ aF ⟨rfl,by rw [hR]; simp only [divL,aj,Fa,Cn,Cq,Oi],by show (p++[a0]).length+u.length=t.cost.length; simp only [Cm,Ch,Co] at kt ⊢; omega,by simpa using hT,y4,cn,am,fun q hq=>ou q bN,aP⟩
  ·have c2:(sgn a0 != 0)=true:=cK
   obtain ⟨y,hy⟩:∃ y,y=qF.over a0 b:=⟨_,rfl⟩;have oy:qF.ok y.1:=by rw [hy]; exact Dj.over _ _ oa0 ob
   have aj:dvS qF b a0=y:=by unfold dvS; rw [if_neg hz,hy]
   have wi:Ca.wrap ((p.length:Int)+1)=(((p++[y.1]).length:Nat):Int):=bI
   have ee:=Avw S' tk' (n'+ua3) iq eq (Cj t.fl fp) a0 b oa0 ob hT.fa;have hg1:=Ek (c:=y.2) hT.fa;rw [<- hy] at ee;obtain ⟨S2,bp⟩:∃ S2,S2=flS S' iq eq y.2:=⟨_,rfl⟩;rw [<- bp] at ee hg1;have dp:FAq S2 iq eq (Cj (Cj t.fl fp) y.2):=by rw [bp]; exact hT.fa.fS
   have hl2:S2.length=S'.length:=by rw [bp,Bm]
   have bm:∀ j,j≠iq->nth S2 j=nth S' j:=fun j hj=>by rw [bp,ga8 hj]
   have ml:nth S2 S.length=nth S' S.length:=Za70
   have he2:entAt S2 pi.1 pi.2=some (flat ga0 (p++a0 :: u)):=by rw [Aa (bm _ mj.2.2.2.2)]; exact he
   have ho:=A5 (ce:=ga0) ga1 (l:=p++a0 :: u) (k:=p.length) (q':=y.1) (by simp);rw [Ev] at ho;have io:∀ x,Ib S'.length (put S2 pi.1 x)=put S2 pi.1 x:=fun x=>C6 (by simp [Ai,hl2]);simp (maxSteps:=10^6)+contextual(disch:=try exact dqd)only[evg1,simprocAttr,Cb,Bg,Cc,ga12,e0,e1,e2,e6,e7,e23,e24,c1,c2,wi,io,cj,he,ui,y4,dj,hs,ee,hg1,he2,ho,Eh,xfs,ga5,ga1,ga6,ga9];have jm:Cj t.fl (Cj fp y.2)=Cj (Cj t.fl fp) y.2:=(Fo _ _ _).symm;have ba:=hT.row (S':=put S2 pi.1 ⟨pi.2,flat ga0 (p++y.1 :: u)⟩) (r':=p++y.1 :: u) (fl':=Cj (Cj t.fl fp) y.2) gv yk Za1q (fun q hq=>by
    rcases C5.1 hq with h|h
    ·exact hT.okr _ (Ak yk) q bO
    ·rcases Cv.1 h with rfl|h
     ·exact oy
     ·exact ou q bO) (fun j h1 h2=>by rw [Ab (Ih h1),bm j h2]) (Ae (Aw he2)) (dp.put mj.2.2.2.2)
   simp only [Ms] at ba;exact IH (put S2 pi.1 ⟨pi.2,flat ga0 (p++y.1 :: u)⟩,n'+ua3+Acm b,p++[y.1],u,Cj fp y.2) _ aF ⟨rfl,by rw [hR]; simp only [divL,aj,Fa,Cn,Cq,Fo],by show (p++[y.1]).length+u.length=t.cost.length; simp only [Cm,Ch,Co] at kt ⊢; omega,by simp only [Fa,Cn,Cq,jm]; exact ba,by rw [Ah aE,Aa ml]; exact y4,by rw [Ai,hl2]; exact cn,fun j h1 h2=>by rw [Ab (Ih (h2.2.2.2 pi (Ak gv))),bm j h2.1]; exact am j h1 h2,fun q hq=>ou q bN,aP⟩
 ·have c1:decide ((p.length:Int)<(t.cost.length:Int))=false:=bW
  have hu0:u=[]:=C4.1 aA;subst hu0;simp only [divL] at hR;simp only [Fy,Co,I5,Fk] at hR kt hT;have a0s:Dm qF t i c={ t with rows:=(lessRows qF p c i 0 (put t.rows i p)).1,cost:=(lessT qF t.cost p c).1,basis:=put t.basis i c,fl:=Cj (Cj (Cj t.fl fp) (lessRows qF p c i 0 (put t.rows i p)).2) (lessT qF t.cost p c).2 }:=by
   unfold Dm Ba;rw [Av az,Av hb,hR]
  have op:okL qF p:=by have:=Ago Dj ob ii; rw [hR] at this; exact this
  have j7:=hT.top;simp only [Aj] at j7;rw [A9 bh,A9 bh] at j7;simp (maxSteps:=10^6)+contextual(disch:=try exact dqd)only[evg1,simprocAttr,Cb,Bg,Cc,ga12,e0,e1,e2,e6,e7,e23,e24,c1,j7];refine Dp (P:=prog) (fun x st=>st.T.length=89/\(lessRows qF p c i 0 (put t.rows i p)=(x.2.2.1++(lessRows qF p c i x.2.2.1.length x.2.2.2.1).1,Cj x.2.2.2.2 (lessRows qF p c i x.2.2.1.length x.2.2.2.1).2))/\(x.2.2.1.length+x.2.2.2.1.length=t.rows.length)/\(A7 x.1 iq eq I { t with rows:=x.2.2.1++x.2.2.2.1,fl:=Cj (Cj t.fl fp) x.2.2.2.2 } cc)/\(nth (x.2.2.1++x.2.2.2.1) i=some p)/\(x.1.length=S.length+1)/\(∀ j,j<S.length->OutQ I iq j->nth x.1 j=nth S j)/\getT st.T 0=.ref I.it I.et 0/\getT st.T 1=.int (i:Nat)/\getT st.T 2=.int (c:Nat)/\getT st.T 6=.sref pi.1 pi.2 0 t.cost.length ua2/\getT st.T 58=.sref I.ir I.er 0 t.rows.length 1/\getT st.T 59=.int (t.rows.length:Nat)/\getT st.T 60=.int (x.2.2.1.length:Nat)/\st.S=x.1/\st.tk=tk'/\st.n=x.2.1) (fun x=>x.2.2.2.1.length) (S',n',([]:List (List Q)),(put t.rows i p),false) ?_ ?_;case refine_2=>exact ⟨rfl,by simp,by simp [Aj],by simp only [Cq,Fk]; exact hT,Za46,cn,am,rfl,rfl,rfl,rfl,rfl,rfl,rfl,rfl,rfl,rfl⟩
  rintro ⟨SS,n1,P,U,fq⟩ ⟨T,S',tk',n'⟩ ⟨hl,fi,d7,ai,bl,rh,jy,e0,e1,e2,e6,e58,e59,e60,eS,eT,eN⟩ IH;simp only at fi d7 ai bl rh jy e0 e1 e2 e6 e58 e59 e60 eS eT eN;subst eS eT eN;obtain ⟨g,hg,hT⟩:=Au hl;rw [hg] at e0 e1 e2 e6 e58 e59 e60;subst hT;clear hg hl;by_cases cq:P.length<t.rows.length
  ·have c2:decide ((P.length:Int)<(t.rows.length:Int))=true:=bX
   obtain ⟨r0,U,rfl⟩:∃ r0 U',U=r0 :: U':=by
    exact Ya3y
   have vj:U.length<(r0 :: U).length:=by simp
   obtain ⟨pk,d6⟩:=Af (show P.length<I.ids.length by rw [ag.nids]; exact cq);have bj:nth (I7 P.length (I.ids.map (da t.cost.length ua2))) 0=some (.sref pk.1 pk.2 0 t.cost.length ua2):=Bd (by rw [Ag] at d6 ⊢; rw [Cw,d6]; rfl);have ef:nth (P++r0 :: U) P.length=some r0:=Ej;have a0q:P++r0 :: U≠[]:=by simp
   have ri:=ai.rowsE a0q;have hw2:∀ z:List Q,Ca.wrap ((P.length:Int)+1)=(((P++[z]).length:Nat):Int):=fun z=>bI
   by_cases qq:P.length=i
   ·have c3:((P.length:Int) != (i:Int))=false:=by rw [qq]; simp
    have yg:lessK qF p c i P.length r0=(r0,false):=by unfold lessK; rw [if_pos qq]
    have hw3:=hw2 r0;simp (maxSteps:=10^6)+contextual(disch:=try exact dqd)only[evg1,simprocAttr,Cb,Bg,Cc,ga12,e0,e1,e2,e6,e58,e59,e60,c2,c3,ri,bj,cq,hw3,C9];exact IH (S',n',P++[r0],U,fq) _ aF ⟨rfl,by rw [fi]; simp only [lessRows,yg,Fa,Cn,Cq,Oi,Cm,Ch,Co,El],Za08,by simpa using ai,by simpa using bl,rh,jy,aP⟩
   ·have c3:((P.length:Int) != (i:Int))=true:=aD
    have bw:=ai.rowE P.length pk r0 d6 ef;have o7:=ai.rowE i pi p gv bl;have dh:=ai.rowW r0 (Ak ef);have c9:=ag.ap.row pk (Ak d6);obtain ⟨r,au,S3,k3,rfl,dz,mi,de,cu⟩:=Atn S' tk' n' iq eq _ I.it I.et pk.1 pk.2 pi.1 pi.2 t.cost.length c _ r0 p ai.top ai.fa bw o7 dh kt hc hW (ai.okr r0 (Ak ef)) op (ag.ap.rows _ _ pk pi d6 gv qq) c9.1 c9.2.2.2.2 ag.ap.qt mj.2.2.2.2.symm;have yg:lessK qF p c i P.length r0=lessT qF r0 p c:=by unfold lessK; rw [if_neg qq]
    obtain ⟨z,hz⟩:∃ z,z=lessT qF r0 p c:=⟨_,rfl⟩;rw [<- hz] at mi de yg;have hw3:=hw2 z.1;have io:Ib S'.length S3=S3:=C6 aA;simp (maxSteps:=10^6)+contextual(disch:=try exact dqd)only[evg1,simprocAttr,Cb,Bg,Cc,ga12,e0,e1,e2,e6,e58,e59,e60,c2,c3,ri,bj,cq,hw3,au,io,C9];have ba:=ai.row (S':=S3) (r':=z.1) (fl':=Cj (Cj (Cj t.fl fp) fq) z.2) d6 ef (by rw [hz,K8]; exact dh) (by rw [hz]; exact V6 Dj (ai.okr r0 (Ak ef)) op) cu mi de;simp only [Ev] at ba;exact IH (S3,k3,P++[z.1],U,Cj fq z.2) _ aF ⟨rfl,by rw [fi]; simp only [lessRows,yg,Fa,Cn,Cq,Fo,Cm,Ch,Co,El],by show (P++[z.1]).length+U.length=t.rows.length; simp only [Cm,Ch,Co] at d7 ⊢; omega,by simpa [Fo] using ba,Za0k,by rw [dz]; exact rh,fun j h1 h2=>by rw [cu j (h2.2.2.2 pk (Ak d6)) h2.1]; exact jy j h1 h2,aP⟩
  ·have c2:decide ((P.length:Int)<(t.rows.length:Int))=false:=bX
   have wj:U=[]:=C4.1 aA;subst wj;simp only [lessRows] at fi;simp only [Fy,Co,I5,Fk] at fi d7 ai bl;have sf:P≠[]:=fun h=>by rw [h] at d7; simp at d7; omega
   have du:=ai.top;simp only [d7] at du;rw [A9 bh,A9 bh] at du;have o7:=ai.rowE i pi p gv bl;obtain ⟨r,au,S3,k3,rfl,dz,mi,de,cu⟩:=Atn S' tk' n' iq eq _ I.it I.et I.ic I.ec pi.1 pi.2 t.cost.length c _ t.cost p ai.top ai.fa ai.costE o7 rfl kt hc hW ag.okc op mj.2.2.1.symm ag.ap.tc.symm ag.ap.qc.symm ag.ap.qt mj.2.2.2.2.symm;have ba:=ai.setCost (S':=S3) (k':=(lessT qF t.cost p c).1) K8 (V6 Dj ag.okc op) cu mi de;have o8:=ba.top;simp only [d7] at o8;rw [A9 bh,A9 bh] at o8;have jf:=ba.basisE sf;obtain ⟨b0,hb0⟩:=Af (show i<t.basis.length by rw [ag.nb]; exact hi);have ky:over (t.basis.map intA) i [.prim (.int .i64 (c:Int))]=some ((put t.basis i c).map intA):=by
    exact Ya2q
   have fd:=ba.setBasis (i:=i) (b:=c) sf (by simp only [K8]; exact hc);simp (maxSteps:=10^6)+contextual(disch:=try exact dqd)only[evg1,simprocAttr,Cb,Bg,Cc,ga12,e0,e1,e2,e6,e58,e59,e60,c2,du,au,o8,jf,ky,hi,C9];rw [hΦ,a0s,fi];have a0t:LowQ I iq S.length { t with rows:=P,cost:=(lessT qF t.cost p c).1,basis:=put t.basis i c,fl:=Cj (Cj (Cj t.fl fp) fq) (lessT qF t.cost p c).2 }:=aq.of fun _=>gn;exact ⟨_,_,rfl,by rw [Iu,Ai,dz]; omega,fd.take a0t,fun j hj=>by
    by_cases gj:j<S.length
    ·rw [B6 gj,Ab (Ih hj.2.2.1),cu j hj.2.1 hj.1]; exact jy j gj hj
    ·rw [Ag,Ag,Cu cD,Cu aA]⟩):p:=h
namespace QQ
theorem Ar2:Aw8:=Ma8
end QQ
end
end
section
open Go Tryz
open Go.Proofs.Tryz renaming func108->ga13,ntmps108->ga14,results108->ga15
open Go.Proofs.YtcjffhadclngmaaGreat renaming ceQ->ga0,Ay->ga1,puQ->ga5,Bs->ga6,ovQ->ga7,A2->ga8,tkQ->ga9
set_option maxRecDepth 100000
namespace QQ
abbrev ua6:Nat:=108
end QQ
set_option maxHeartbeats 8000000
set_option maxRecDepth 100000
def Py:Option (Nat × Q)->AV
 | none=>.int (-1)
 | some (i,_)=>.int (i:Nat)
theorem Nk {F:Fld} {basis:List Nat} {c W m:Nat} : ∀ {l:List (List Q)} {k:Nat} {b:Option (Nat × Q)} {i:Nat} {q:Q} {f:Bool},k+l.length<=m->(∀ i q,b=some (i,q)->i<m)->Dd F basis c W k l b=(some (i,q),f)->i<m
 | [],k,b,i,q,f,_,hb,h=>by
  simp only [Dd,Cg] at h;exact hb i q h.1
 | r :: l,k,b,i,q,f,hl,hb,h=>by
  simp only [Ch] at hl;unfold Dd at h;split at h
  ·exact Nk aA hb h
  ·split at h
   ·simp only [Cg] at h;exact Nk (k:=k+1) (l:=l) aA (fun i q e=>by simp only [A8,Cg] at e; omega) (Prod.ext h.1 rfl)
   ·rename_i bi least;simp only [Cg] at h;refine Nk (k:=k+1) (l:=l) aA (fun i' q' e=>?_) (Prod.ext h.1 rfl);split at e
    ·simp only [A8,Cg] at e;exact hb i' least (by rw [e.1])
    ·simp only [A8,Cg] at e; omega
theorem Ami {F:Fld} {t:Tb} {c i:Nat} {q:Q} {f:Bool} (h:B0 F t c=(some (i,q),f)):i<t.rows.length :=
 Nk (k:=0) (by simp) (fun _ _ e=>by cases e) h
section
variable (S:List Ent) (tk:List Nat) (k iq eq:Nat)
abbrev Aw9 (p:Prop:=by exact ∀ (S:List Ent)(tk:List Nat)(k iq eq:Nat)(I:TI)(t:Tb)(cc:Cap)(c:Nat)(ag:A7 S iq eq I t cc)(hc:c<t.cost.length),∃ r,cL prog ua6 [.ref I.it I.et 0,.int c] S tk k=some r/\Ut S tk iq eq I { t with fl:=Cj t.fl (B0 qF t c).2 } cc (Py (B0 qF t c).1) r):=p
theorem Ma9 {p:Prop} (h:p:=by
 intro S tk k iq eq I t cc c ag hc;obtain ⟨Φ,hΦ⟩:∃ Φ,Φ=Ut S tk iq eq I { t with fl:=Cj t.fl (B0 qF t c).2 } cc (Py (B0 qF t c).1):=⟨_,rfl⟩;rw [<- hΦ];have aa:=ag.top;by_cases cg:t.rows=[]
 ·have c8:t.rows.length=0:=by rw [cg]; rfl
  rw [c8] at aa;simp only [di] at aa;have i8:B0 qF t c=(none,false):=by unfold B0; rw [cg]; rfl
  refine opG ga13 ga14 ?_;have d0:decide ((0:Int)<((0:Nat):Int))=false:=rfl;simp (maxSteps:=10^6)+contextual(disch:=try exact dqd)only[evg1,simprocAttr,Cb,Bg,Cc,ga15,aa];refine Dp (P:=prog) (fun x st=>st.T.length=93/\getT st.T 5=.int (-1)/\getT st.T 15=.int ((0:Nat):Int)/\getT st.T 16=.int 0/\st.S=S++[⟨k,zeroQ⟩]/\st.tk=tk/\st.n=x) (fun x=>0) (k+1) ?_ ?_;case refine_2=>exact ⟨rfl,rfl,rfl,rfl,rfl,rfl,rfl⟩
  rintro n1 ⟨T,S',tk',n'⟩ ⟨hl,e5,e15,e16,eS,eT,eN⟩ IH;subst eS eT eN;obtain ⟨g,hg,hT⟩:=Au hl;rw [hg] at e5 e15 e16;subst hT;clear hg hl;simp (maxSteps:=10^6)+contextual(disch:=try exact dqd)only[evg1,simprocAttr,Cb,Bg,Cc,ga15,e5,e15,e16,d0,Jn];rw [hΦ,i8];exact ⟨S,_,rfl,rfl,by simp only [Fk]; exact ag,fun j _=>rfl⟩
 have bh:0<t.rows.length:=F8.2 cg;rw [A9 bh,A9 bh] at aa;have kn:=ag.rowsE cg;have hW:=ag.bigW;have hM:=ag.bigM;have aq:=ag.low;have dd:=ag.real;refine opG ga13 ga14 ?_;simp (maxSteps:=10^6)+contextual(disch:=try exact dqd)only[evg1,simprocAttr,Cb,Bg,Cc,ga15,aa];refine Dp (P:=prog) (fun x st=>st.T.length=93/\(B0 qF t c=((Dd qF t.basis c t.cost.length x.2.2.1.length x.2.2.2.1 x.2.2.2.2.1).1,Cj x.2.2.2.2.2 (Dd qF t.basis c t.cost.length x.2.2.1.length x.2.2.2.1 x.2.2.2.2.1).2))/\(t.rows=x.2.2.1++x.2.2.2.1)/\(A7 x.1 iq eq I { t with fl:=Cj t.fl x.2.2.2.2.2 } cc)/\(∃ lc,entAt x.1 S.length k=some lc/\lc.length=ua2/\∀ bi q,x.2.2.2.2.1=some (bi,q)->lc=ga0 q/\bi<x.2.2.1.length/\qF.ok q)/\(x.1.length=S.length+1)/\(∀ j,j<S.length->OutQ I iq j->nth x.1 j=nth S j)/\getT st.T 0=.ref I.it I.et 0/\getT st.T 1=.int (c:Nat)/\getT st.T 5=Py x.2.2.2.2.1/\getT st.T 6=.ref S.length k 0/\getT st.T 14=.sref I.ir I.er 0 t.rows.length 1/\getT st.T 15=.int (t.rows.length:Nat)/\getT st.T 16=.int (x.2.2.1.length:Nat)/\st.S=x.1/\st.tk=tk/\st.n=x.2.1) (fun x=>x.2.2.2.1.length) ((S++[⟨k,zeroQ⟩]),(k+1),([]:List (List Q)),t.rows,(none:Option (Nat × Q)),false) ?_ ?_;case refine_2=>exact ⟨rfl,by simp [B0],rfl,by simp only [Fk]; exact ag.app _,⟨_,Am rfl,rfl,fun _ _ h=>aR⟩,by simp,fun j hj _=>Ax hj,rfl,rfl,rfl,rfl,rfl,rfl,rfl,rfl,rfl,rfl⟩
 rintro ⟨SS,n1,P,U,bst,fq⟩ ⟨T,S',tk',n'⟩ ⟨hl,hR,d7,hT,lh,cn,am,e0,e1,e5,e6,e14,e15,e16,eS,eT,eN⟩ IH;simp only at hR d7 hT lh cn am e0 e1 e5 e6 e14 e15 e16 eS eT eN;subst eS eT eN;obtain ⟨g,hg,hT⟩:=Au hl;rw [hg] at e0 e1 e5 e6 e14 e15 e16;subst hT;clear hg hl;have vq:t.rows.length=P.length+U.length:=dP
 obtain ⟨lc,y5,a0u,hlb⟩:=lh;by_cases cq:P.length<t.rows.length
 ·have c1:decide ((P.length:Int)<(t.rows.length:Int))=true:=bX
  obtain ⟨r0,U,rfl⟩:∃ r0 U',U=r0 :: U':=by
   exact Ya1f
  have vj:U.length<(r0 :: U).length:=by simp
  obtain ⟨pk,d6⟩:=Af (show P.length<I.ids.length by rw [ag.nids]; exact cq);have bj:nth (I7 P.length (I.ids.map (da t.cost.length ua2))) 0=some (.sref pk.1 pk.2 0 t.cost.length ua2):=Bd (by rw [Ag] at d6 ⊢; rw [Cw,d6]; rfl);have ef:nth t.rows P.length=some r0:=by rw [d7]; exact Ej
  have dh:=ag.rowW r0 (Ak ef);have ii:=ag.okr r0 (Ak ef);have ff:=hT.rowsE cg;have bw:=hT.rowE P.length pk r0 d6 ef;have cj:=hT.top;simp only at cj;rw [A9 bh,A9 bh] at cj;obtain ⟨x,hx⟩:=Af (show c<r0.length by omega);obtain ⟨z,hz⟩:=Af (show t.cost.length - 1<r0.length by omega);have ox:=ii x (Ak hx);have oz:=ii z (Ak hz);have d9:=Ap (ce:=ga0) ga1 hx;have jw:=Ap (ce:=ga0) ga1 hz;have hs:=Adh S' tk' n' iq eq (Cj t.fl fq) x ox hT.fa;have hw2:Ca.wrap ((P.length:Int)+1)=(((P++[r0]).length:Nat):Int):=bI
  have gy:t.rows=(P++[r0])++U:=dP
  have me:(P++[r0]).length=P.length+1:=by simp
  by_cases mg:sgn x<=0
  ·have c2:decide (sgn x<=0)=true:=gN
   simp (maxSteps:=10^6)+contextual(disch:=try exact dqd)only[evg1,simprocAttr,Cb,Bg,Cc,ga15,e0,e1,e5,e6,e14,e15,e16,c1,c2,hw2,cj,ff,bj,bw,d9,cq,hc,hs,Eh,xfs,ga5,ga9,C9];exact IH (S',n'+ua3,P++[r0],U,bst,fq) _ aF ⟨rfl,by rw [hR,me]; simp only [Dd,Av hx]; rw [if_pos mg],gy,hT,⟨lc,y5,a0u,fun bi q h=>by obtain ⟨h1,h2,h3⟩:=hlb bi q h; exact ⟨h1,Za3p,h3⟩⟩,cn,am,aP⟩
  ·have c2:decide (sgn x<=0)=false:=gN
   obtain ⟨y,hy⟩:∃ y,y=qF.over z x:=⟨_,rfl⟩;have oy:qF.ok y.1:=by rw [hy]; exact Dj.over _ _ oz ox
   have ee:=Avw S' tk' (n'+ua3) iq eq (Cj t.fl fq) z x oz ox hT.fa;have hg1:=Ek (c:=y.2) hT.fa;rw [<- hy] at ee;obtain ⟨S2,bp⟩:∃ S2,S2=flS S' iq eq y.2:=⟨_,rfl⟩;rw [<- bp] at ee hg1;have dp:FAq S2 iq eq (Cj (Cj t.fl fq) y.2):=by rw [bp]; exact hT.fa.fS
   have hl2:S2.length=S'.length:=by rw [bp,Bm]
   have bm:∀ j,j≠iq->nth S2 j=nth S' j:=fun j hj=>by rw [bp,ga8 hj]
   have ml:nth S2 S.length=nth S' S.length:=Za70
   have si:entAt S2 S.length k=some lc:=by rw [Aa ml]; exact y5
   have ig:Ca.wrap ((t.cost.length:Int) - 1)=((t.cost.length - 1:Nat):Int):=aS
   have ku:t.cost.length - 1<t.cost.length:=aA
   obtain ⟨n2,wk⟩:∃ n2,n2=n'+ua3+Acm x:=⟨_,rfl⟩;rw [<- wk] at ee;obtain ⟨E,hE⟩:∃ E:Ent,E=⟨n2,ga0 y.1⟩:=⟨_,rfl⟩;have hqE:entAt (S2++[⟨n2,ga0 y.1⟩]) S2.length n2=some (ga0 y.1):=Az;have o9:=Ad (L:=[⟨n2,ga0 y.1⟩]) si;have a2z:over lc 0 (ga0 y.1)=some (ga0 y.1):=by
    have:=Uc (e:=lc) (r:=[]) (e':=ga0 y.1) (by rw [a0u]; rfl);exact Ya1d
   have wl:S.length<S2.length:=aA
   have sj:∀ v,Ib S'.length (put S2 S.length v++[⟨n2,ga0 y.1⟩])=put S2 S.length v:=fun v=>by rw [<- hl2,<- Ai (l:=S2) (i:=S.length) (v:=v)]; simp
   have a20:=fun v=>B4 (L:=[⟨n2,ga0 y.1⟩]) (x:=v) wl;cases bst with
   | none =>
    have c3:decide ((-1:Int) >= 0)=false:=rfl;simp only [Py] at e5;simp (maxSteps:=10^6)+contextual(disch:=try exact dqd)only[evg1,simprocAttr,Cb,Bg,Cc,ga15,e0,e1,e5,e6,e14,e15,e16,c1,c2,c3,hw2,cj,ff,bj,bw,d9,jw,ig,ku,cq,hc,hs,ee,hg1,hqE,o9,a2z,a20,sj,Eh,xfs,ga5,ga9,ga1,ga6,ga7,C9];have ba:=hT.frame (S':=put S2 S.length ⟨k,ga0 y.1⟩) (n:=S.length) (fl':=Cj (Cj t.fl fq) y.2) (aq.of fun h=>h) (fun j h1 h2=>by rw [Ab aA,bm j h2]) (by first|exact ⟨⟩|exact dp.put (fun h=>dG));exact IH (put S2 S.length ⟨k,ga0 y.1⟩,n2+1,P++[r0],U,some (P.length,y.1),Cj fq y.2) _ aF ⟨rfl,by rw [hR,me]; simp only [Dd,Av hx,Av hz]; rw [if_neg mg,<- hy,<- Fo],gy,by simpa only [Fo] using ba,⟨_,Ae wl,ga1 _,fun bi q h=>Za6r⟩,by rw [Ai,hl2]; exact cn,fun j h1 h2=>by rw [Ab aE,bm j h2.1]; exact am j h1 h2,aP⟩
   | some bq =>
    obtain ⟨bi,least⟩:=bq;obtain ⟨a21,hbi,ol⟩:=hlb bi least rfl;subst a21;have c3:decide ((bi:Int) >= 0)=true:=by simp
    simp only [Py] at e5;obtain ⟨d,hd⟩:∃ d,d=qF.minus y.1 least:=⟨_,rfl⟩;have ie:=L2 (S2++[⟨n2,ga0 y.1⟩]) tk' (n2+1) iq eq (Cj (Cj t.fl fq) y.2) y.1 least oy ol (dp.app (L:=[⟨n2,ga0 y.1⟩]));have hg2:=Ek (c:=d.2) (b:=Cj (Cj t.fl fq) y.2) (dp.app (L:=[⟨n2,ga0 y.1⟩]));rw [<- hd] at ie;rw [Hj dp] at ie hg2;obtain ⟨S3,dn⟩:∃ S3,S3=flS S2 iq eq d.2:=⟨_,rfl⟩;rw [<- dn] at ie hg2;have od:qF.ok d.1:=by rw [hd]; exact Dj.minus _ _ oy ol
    have de:FAq S3 iq eq (Cj (Cj (Cj t.fl fq) y.2) d.2):=by rw [dn]; exact dp.fS
    have qx:=Adh (S3++[⟨n2,ga0 y.1⟩]) tk' (n2+1+ua4) iq eq (Cj (Cj (Cj t.fl fq) y.2) d.2) d.1 od (de.app (L:=[⟨n2,ga0 y.1⟩]));have dz:S3.length=S2.length:=by rw [dn,Bm]
    have cu:∀ j,j≠iq->nth S3 j=nth S2 j:=fun j hj=>by rw [dn,ga8 hj]
    have pf:nth S3 S.length=nth S2 S.length:=by rw [dn]; first|rfl|exact A2 dG
    have lw:entAt (S2++[⟨n2,ga0 y.1⟩]) I.it I.et=some [.ifc ua0 (rcvQ iq eq),intA t.vars,intA t.real,.sref I.ir I.er 0 t.rows.length 1,.sref I.ic I.ec 0 t.cost.length ua2,.sref I.ib I.eb 0 t.rows.length 1,.frz (t.flip.map De) cc]:=Ad (by rw [Aa (bm _ ag.ap.qt.symm)]; exact cj);have md:entAt (S3++[⟨n2,ga0 y.1⟩]) I.it I.et=some [.ifc ua0 (rcvQ iq eq),intA t.vars,intA t.real,.sref I.ir I.er 0 t.rows.length 1,.sref I.ic I.ec 0 t.cost.length ua2,.sref I.ib I.eb 0 t.rows.length 1,.frz (t.flip.map De) cc]:=Ad (by rw [Aa (cu _ ag.ap.qt.symm),Aa (bm _ ag.ap.qt.symm)]; exact cj);have hb3:entAt (S3++[⟨n2,ga0 y.1⟩]) I.ib I.eb=some (t.basis.map intA):=Ad (by rw [Aa (cu _ ag.ap.qb.symm),Aa (bm _ ag.ap.qb.symm)]; exact hT.basisE cg);obtain ⟨bk,g8⟩:=Af (show P.length<t.basis.length by rw [ag.nb]; exact cq);obtain ⟨bb,hbb⟩:=Af (show bi<t.basis.length by rw [ag.nb]; omega);have eo:nth (I7 P.length (t.basis.map intA)) 0=some (.prim (.int .i64 (bk:Int))):=Bd (by rw [Ag] at g8 ⊢; rw [Cw,g8]; rfl);have rj:nth (I7 bi (t.basis.map intA)) 0=some (.prim (.int .i64 (bb:Int))):=Bd (by rw [Ag] at hbb ⊢; rw [Cw,hbb]; rfl);have sk:bi<t.rows.length:=aA
    have a0v:entAt (S3++[⟨n2,ga0 y.1⟩]) S2.length n2=some (ga0 y.1):=Am dz;have a0w:entAt (S3++[⟨n2,ga0 y.1⟩]) S.length k=some (ga0 least):=Ad Za5q;have a0x:Ib S'.length (S3++[⟨n2,ga0 y.1⟩])=S3:=by rw [<- hl2,<- dz]; simp
    have a0y:∀ v,Ib S'.length (put S3 S.length v++[⟨n2,ga0 y.1⟩])=put S3 S.length v:=fun v=>by rw [<- hl2,<- dz,<- Ai (l:=S3) (i:=S.length) (v:=v)]; simp
    have a0z:=fun v=>B4 (L:=[⟨n2,ga0 y.1⟩]) (x:=v) (show S.length<S3.length by omega);have hw:worse t.basis (sgn d.1) P.length bi=(decide (0<sgn d.1) || (sgn d.1 == 0 && decide (bb<bk))):=by unfold worse; rw [Av g8,Av hbb]
    have wm:Cj fq (Cj (Cj y.2 d.2) (Dd qF t.basis c t.cost.length (P++[r0]).length U (if worse t.basis (sgn d.1) P.length bi=true then some (bi,least) else some (P.length,y.1))).2)=Cj (Cj fq (Cj y.2 d.2)) (Dd qF t.basis c t.cost.length (P++[r0]).length U (if worse t.basis (sgn d.1) P.length bi=true then some (bi,least) else some (P.length,y.1))).2:=(Fo _ _ _).symm;have ko:B0 qF t c=((Dd qF t.basis c t.cost.length (P++[r0]).length U (if worse t.basis (sgn d.1) P.length bi=true then some (bi,least) else some (P.length,y.1))).1,Cj (Cj fq (Cj y.2 d.2)) (Dd qF t.basis c t.cost.length (P++[r0]).length U (if worse t.basis (sgn d.1) P.length bi=true then some (bi,least) else some (P.length,y.1))).2):=by
     rw [hR,<- wm,me]; simp only [Dd,Av hx,Av hz]; rw [if_neg mg,<- hy,<- hd]
    have y6:A7 S3 iq eq I { t with fl:=Cj t.fl (Cj fq (Cj y.2 d.2)) } cc:=by
     have:=hT.frame (S':=S3) (n:=S.length) (fl':=Cj (Cj (Cj t.fl fq) y.2) d.2) (aq.of fun h=>h) (fun j h1 h2=>by rw [cu j h2,bm j h2]) de;simpa only [Fo] using this
    have hTn:A7 (put S3 S.length ⟨k,ga0 y.1⟩) iq eq I { t with fl:=Cj t.fl (Cj fq (Cj y.2 d.2)) } cc:=y6.frame (n:=S.length) (aq.of fun h=>h) (fun j h1 h2=>by rw [Ab aA]) (by first|exact ⟨⟩|exact y6.fa.put (fun h=>dG));by_cases h1:0<sgn d.1
    ·have k1:decide (sgn d.1 > 0)=true:=aU
     have kq:worse t.basis (sgn d.1) P.length bi=true:=by rw [hw]; simp [h1]
     rw [if_pos kq] at ko;simp (maxSteps:=10^6)+contextual(disch:=try exact dqd)only[evg1,simprocAttr,Cb,Bg,Cc,ga15,e0,e1,e5,e6,e14,e15,e16,c1,c2,c3,k1,hw2,cj,lw,md,hb3,ff,bj,bw,d9,jw,ig,ku,cq,sk,hc,hs,qx,ee,ie,hg1,hg2,hqE,o9,eo,rj,a0x,Eh,xfs,ga5,ga9,ga1,ga6,ga7,C9];exact Ya0u
    have k1:decide (sgn d.1 > 0)=false:=aU
    by_cases h2:sgn d.1=0
    ·have k2:(sgn d.1 == 0)=true:=cA
     by_cases h3:bb<bk
     ·have k3:decide ((bk:Int) > (bb:Int))=true:=eH
      have kq:worse t.basis (sgn d.1) P.length bi=true:=by rw [hw]; simp [h2,h3]
      rw [if_pos kq] at ko;simp (maxSteps:=10^6)+contextual(disch:=try exact dqd)only[evg1,simprocAttr,Cb,Bg,Cc,ga15,e0,e1,e5,e6,e14,e15,e16,c1,c2,c3,k1,k2,k3,hw2,cj,lw,md,hb3,ff,bj,bw,d9,jw,ig,ku,cq,sk,hc,hs,qx,ee,ie,hg1,hg2,hqE,o9,eo,rj,a0x,Eh,xfs,ga5,ga9,ga1,ga6,ga7,C9];exact Ya0u
     ·have k3:decide ((bk:Int) > (bb:Int))=false:=aD
      have kq:worse t.basis (sgn d.1) P.length bi=false:=by rw [hw]; simp [h2,h3]
      rw [kq,if_neg F6] at ko;simp (maxSteps:=10^6)+contextual(disch:=try exact dqd)only[evg1,simprocAttr,Cb,Bg,Cc,ga15,e0,e1,e5,e6,e14,e15,e16,c1,c2,c3,k1,k2,k3,hw2,cj,lw,md,hb3,ff,bj,bw,d9,jw,ig,ku,cq,sk,hc,hs,qx,ee,ie,hg1,hg2,hqE,o9,a0v,a0w,eo,rj,a0y,a0z,ovQ2,Eh,xfs,ga5,ga9,ga1,ga6,ga7,C9];exact Ya0h
    ·have k2:(sgn d.1 == 0)=false:=cA
     have kq:worse t.basis (sgn d.1) P.length bi=false:=by rw [hw]; simp [h1,h2]
     rw [kq,if_neg F6] at ko;simp (maxSteps:=10^6)+contextual(disch:=try exact dqd)only[evg1,simprocAttr,Cb,Bg,Cc,ga15,e0,e1,e5,e6,e14,e15,e16,c1,c2,c3,k1,k2,hw2,cj,lw,md,hb3,ff,bj,bw,d9,jw,ig,ku,cq,sk,hc,hs,qx,ee,ie,hg1,hg2,hqE,o9,a0v,a0w,a0y,a0z,ovQ2,Eh,xfs,ga5,ga9,ga1,ga6,ga7,C9];exact Ya0h
 ·have c1:decide ((P.length:Int)<(t.rows.length:Int))=false:=bX
  have wj:U=[]:=C4.1 aA;subst wj;simp (maxSteps:=10^6)+contextual(disch:=try exact dqd)only[evg1,simprocAttr,Cb,Bg,Cc,ga15,e0,e1,e5,e6,e14,e15,e16,c1];simp only [Dd,Fk] at hR;have hfz:fz3 S.length S' (Py bst)=Py bst:=by cases bst <;> rfl
  rw [hΦ,hR,hfz];exact ⟨_,_,rfl,cD,hT.take (aq.of fun h=>h),fun j hj=>by
   by_cases gj:j<S.length
   ·rw [B6 gj]; exact am j gj hj
   ·rw [Ag,Ag,Cu cD,Cu aA]⟩):p:=h
namespace QQ
theorem Aqb:Aw9:=Ma9
end QQ
end
end
section
open Go Tryz
open Go.Proofs.Tryz renaming func82->ga16,ntmps82->ga17,results82->ga18
open Go.Proofs.YtcjffhadclngmaaGreat renaming ceQ->ga0,Ay->ga1,puQ->ga5,tkQ->ga9
set_option maxRecDepth 100000
namespace QQ
abbrev ua7:Nat:=82
end QQ
set_option maxHeartbeats 8000000
set_option maxRecDepth 100000
section
variable (S:List Ent) (tk:List Nat) (k iq eq:Nat)
abbrev Aw10 (p:Prop:=by exact ∀ (S:List Ent)(tk:List Nat)(k iq eq:Nat)(I:TI)(t t':Tb)(cc:Cap)(K:Nat)(b:Bool)(ag:A7 S iq eq I t cc)(hK:Gp qF K t=some (b,t')),∃ r,cL prog ua7 [.ref I.it I.et 0] S tk k=some r/\Ut S tk iq eq I t' cc (.bool b) r):=p
theorem Ma10 {p:Prop} (h:p:=by
 intro S tk k iq eq I t t' cc K b ag hK;obtain ⟨Φ,hΦ⟩:∃ Φ,Φ=Ut S tk iq eq I t' cc (.bool b):=⟨_,rfl⟩;rw [<- hΦ];refine opG ga16 ga17 ?_;simp (maxSteps:=10^6)+contextual(disch:=try exact dqd)only[evg1,simprocAttr,Cb,Bg,Cc,ga18];refine Dp (P:=prog) (fun x st=>st.T.length=46/\(Gp qF x.2.2.1 x.2.2.2=some (b,t'))/\(A7 x.1 iq eq I x.2.2.2 cc)/\(x.1.length=S.length)/\(∀ j,OutQ I iq j->nth x.1 j=nth S j)/\getT st.T 0=.ref I.it I.et 0/\st.S=x.1/\st.tk=tk/\st.n=x.2.1) (fun x=>x.2.2.1) (S,k,K,t) ?_ ?_;case refine_2=>exact ⟨rfl,hK,ag,rfl,fun j _=>rfl,rfl,rfl,rfl,rfl⟩
 rintro ⟨SS,n1,K1,t1⟩ ⟨T,S',tk',n'⟩ ⟨hl,dy,hT,cn,am,e0,eS,eT,eN⟩ IH;simp only at dy hT cn am e0 eS eT eN;subst eS eT eN;obtain ⟨g,hg,hT⟩:=Au hl;rw [hg] at e0;subst hT;clear hg hl;have IHA:=IH;clear IH;cases K1 with
 | zero=>simp [Gp] at dy
 | succ K1 =>
 have aa:=hT.top;have dd:=hT.real;have hW:=hT.bigW;have gg:=Vg S' tk' n' iq eq t1.fl hT.fa;have jm:Ib S.length S'=S':=C6 aA;unfold Gp at dy;cases aj:(qF.stop && t1.fl) with
 | true =>
  rw [aj] at dy gg;rw [if_pos rfl] at dy;simp only [A8,Cg] at dy;obtain ⟨rfl,rfl⟩:=dy;simp (maxSteps:=10^6)+contextual(disch:=try exact dqd)only[evg1,simprocAttr,Cb,Bg,Cc,ga18,e0,aa,gg,Eh,xfs,ga5];rw [hΦ,jm];exact ⟨S',n',rfl,cn,hT,am⟩
 | false =>
 rw [aj] at dy gg;rw [if_neg F6] at dy;simp only [intA] at aa;simp (maxSteps:=10^6)+contextual(disch:=try exact dqd)only[evg1,simprocAttr,Cb,Bg,Cc,ga18,e0,aa,gg,Eh,xfs,ga5];refine Dp (P:=prog) (fun x st=>st.T.length=46/\(x.2<=t1.real)/\(colF t1.cost t1.real 0=colF t1.cost (t1.real - x.2) x.2)/\getT st.T 0=.ref I.it I.et 0/\getT st.T 3=.int (-1)/\getT st.T 14=.int (t1.real:Nat)/\getT st.T 15=.int (x.2:Nat)/\st.S=S'/\st.tk=tk'/\st.n=x.1) (fun x=>t1.real - x.2) (n',0) ?_ ?_;case refine_2=>exact ⟨rfl,Cl _,rfl,rfl,rfl,rfl,rfl,rfl,rfl,rfl⟩
 rintro ⟨n2,j⟩ ⟨T,S',tk',n'⟩ ⟨hl,hj,hc,e0,e3,e14,e15,eS,eT,eN⟩ IH;simp only at hj hc e0 e3 e14 e15 eS eT eN;subst eS eT eN;obtain ⟨g,hg,hT⟩:=Au hl;rw [hg] at e0 e3 e14 e15;subst hT;clear hg hl;by_cases rk:j<t1.real
 ·have c1:decide ((j:Int)<(t1.real:Int))=true:=cQ
  have hw:Ca.wrap ((j:Int)+1)=((j+1:Nat):Int):=aK
  have kv:j<t1.cost.length:=aA
  obtain ⟨x,hx⟩:=Af kv;have ox:=hT.okc x (Ak hx);have d9:=Ap (ce:=ga0) ga1 hx;have hs:=Adh S' tk' n' iq eq t1.fl x ox hT.fa;have fm:=hT.costE;have q9:colF t1.cost (t1.real - j) j=if sgn x<0 then some j else colF t1.cost (t1.real - (j+1)) (j+1):=by
   rw [show t1.real - j=(t1.real - (j+1))+1 by omega];simp only [colF,Av hx]
  by_cases hneg:sgn x<0
  ·have c2:decide (sgn x<0)=true:=aX
   have c3:decide ((j:Int)<0)=false:=by simp
   rw [hc,q9,if_pos hneg] at dy;simp only at dy;obtain ⟨r,i8,S2,k2,rfl,hl2,ai,dp⟩:=Aqb S' tk' (n'+ua3) iq eq I t1 cc j hT kv;obtain ⟨lv,a00⟩:∃ lv,lv=B0 qF t1 j:=⟨_,rfl⟩;rw [<- a00] at dy i8 ai;obtain ⟨lb,lf⟩:=lv;cases lb with
   | none =>
    simp only [A8,Cg] at dy;obtain ⟨rfl,rfl⟩:=dy;have c4:decide ((-1:Int)<0)=true:=rfl;simp only [Py] at i8;have a01:Ib S.length S2=S2:=C6 aA;simp (maxSteps:=10^6)+contextual(disch:=try exact dqd)only[evg1,simprocAttr,Cb,Bg,Cc,ga18,e0,e3,e14,e15,c1,c2,c3,c4,aa,fm,d9,kv,hs,i8,Eh,xfs,ga5,ga9];rw [hΦ,a01];exact ⟨S2,k2,rfl,aA,ai,fun j hj=>by rw [dp j hj]; exact am j hj⟩
   | some bq =>
    obtain ⟨i,q⟩:=bq;simp only at dy;have yx:i<t1.rows.length:=Ami (F:=qF) (t:=t1) (c:=j) (q:=q) (f:=lf) a00.symm;obtain ⟨r,jc,S3,k3,rfl,dz,ba,de⟩:=Ar2 S2 tk' k2 iq eq I _ cc i j ai yx kv;have c4:decide ((i:Int)<0)=false:=by simp
    simp only [Py] at i8;have a02:Ib S'.length S3=S3:=C6 aA;simp (maxSteps:=10^6)+contextual(disch:=try exact dqd)only[evg1,simprocAttr,Cb,Bg,Cc,ga18,e0,e3,e14,e15,c1,c2,c3,c4,aa,fm,d9,kv,hs,i8,jc,a02,Eh,xfs,ga5,ga9];exact IHA (S3,k3,K1,Dm qF { t1 with fl:=Cj t1.fl lf } i j) _ aF ⟨rfl,dy,ba,aE,fun j hj=>by rw [de j hj,dp j hj]; exact am j hj,aP⟩
  ·have c2:decide (sgn x<0)=false:=aX
   rw [q9,if_neg hneg] at hc;simp (maxSteps:=10^6)+contextual(disch:=try exact dqd)only[evg1,simprocAttr,Cb,Bg,Cc,ga18,e0,e3,e14,e15,c1,c2,hw,aa,fm,d9,kv,hs,Eh,xfs,ga5,ga9];exact IH (n'+ua3,j+1) _ aF ⟨rfl,aE,hc,aP⟩
 ·have c1:decide ((j:Int)<(t1.real:Int))=false:=cQ
  have c3:decide ((-1:Int)<0)=true:=rfl;have tw:t1.real - j=0:=aA
  rw [hc,tw] at dy;simp only [colF,A8,Cg] at dy;obtain ⟨rfl,rfl⟩:=dy;simp (maxSteps:=10^6)+contextual(disch:=try exact dqd)only[evg1,simprocAttr,Cb,Bg,Cc,ga18,e0,e3,e14,e15,c1,c3,aa];rw [hΦ,jm];exact ⟨S',n',rfl,cn,hT,am⟩):p:=h
namespace QQ
theorem Zj:Aw10:=Ma10
end QQ
end
end
section
open Go Tryz
open Go.Proofs.Tryz renaming func83->ga19,ntmps83->ga20,results83->ga21,func110->ga22,ntmps110->ga23,results110->ga24
open Go.Proofs.YtcjffhadclngmaaGreat renaming ceQ->ga0,Ay->ga1,puQ->ga5,Bs->ga6,ovQ->ga7,tkQ->ga9,Arr->ga25
set_option maxRecDepth 100000
namespace QQ
abbrev ua8:Nat:=83
abbrev ua9:Nat:=110
end QQ
set_option maxHeartbeats 4000000
set_option maxRecDepth 100000
theorem Abv {basis:List Nat} {k:Nat} : ∀ {l:List (List Q)} {i j:Nat},Kp basis k i l=some j->i<=j/\j<i+l.length/\at_ 0 basis j=k
 | [],_,_,h=>by simp [Kp] at h
 | r :: l,i,j,h=>by
  unfold Kp at h;split at h
  ·simp only [A8] at h; subst h; rename_i h; exact ⟨Ce _,by simp,h⟩
  ·have:=Abv h; simp only [Ch]; omega
namespace QQ
def Auf (S:List Ent) (tk:List Nat) (iq eq:Nat) (y:Q × Bool) (r:Rs):Prop:=∃ k',r=(.agg (ceQ y.1),flS S iq eq y.2,tk,k')
end QQ
section
variable (S:List Ent) (tk:List Nat) (k iq eq:Nat)
abbrev Aw11 (p:Prop:=by exact ∀ (S:List Ent)(tk:List Nat)(k iq eq:Nat)(I:TI)(t:Tb)(cc:Cap)(hT:A7 S iq eq I t cc),∃ r,cL prog ua8 [.ref I.it I.et 0] S tk k=some r/\Ut S tk iq eq I t cc (.bool (Gw t)) r):=p
theorem Ma11 {p:Prop} (h:p:=by
 intro S tk k iq eq I t cc hT;obtain ⟨Φ,hΦ⟩:∃ Φ,Φ=Ut S tk iq eq I t cc (.bool (Gw t)):=⟨_,rfl⟩;rw [<- hΦ];have aa:=hT.top;have hW:=hT.bigW;have dd:=hT.real;have fm:=hT.costE;obtain ⟨z,hz⟩:=Af (show t.cost.length - 1<t.cost.length by omega);have oz:=hT.okc z (Ak hz);have jw:=Ap (ce:=ga0) ga1 hz;have hs:=Adh S tk k iq eq t.fl z oz hT.fa;have ig:Ca.wrap ((t.cost.length:Int) - 1)=((t.cost.length - 1:Nat):Int):=aS
 have ku:t.cost.length - 1<t.cost.length:=aA
 refine opG ga19 ga20 ?_;simp (maxSteps:=10^6)+contextual(disch:=try exact dqd)only[evg1,simprocAttr,Cb,Bg,Cc,ga21,aa,fm,jw,ig,ku,hs,Eh,xfs,ga5,ga9];rw [hΦ];exact ⟨S,_,by simp only [Gw,Av hz]; rfl,rfl,hT,fun j _=>rfl⟩):p:=h
namespace QQ
theorem Ab7:Aw11:=Ma11
end QQ
abbrev Aw12 (p:Prop:=by exact ∀ (S:List Ent)(tk:List Nat)(k iq eq:Nat)(I:TI)(t:Tb)(cc:Cap)(c:Nat)(hT:A7 S iq eq I t cc),∃ r,cL prog ua9 [.ref I.it I.et 0,.int c] S tk k=some r/\Auf S tk iq eq (Db qF t c) r):=p
theorem Ma12 {p:Prop} (h:p:=by
 intro S tk k iq eq I t cc c hT;obtain ⟨Φ,hΦ⟩:∃ Φ,Φ=Auf S tk iq eq (Db qF t c):=⟨_,rfl⟩;rw [<- hΦ];have aa:=hT.top;have hM:=hT.bigM;have hW:=hT.bigW;have dd:=hT.real;have aq:=hT.low;obtain ⟨y,hy⟩:∃ y,y=qF.whole 0:=⟨_,rfl⟩;obtain ⟨h,hh⟩:∃ h,h=di I.ib I.eb 1 t.rows.length:=⟨_,rfl⟩;have hlen:lenV false true h=some (.int (t.rows.length:Nat)):=by
  exact Ya1y
 rw [<- hh] at aa;have df:=hT.fa.app (L:=[⟨k,zeroQ⟩]);have fc:=Km (S++[⟨k,zeroQ⟩]) tk (k+1) iq eq t.fl 0 aC df;rw [<- hy,Hj hT.fa] at fc;have hl1:(flS S iq eq y.2).length=S.length:=Bm;have hE:=Am (k:=k) (cs:=zeroQ) hl1;have uk:=Am (k:=k) (cs:=ga0 y.1) hl1;have hP:=fun e e'=>B7 (e:=e) (e':=e') hl1;have y6:=fun L=>Lf (L:=L) hl1;have htA:=Ad (L:=[⟨k,zeroQ⟩]) aa;refine opG ga22 ga23 ?_;simp (maxSteps:=10^6)+contextual(disch:=try exact dqd)only[evg1,simprocAttr,Cb,Bg,Cc,ga24,aa,htA,hlen];refine Dp (P:=prog) (fun x st=>st.T.length=44/\(t.rows=x.1++x.2)/\(Kp t.basis c 0 t.rows=Kp t.basis c x.1.length x.2)/\getT st.T 0=.ref I.it I.et 0/\getT st.T 1=.int (c:Nat)/\getT st.T 4=.ref S.length k 0/\getT st.T 10=h/\getT st.T 11=.int (t.rows.length:Nat)/\getT st.T 12=.int (x.1.length:Nat)/\st.S=S++[⟨k,zeroQ⟩]/\st.tk=tk/\st.n=k+1) (fun x=>x.2.length) (([]:List (List Q)),t.rows) ?_ ?_;case refine_2=>exact ⟨rfl,rfl,rfl,rfl,rfl,rfl,rfl,rfl,rfl,rfl,rfl,rfl⟩
 rintro ⟨P,U⟩ ⟨T,S',tk',n'⟩ ⟨hl,d7,hR,e0,e1,e4,e10,e11,e12,eS,eT,eN⟩ IH;simp only at d7 hR e0 e1 e4 e10 e11 e12 eS eT eN;subst eS eT eN;obtain ⟨g,hg,hT⟩:=Au hl;rw [hg] at e0 e1 e4 e10 e11 e12;subst hT;clear hg hl;have vq:t.rows.length=P.length+U.length:=dP
 by_cases cq:P.length<t.rows.length
 ·have c1:decide ((P.length:Int)<(t.rows.length:Int))=true:=bX
  have bh:0<t.rows.length:=aA
  have cg:t.rows≠[]:=fun h0=>Za4q
  rw [A9 bh] at hh;subst hh;have cj:=hT.top;rw [A9 bh,A9 bh] at cj;obtain ⟨r0,U,rfl⟩:∃ r0 U',U=r0 :: U':=by
   exact Ya1f
  have vj:U.length<(r0 :: U).length:=by simp
  have hw2:Ca.wrap ((P.length:Int)+1)=(((P++[r0]).length:Nat):Int):=bI
  have me:(P++[r0]).length=P.length+1:=by simp
  obtain ⟨bk,g8⟩:=Af (show P.length<t.basis.length by rw [hT.nb]; exact cq);have eo:nth (I7 P.length (t.basis.map intA)) 0=some (.prim (.int .i64 (bk:Int))):=Bd (by rw [Ag] at g8 ⊢; rw [Cw,g8]; rfl);have jf:=Ad (L:=[⟨k,zeroQ⟩]) (hT.basisE cg);have htB:=Ad (L:=[⟨k,zeroQ⟩]) cj;by_cases hb:bk=c
  ·have c2:((bk:Int) == (c:Int))=true:=by simp [hb]
   obtain ⟨pk,d6⟩:=Af (show P.length<I.ids.length by rw [hT.nids]; exact cq);have bj:nth (I7 P.length (I.ids.map (da t.cost.length ua2))) 0=some (.sref pk.1 pk.2 0 t.cost.length ua2):=Bd (by rw [Ag] at d6 ⊢; rw [Cw,d6]; rfl);have ef:nth t.rows P.length=some r0:=by rw [d7]; exact Ej
   have dh:=hT.rowW r0 (Ak ef);have ff:=Ad (L:=[⟨k,zeroQ⟩]) (hT.rowsE cg);have bw:=Ad (L:=[⟨k,zeroQ⟩]) (hT.rowE P.length pk r0 d6 ef);obtain ⟨z,hz⟩:=Af (show t.cost.length - 1<r0.length by omega);have jw:=Ap (ce:=ga0) ga1 hz;have ig:Ca.wrap ((t.cost.length:Int) - 1)=((t.cost.length - 1:Nat):Int):=aS
   have ku:t.cost.length - 1<t.cost.length:=aA
   have fe:Db qF t c=(z,false):=by
    unfold Db;rw [hR];unfold Kp;rw [Av g8,if_pos hb];simp only [Ba,Av ef,Av hz]
   have bo:entAt (S++[⟨k,ga0 z⟩]) S.length k=some (ga0 z):=Am rfl;have bm:∀ e e',put (S++[e]) S.length e'=S++[e']:=fun e e'=>B7 rfl;simp (maxSteps:=10^6)+contextual(disch:=try exact dqd)only[evg1,simprocAttr,Cb,Bg,Cc,ga24,e0,e1,e4,e10,e11,e12,c1,c2,htB,jf,eo,ff,bj,bw,jw,ig,ku,cq,bo,bm,Jn,ga25,ga9,ga1,ga6,ga7,C9];rw [hΦ,fe];exact ⟨_,rfl⟩
  ·have c2:((bk:Int) == (c:Int))=false:=aD
   simp (maxSteps:=10^6)+contextual(disch:=try exact dqd)only[evg1,simprocAttr,Cb,Bg,Cc,ga24,e0,e1,e4,e10,e11,e12,c1,c2,htB,jf,eo,cq,hw2,C9];exact IH (P++[r0],U) _ aF ⟨rfl,dP,by rw [hR,me]; simp only [Kp]; rw [Av g8,if_neg hb],aP⟩
 ·have c1:decide ((P.length:Int)<(t.rows.length:Int))=false:=bX
  have wj:U=[]:=C4.1 aA;subst wj;have fe:Db qF t c=y:=by unfold Db; rw [hR]; simp only [Kp]; exact hy.symm
  simp (maxSteps:=10^6)+contextual(disch:=try exact dqd)only[evg1,simprocAttr,Cb,Bg,Cc,ga24,e0,e1,e4,e10,e11,e12,c1,htA,fc,hE,uk,hP,y6,Eh,xfs,ga5,ga25,ga9,ga1,ga6,ga7];rw [hΦ,fe];exact ⟨_,rfl⟩):p:=h
namespace QQ
theorem Ale:Aw12:=Ma12
end QQ
end
end
section
open Go Tryz
open Go.Proofs.Tryz renaming func111->ga26,ntmps111->ga27,results111->ga28
open Go.Proofs.YtcjffhadclngmaaGreat renaming ceQ->ga0,Ay->ga1,puQ->ga5,tkQ->ga9
set_option maxRecDepth 100000
namespace QQ
abbrev ua10:Nat:=111
end QQ
set_option maxHeartbeats 8000000
set_option maxRecDepth 100000
theorem Qm {F:Fld} {row:List Q} {c i:Nat} : ∀ {l:List (List Q)} {k:Nat},(lessRows F row c i k l).1.length=l.length
 | [],_=>rfl
 | r :: l,k=>by simp only [lessRows,Ch,Qm]
theorem X9 {F:Fld} {t:Tb} {i c:Nat} : (Dm F t i c).rows.length=t.rows.length:=by
 simp only [Dm,Qm,Aj]
namespace QQ
theorem Ee (n:Int) (hn:i64 n):qF.ok (qF.whole n).1:=Dj.whole n hn
end QQ
abbrev Aw13 (p:Prop:=by exact ∀ {S:List Ent}{iq eq:Nat}{I:TI}{t:Tb}{cc:Cap}{c:Nat}(hT:A7 S iq eq I t cc),qF.ok (Db qF t c).1):=p
theorem Ma13 {p:Prop} (h:p:=by
 intro hT;unfold Db;split
 ·rename_i i hi;have hlt:=(Abv hi).2.1;obtain ⟨r0,cg⟩:=Af (show i<t.rows.length by omega);have dh:=hT.rowW r0 (Ak cg);have dd:=hT.real;obtain ⟨z,hz⟩:=Af (show t.cost.length - 1<r0.length by omega);simp only [Ba,Av cg,Av hz];exact hT.okr r0 (Ak cg) z (Ak hz)
 ·exact Ee 0 aC):p:=h
namespace QQ
theorem Alb:Aw13:=fun {S iq eq I t cc c}=>Ma13
end QQ
section
variable (S:List Ent) (tk:List Nat) (k iq eq:Nat)
abbrev Aw14 (p:Prop:=by exact ∀ (S:List Ent)(tk:List Nat)(k iq eq:Nat)(I:TI)(t:Tb)(cc:Cap)(ag:A7 S iq eq I t cc),∃ r,cL prog ua10 [.ref I.it I.et 0] S tk k=some r/\Ut S tk iq eq I (settleF qF t.rows.length 0 t) cc (.tup []) r):=p
theorem Ma14 {p:Prop} (h:p:=by
 intro S tk k iq eq I t cc ag;obtain ⟨Φ,hΦ⟩:∃ Φ,Φ=Ut S tk iq eq I (settleF qF t.rows.length 0 t) cc (.tup []):=⟨_,rfl⟩;rw [<- hΦ];have aa:=ag.top;have hM:=ag.bigM;obtain ⟨h,hh⟩:∃ h,h=di I.ir I.er 1 t.rows.length:=⟨_,rfl⟩;have hlen:lenV false true h=some (.int (t.rows.length:Nat)):=by
  exact Ya1y
 rw [<- hh] at aa;refine opG ga26 ga27 ?_;simp (maxSteps:=10^6)+contextual(disch:=try exact dqd)only[evg1,simprocAttr,Cb,Bg,Cc,ga28,aa,hlen];refine Dp (P:=prog) (fun x st=>st.T.length=55/\(x.2.2.1<=t.rows.length)/\(settleF qF t.rows.length 0 t=settleF qF (t.rows.length - x.2.2.1) x.2.2.1 x.2.2.2)/\(A7 x.1 iq eq I x.2.2.2 cc)/\(x.2.2.2.rows.length=t.rows.length)/\(x.1.length=S.length)/\(∀ v,OutQ I iq v->nth x.1 v=nth S v)/\getT st.T 0=.ref I.it I.et 0/\getT st.T 8=.int (t.rows.length:Nat)/\getT st.T 9=.int (x.2.2.1:Nat)/\st.S=x.1/\st.tk=tk/\st.n=x.2.1) (fun x=>t.rows.length - x.2.2.1) (S,k,0,t) ?_ ?_;case refine_2=>exact ⟨rfl,Cl _,rfl,ag,rfl,rfl,fun j _=>rfl,rfl,rfl,rfl,rfl,rfl,rfl⟩
 rintro ⟨SS,n1,j,t1⟩ ⟨T,S',tk',n'⟩ ⟨hl,hj,hR,hT,hm,cn,am,e0,e8,e9,eS,eT,eN⟩ IH;simp only at hj hR hT hm cn am e0 e8 e9 eS eT eN;subst eS eT eN;obtain ⟨g,hg,hT⟩:=Au hl;rw [hg] at e0 e8 e9;subst hT;clear hg hl;have IHA:=IH;clear IH;have jm:Ib S.length S'=S':=C6 aA;by_cases hjm:j<t.rows.length
 ·have c1:decide ((j:Int)<(t.rows.length:Int))=true:=dM
  have hw:Ca.wrap ((j:Int)+1)=((j+1:Nat):Int):=aK
  have bh:0<t1.rows.length:=aA
  have cg:t1.rows≠[]:=fun h0=>Za4q
  have cj:=hT.top;rw [A9 bh,A9 bh] at cj;have jf:=hT.basisE cg;have dd:=hT.real;have hW:=hT.bigW;have k8:j<t1.rows.length:=aA
  obtain ⟨bk,g8⟩:=Af (show j<t1.basis.length by rw [hT.nb]; exact k8);have eo:nth (I7 j (t1.basis.map intA)) 0=some (.prim (.int .i64 (bk:Int))):=Bd (by rw [Ag] at g8 ⊢; rw [Cw,g8]; rfl);have aj:settleF qF (t.rows.length - j) j t1=settleF qF (t.rows.length - (j+1)) (j+1) (Dq qF t1 j):=by
   rw [show t.rows.length - j=(t.rows.length - (j+1))+1 by omega]; rfl
  rw [aj] at hR;simp only [intA] at cj;by_cases hb:bk<t1.real
  ·have c2:decide ((bk:Int)<(t1.real:Int))=true:=dJ
   have ul:Dq qF t1 j=t1:=by unfold Dq; rw [Av g8,if_pos hb]
   rw [ul] at hR;simp (maxSteps:=10^6)+contextual(disch:=try exact dqd)only[evg1,simprocAttr,Cb,Bg,Cc,ga28,e0,e8,e9,c1,c2,hw,cj,jf,eo,k8,C9];exact IHA (S',n',j+1,t1) _ aF ⟨rfl,aE,hR,hT,hm,cn,am,aP⟩
  ·have c2:decide ((bk:Int)<(t1.real:Int))=false:=dJ
   obtain ⟨pk,d6⟩:=Af (show j<I.ids.length by rw [hT.nids]; exact k8);have bj:nth (I7 j (I.ids.map (da t1.cost.length ua2))) 0=some (.sref pk.1 pk.2 0 t1.cost.length ua2):=Bd (by rw [Ag] at d6 ⊢; rw [Cw,d6]; rfl);obtain ⟨r0,ef⟩:=Af k8;have dh:=hT.rowW r0 (Ak ef);have ii:=hT.okr r0 (Ak ef);have ff:=hT.rowsE cg;have bw:=hT.rowE j pk r0 d6 ef;have ul:Dq qF t1 j=match nzF r0 t1.real 0 with|some k=>Dm qF t1 j k|none=>t1:=by unfold Dq; rw [Av g8,if_neg hb]; simp only [Ba,Av ef]; cases nzF r0 t1.real 0 <;> rfl
   simp (maxSteps:=10^6)+contextual(disch:=try exact dqd)only[evg1,simprocAttr,Cb,Bg,Cc,ga28,e0,e8,e9,c1,c2,hw,cj,jf,eo,k8,C9];refine Dp (P:=prog) (fun x st=>st.T.length=55/\(x.2<=t1.real)/\(nzF r0 t1.real 0=nzF r0 (t1.real - x.2) x.2)/\getT st.T 0=.ref I.it I.et 0/\getT st.T 2=.int (j:Nat)/\getT st.T 8=.int (t.rows.length:Nat)/\getT st.T 9=.int (j:Nat)/\getT st.T 27=.int (t1.real:Nat)/\getT st.T 28=.int (x.2:Nat)/\st.S=S'/\st.tk=tk'/\st.n=x.1) (fun x=>t1.real - x.2) (n',0) ?_ ?_;case refine_2=>exact ⟨rfl,Cl _,rfl,rfl,rfl,rfl,rfl,rfl,rfl,rfl,rfl,rfl⟩
   rintro ⟨n2,q⟩ ⟨T,S',tk',n'⟩ ⟨hl,hq,hz,e0,e2,e8,e9,e27,e28,eS,eT,eN⟩ IH;simp only at hq hz e0 e2 e8 e9 e27 e28 eS eT eN;subst eS eT eN;obtain ⟨g,hg,hT⟩:=Au hl;rw [hg] at e0 e2 e8 e9 e27 e28;subst hT;clear hg hl;have i6:Ib S'.length S'=S':=C6 (Ce _);by_cases re:q<t1.real
   ·have c3:decide ((q:Int)<(t1.real:Int))=true:=by simpa using re
    have hw3:Ca.wrap ((q:Int)+1)=((q+1:Nat):Int):=aK
    have hqc:q<t1.cost.length:=aA
    obtain ⟨x,hx⟩:=Af (show q<r0.length by omega);have ox:=ii x (Ak hx);have d9:=Ap (ce:=ga0) ga1 hx;have hs:=Adh S' tk' n' iq eq t1.fl x ox hT.fa;have q9:nzF r0 (t1.real - q) q=if sgn x=0 then nzF r0 (t1.real - (q+1)) (q+1) else some q:=by
     rw [show t1.real - q=(t1.real - (q+1))+1 by omega];simp only [nzF,Av hx]
    by_cases h0:sgn x=0
    ·have c4:(sgn x != 0)=false:=aW
     rw [q9,if_pos h0] at hz;simp (maxSteps:=10^6)+contextual(disch:=try exact dqd)only[evg1,simprocAttr,Cb,Bg,Cc,ga28,e0,e2,e8,e9,e27,e28,c3,c4,hw3,cj,ff,bj,bw,d9,k8,hqc,hs,Eh,xfs,ga5,ga9,C9];exact IH (n'+ua3,q+1) _ aF ⟨rfl,aE,hz,aP⟩
    ·have c4:(sgn x != 0)=true:=aW
     rw [q9,if_neg h0] at hz;rw [hz] at ul;simp only at ul;rw [ul] at hR;obtain ⟨r,jc,S3,k3,rfl,dz,ba,de⟩:=Ar2 S' tk' (n'+ua3) iq eq I _ cc j q hT k8 hqc;have pg:Ib S'.length S3=S3:=C6 aA;simp (maxSteps:=10^6)+contextual(disch:=try exact dqd)only[evg1,simprocAttr,Cb,Bg,Cc,ga28,e0,e2,e8,e9,e27,e28,c3,c4,hw,cj,ff,bj,bw,d9,k8,hqc,hs,jc,pg,Eh,xfs,ga5,ga9,C9];exact IHA (S3,k3,j+1,Dm qF t1 j q) _ aF ⟨rfl,aE,hR,ba,by simp only [X9]; exact hm,aE,fun j hj=>by rw [de j hj]; exact am j hj,aP⟩
   ·have c3:decide ((q:Int)<(t1.real:Int))=false:=by simpa using re
    have hq2:t1.real - q=0:=aA
    rw [hz,hq2] at ul;simp only [nzF] at ul;rw [ul] at hR;simp (maxSteps:=10^6)+contextual(disch:=try exact dqd)only[evg1,simprocAttr,Cb,Bg,Cc,ga28,e0,e2,e8,e9,e27,e28,c3,hw,i6];exact IHA (S',n',j+1,t1) _ aF ⟨rfl,aE,hR,hT,hm,cn,am,aP⟩
 ·have c1:decide ((j:Int)<(t.rows.length:Int))=false:=dM
  have tw:t.rows.length - j=0:=aA
  rw [tw] at hR;simp only [settleF] at hR;simp (maxSteps:=10^6)+contextual(disch:=try exact dqd)only[evg1,simprocAttr,Cb,Bg,Cc,ga28,e0,e8,e9,c1];rw [hΦ,hR,jm];exact ⟨S',n',rfl,cn,hT,am⟩):p:=h
namespace QQ
theorem At1:Aw14:=Ma14
end QQ
end
end
section
open Go Tryz
open Go.Proofs.Tryz renaming func85->ga29,ntmps85->ga30,results85->ga31,func84->ga32,ntmps84->ga33,results84->ga34
open Go.Proofs.YtcjffhadclngmaaGreat renaming ceQ->ga0,Ay->ga1,puQ->ga5,Bs->ga6,ovQ->ga7,A2->ga8,tkQ->ga9
set_option maxRecDepth 100000
namespace QQ
abbrev ua11:Nat:=85
abbrev ua12:Nat:=3
abbrev ua13:Nat:=84
end QQ
set_option maxHeartbeats 8000000
set_option maxRecDepth 100000
namespace QQ
def J8 (l:List Q):List (List AV):=l.map fun q=>ceW (qF.rat q)
theorem Ahp (l:List Q):Dk 4 (J8 l)=true:=Za1l
def Aox (S:List Ent) (iq eq:Nat) (I:TI) (t':Tb) (cc:Cap) (l:List Q) (r:Rs):Prop :=
 ∃ S' k' tk' c,r=(.frz (J8 l) c,S',tk',k')/\S'.length=S.length/\A7 S' iq eq I t' cc/\∀ j,OutQ I iq j->nth S' j=nth S j
end QQ
section
variable (S:List Ent) (tk:List Nat) (k iq eq:Nat)
abbrev Aw15 (p:Prop:=by exact ∀ (S:List Ent)(tk:List Nat)(k iq eq:Nat)(I:TI)(t:Tb)(cc:Cap)(ag:A7 S iq eq I t cc)(hv:2*t.vars<=t.real),∃ r,cL prog ua11 [.ref I.it I.et 0] S tk k=some r/\Aox S iq eq I { t with fl:=Cj t.fl (Bq qF t).2 } cc (Bq qF t).1 r):=p
theorem Ma15 {p:Prop} (h:p:=by
 intro S tk k iq eq I t cc ag hv;obtain ⟨Φ,hΦ⟩:∃ Φ,Φ=Aox S iq eq I { t with fl:=Cj t.fl (Bq qF t).2 } cc (Bq qF t).1:=⟨_,rfl⟩;rw [<- hΦ];have aa:=ag.top;have hW:=ag.bigW;have dd:=ag.real;simp only [intA] at aa;refine opG ga29 ga30 ?_;simp (maxSteps:=10^6)+contextual(disch:=try exact dqd)only[evg1,simprocAttr,Cb,Bg,Cc,ga31,aa];refine Dp (P:=prog) (fun x st=>st.T.length=40/\(x.2.2.2.2.1<=t.vars)/\(Bq qF t=(x.2.2.2.2.2.1++(Ga (ptF qF t) (t.vars - x.2.2.2.2.1) x.2.2.2.2.1).1,Cj x.2.2.2.2.2.2 (Ga (ptF qF t) (t.vars - x.2.2.2.2.1) x.2.2.2.2.1).2))/\(x.2.2.2.2.2.1.length=x.2.2.2.2.1)/\(Bn x.2.2.1 x.2.2.2.1 4=true)/\(A7 x.1 iq eq I { t with fl:=Cj t.fl x.2.2.2.2.2.2 } cc)/\(x.1.length=S.length)/\(∀ v,OutQ I iq v->nth x.1 v=nth S v)/\getT st.T 0=.ref I.it I.et 0/\getT st.T 3=.frz (J8 x.2.2.2.2.2.1) x.2.2.2.1/\getT st.T 8=.int (t.vars:Nat)/\getT st.T 9=.int (x.2.2.2.2.1:Nat)/\st.S=x.1/\st.tk=x.2.2.1/\st.n=x.2.1) (fun x=>t.vars - x.2.2.2.2.1) (S,k,tk,Cap.nilc,0,([]:List Q),false) ?_ ?_;case refine_2=>exact ⟨rfl,Cl _,by simp [Bq],rfl,rfl,by simp only [Fk]; exact ag,rfl,fun j _=>rfl,rfl,rfl,rfl,rfl,rfl,rfl,rfl⟩
 rintro ⟨SS,n1,tk1,cp,j,out,fq⟩ ⟨T,S',tk',n'⟩ ⟨hl,hj,hR,u7,ah,hT,cn,am,e0,e3,e8,e9,eS,eT,eN⟩ IH;simp only at hj hR u7 ah hT cn am e0 e3 e8 e9 eS eT eN;subst eS eT eN;obtain ⟨g,hg,hT⟩:=Au hl;rw [hg] at e0 e3 e8 e9;subst hT;clear hg hl;have jm:Ib S.length S'=S':=C6 aA;by_cases hjv:j<t.vars
 ·have c1:decide ((j:Int)<(t.vars:Int))=true:=fZ
  have hw:Ca.wrap ((j:Int)+1)=((j+1:Nat):Int):=aK
  have hwm:Ca.wrap (2*(j:Int))=((2*j:Nat):Int):=aK
  have a23:Ca.wrap (((2*j:Nat):Int)+1)=((2*j+1:Nat):Int):=aK
  have cj:=hT.top;obtain ⟨a,ha⟩:∃ a,a=Db qF t (2*j):=⟨_,rfl⟩;obtain ⟨b,hb⟩:∃ b,b=Db qF t (2*j+1):=⟨_,rfl⟩;obtain ⟨d,hd⟩:∃ d,d=qF.minus a.1 b.1:=⟨_,rfl⟩;have oa:qF.ok a.1:=by rw [ha]; exact Alb ag
  have ob:qF.ok b.1:=by rw [hb]; exact Alb ag
  have od:qF.ok d.1:=by rw [hd]; exact Dj.minus _ _ oa ob
  obtain ⟨r,je,k1,rfl⟩:=Ale S' tk' n' iq eq I _ cc (2*j) hT;have ea:Db qF { t with fl:=Cj t.fl fq } (2*j)=a:=ha.symm;rw [ea] at je;have hg1:=Ek (c:=a.2) hT.fa;have qw:=hT.fa.fS (c:=a.2);obtain ⟨S1,b8⟩:∃ S1,S1=flS S' iq eq a.2:=⟨_,rfl⟩;have a7:=hT.flag (S':=flS S' iq eq a.2) (fun j hj=>ga8 hj) qw;rw [<- b8] at je hg1 qw a7;obtain ⟨r,hcb,k2,rfl⟩:=Ale S1 tk' k1 iq eq I _ cc (2*j+1) a7;have eb:Db qF { t with fl:=Cj (Cj t.fl fq) a.2 } (2*j+1)=b:=hb.symm;rw [eb] at hcb;have hg2:=Ek (c:=b.2) qw;have dp:=qw.fS (c:=b.2);obtain ⟨S2,bp⟩:∃ S2,S2=flS S1 iq eq b.2:=⟨_,rfl⟩;rw [<- bp] at hcb hg2 dp;have hm:=L2 S2 tk' k2 iq eq _ a.1 b.1 oa ob dp;rw [<- hd] at hm;have hg3:=Ek (c:=d.2) dp;have de:=dp.fS (c:=d.2);obtain ⟨S3,dn⟩:∃ S3,S3=flS S2 iq eq d.2:=⟨_,rfl⟩;rw [<- dn] at hm hg3 de;have hr:=Q6 S3 tk' (k2+ua4) iq eq _ d.1 od de;have cu:∀ v,v≠iq->nth S3 v=nth S' v:=fun v hv=>by rw [dn,ga8 hv,bp,ga8 hv,b8,ga8 hv]
  have dz:S3.length=S'.length:=by rw [dn,Bm,bp,Bm,b8,Bm]
  have a5z:entAt S1 I.it I.et=_:=a7.top;have wo:ptF qF t j=(d.1,Cj (Cj a.2 b.2) d.2):=by rw [hd,hb,ha]; rfl
  have ph:Ga (ptF qF t) (t.vars - j) j=(d.1 :: (Ga (ptF qF t) (t.vars - (j+1)) (j+1)).1,Cj (Cj (Cj a.2 b.2) d.2) (Ga (ptF qF t) (t.vars - (j+1)) (j+1)).2):=by
   rw [show t.vars - j=(t.vars - (j+1))+1 by omega];simp only [Ga,wo]
  have iw:=Ahp out;have lu:(J8 out).length+1<=1048576:=Za4m
  have hle:J8 (out++[d.1])=J8 out++[ceW (qF.rat d.1)]:=by unfold J8; simp
  have cd:=apB_one (y:=ceW (qF.rat d.1)) ah iw rfl lu;have gt:=B3 ah;have pg:Ib S'.length S3=S3:=C6 aA;simp (maxSteps:=10^6)+contextual(disch:=try exact dqd)only[evg1,simprocAttr,Cb,Bg,Cc,ga31,e0,e3,e8,e9,c1,hw,hwm,a23,cj,je,hcb,hm,hr,hg1,hg2,hg3,cd,pg,Eh,xfs,ga5,ga9,Al,An,Bt,Bx];have ba:=hT.flag (S':=S3) cu de;exact IH (S3,k2+ua4+ua12,Gf tk' cp,A6 tk' cp 4,j+1,out++[d.1],Cj fq (Cj (Cj a.2 b.2) d.2)) _ aF ⟨rfl,aE,by rw [hR,ph]; simp only [Fa,Cn,Cq,Fo],by simp [u7],gt,by simpa only [Fo] using ba,aE,fun v hv=>by rw [cu v hv.1]; exact am v hv,Za04⟩
 ·have c1:decide ((j:Int)<(t.vars:Int))=false:=fZ
  have tw:t.vars - j=0:=aA
  rw [tw] at hR;simp only [Ga,Fy,Fk] at hR;simp (maxSteps:=10^6)+contextual(disch:=try exact dqd)only[evg1,simprocAttr,Cb,Bg,Cc,ga31,e0,e3,e8,e9,c1];rw [hΦ,hR,jm];exact ⟨S',n',tk',cp,rfl,cn,hT,am⟩):p:=h
namespace QQ
theorem Ar4:Aw15:=Ma15
end QQ
abbrev Aw16 (p:Prop:=by exact ∀ (S:List Ent)(tk:List Nat)(k iq eq:Nat)(I:TI)(t:Tb)(cc:Cap)(ag:A7 S iq eq I t cc)(hv:t.real+t.rows.length<t.cost.length),∃ r,cL prog ua13 [.ref I.it I.et 0] S tk k=some r/\Aox S iq eq I { t with fl:=Cj t.fl (Hd qF t).2 } cc (Hd qF t).1 r):=p
theorem Ma16 {p:Prop} (h:p:=by
 intro S tk k iq eq I t cc ag hv;obtain ⟨Φ,hΦ⟩:∃ Φ,Φ=Aox S iq eq I { t with fl:=Cj t.fl (Hd qF t).2 } cc (Hd qF t).1:=⟨_,rfl⟩;rw [<- hΦ];have aa:=ag.top;have hW:=ag.bigW;have hM:=ag.bigM;have dd:=ag.real;have aq:=ag.low;obtain ⟨one,dm⟩:∃ one,one=qF.whole 1:=⟨_,rfl⟩;obtain ⟨z0,hz0⟩:∃ z0,z0=qF.whole 0:=⟨_,rfl⟩;have o1:qF.ok one.1:=by rw [dm]; exact Ee 1 aC
 have o0:qF.ok z0.1:=by rw [hz0]; exact Ee 0 aC
 have hw1:=Km S tk k iq eq t.fl 1 aC ag.fa;rw [<- dm] at hw1;have qw:=ag.fa.fS (c:=one.2);obtain ⟨S1,b8⟩:∃ S1,S1=flS S iq eq one.2:=⟨_,rfl⟩;have a7:=ag.flag (S':=flS S iq eq one.2) (fun j hj=>ga8 hj) qw;have hl1:(flS S iq eq one.2).length=S.length:=Bm;have bo:∀ v,v≠iq->nth (flS S iq eq one.2) v=nth S v:=fun v hv=>ga8 hv;rw [<- b8] at hw1 qw a7 hl1 bo;obtain ⟨h,hh⟩:∃ h,h=di I.ir I.er 1 t.rows.length:=⟨_,rfl⟩;have hlen:lenV false true h=some (.int (t.rows.length:Nat)):=by
  exact Ya1y
 rw [<- hh] at aa;have cj:entAt (S1++[⟨k+ua3,ga0 one.1⟩]) I.it I.et=_:=Ad a7.top;simp only at cj;rw [<- hh] at cj;refine opG ga32 ga33 ?_;simp (maxSteps:=10^6)+contextual(disch:=try exact dqd)only[evg1,simprocAttr,Cb,Bg,Cc,ga34,aa,hw1,cj,hlen,Eh,xfs,ga5,ga1,ga6,ga7];rw [hl1];refine Dp (P:=prog) (fun x st=>st.T.length=71/\(x.2.2.2.2.1<=t.rows.length)/\(Ga (mulF qF t) t.rows.length 0=(x.2.2.2.2.2.1++(Ga (mulF qF t) (t.rows.length - x.2.2.2.2.1) x.2.2.2.2.1).1,Cj x.2.2.2.2.2.2 (Ga (mulF qF t) (t.rows.length - x.2.2.2.2.1) x.2.2.2.2.1).2))/\(x.2.2.2.2.2.1.length=x.2.2.2.2.1)/\(Bn x.2.2.1 x.2.2.2.1 4=true)/\(A7 x.1 iq eq I { t with fl:=Cj (Cj t.fl one.2) x.2.2.2.2.2.2 } cc)/\(x.1.length=S.length+1)/\(∀ v,v<S.length->OutQ I iq v->nth x.1 v=nth S v)/\(entAt x.1 S.length (k+ua3)=some (ga0 one.1))/\getT st.T 0=.ref I.it I.et 0/\getT st.T 3=.frz (J8 x.2.2.2.2.2.1) x.2.2.2.1/\getT st.T 4=.ref S.length (k+ua3) 0/\getT st.T 16=.int (t.rows.length:Nat)/\getT st.T 17=.int (x.2.2.2.2.1:Nat)/\st.S=x.1/\st.tk=x.2.2.1/\st.n=x.2.1) (fun x=>t.rows.length - x.2.2.2.2.1) ((S1++[⟨k+ua3,ga0 one.1⟩]),(k+ua3+1),tk,Cap.nilc,0,([]:List Q),false) ?_ ?_;case refine_2=>exact ⟨rfl,Cl _,by simp,rfl,rfl,by simp only [Fk]; exact a7.app _,by simp [hl1],fun v hv ho=>by rw [Ax aA]; exact bo v ho.1,Am hl1,rfl,rfl,rfl,rfl,rfl,rfl,rfl,rfl⟩
 rintro ⟨SS,n1,tk1,cp,j,out,fq⟩ ⟨T,S',tk',n'⟩ ⟨hl,hj,hR,u7,ah,hT,cn,am,hoE,e0,e3,e4,e16,e17,eS,eT,eN⟩ IH;simp only at hj hR u7 ah hT cn am hoE e0 e3 e4 e16 e17 eS eT eN;subst eS eT eN;obtain ⟨g,hg,hT⟩:=Au hl;rw [hg] at e0 e3 e4 e16 e17;subst hT;clear hg hl;by_cases hjm:j<t.rows.length
 ·have c1:decide ((j:Int)<(t.rows.length:Int))=true:=dM
  have hw:Ca.wrap ((j:Int)+1)=((j+1:Nat):Int):=aK
  have hwr:Ca.wrap ((t.real:Int)+(j:Int))=((t.real+j:Nat):Int):=aK
  have y7:t.real+j<t.cost.length:=aA
  have htj:=hT.top;simp only [intA] at htj;have fm:=hT.costE;obtain ⟨x,hx⟩:=Af y7;have ox:=ag.okc x (Ak hx);have d9:=Ap (ce:=ga0) ga1 hx;obtain ⟨y,hy⟩:∃ y,y=qF.minus x one.1:=⟨_,rfl⟩;have oy:qF.ok y.1:=by rw [hy]; exact Dj.minus _ _ ox o1
  have ee:=L2 S' tk' n' iq eq (Cj (Cj t.fl one.2) fq) x one.1 ox o1 hT.fa;rw [<- hy] at ee;have hg1:=Ek (c:=y.2) hT.fa;have dp:=hT.fa.fS (c:=y.2);obtain ⟨S2,bp⟩:∃ S2,S2=flS S' iq eq y.2:=⟨_,rfl⟩;have ai:=hT.flag (S':=flS S' iq eq y.2) (fun j hj=>ga8 hj) dp;have hl2:(flS S' iq eq y.2).length=S'.length:=Bm;have bm:∀ v,v≠iq->nth (flS S' iq eq y.2) v=nth S' v:=fun v hv=>ga8 hv;have ml:nth S2 S.length=nth S' S.length:=Za70
  rw [<- bp] at ee hg1 dp ai hl2 bm;obtain ⟨n2,wk⟩:∃ n2,n2=n'+ua4:=⟨_,rfl⟩;rw [<- wk] at ee;have jn:entAt (S2++[⟨n2,ga0 y.1⟩]) S2.length n2=some (ga0 y.1):=Az;obtain ⟨bf,hbf⟩:=Af (show j<t.flip.length by rw [ag.nf]; exact hjm);have a03:nth (t.flip.map De) j=some [.prim (.bool bf)]:=by rw [Ag] at hbf ⊢; rw [Cw,hbf]; rfl
  have sm:=ai.app [⟨n2,ga0 y.1⟩];have lw:=sm.top;simp only [intA] at lw;have k9:∀ v,mulF qF t j=v->Ga (mulF qF t) (t.rows.length - j) j=(v.1 :: (Ga (mulF qF t) (t.rows.length - (j+1)) (j+1)).1,Cj v.2 (Ga (mulF qF t) (t.rows.length - (j+1)) (j+1)).2):=by
   intro v hv;rw [show t.rows.length - j=(t.rows.length - (j+1))+1 by omega];simp only [Ga,hv]
  have iw:=Ahp out;have lu:(J8 out).length+1<=1048576:=Za4m
  have gt:=B3 ah;cases bf with
  | false =>
   have z8:mulF qF t j=y:=by
    unfold mulF;rw [Av hx,Av hbf,<- dm,<- hy]; rfl
   have hr:=Q6 (S2++[⟨n2,ga0 y.1⟩]) tk' (n2+1) iq eq _ y.1 oy sm.fa;have cd:=apB_one (y:=ceW (qF.rat y.1)) ah iw rfl lu;have i6:Ib S'.length (S2++[⟨n2,ga0 y.1⟩])=S2:=by rw [<- hl2]; simp
   simp (maxSteps:=10^6)+contextual(disch:=try exact dqd)only[evg1,simprocAttr,Cb,Bg,Cc,ga34,e0,e3,e4,e16,e17,c1,hw,hwr,htj,fm,d9,y7,hoE,ee,hg1,jn,lw,a03,hr,cd,i6,Eh,xfs,ga5,ga9,ga1,ga6,ga7,Al,An,Bt,Bx];exact IH (S2,n2+1+ua12,Gf tk' cp,A6 tk' cp 4,j+1,out++[y.1],Cj fq y.2) _ aF ⟨rfl,aE,by rw [hR,k9 y z8]; simp only [Fa,Cn,Cq,Fo],by simp [u7],gt,by simpa only [Fo] using ai,aE,fun v hv ho=>by rw [bm v ho.1]; exact am v hv ho,by rw [Aa ml]; exact hoE,Za04⟩
  | true =>
   obtain ⟨d,hd⟩:∃ d,d=qF.minus z0.1 y.1:=⟨_,rfl⟩;have od:qF.ok d.1:=by rw [hd]; exact Dj.minus _ _ o0 oy
   have z8:mulF qF t j=(d.1,Cj y.2 (Cj z0.2 d.2)):=by
    unfold mulF;rw [Av hx,Av hbf,<- dm,<- hy,<- hz0,hd]; rfl
   have hwz:=Km (S2++[⟨n2,ga0 y.1⟩]) tk' (n2+1) iq eq _ 0 aC sm.fa;have hg2:=Ek (c:=z0.2) sm.fa;rw [<- hz0] at hwz;rw [Hj dp] at hwz hg2;have de:=dp.fS (c:=z0.2);obtain ⟨S3,dn⟩:∃ S3,S3=flS S2 iq eq z0.2:=⟨_,rfl⟩;have ba:=ai.flag (S':=flS S2 iq eq z0.2) (fun j hj=>ga8 hj) de;have dz:(flS S2 iq eq z0.2).length=S2.length:=Bm;have cu:∀ v,v≠iq->nth (flS S2 iq eq z0.2) v=nth S2 v:=fun v hv=>ga8 hv;have pf:nth S3 S.length=nth S2 S.length:=by rw [dn]; first|rfl|exact A2 dG
   rw [<- dn] at hwz hg2 de ba dz cu;have a04:=de.app (L:=[⟨n2,ga0 y.1⟩]);have ie:=L2 (S3++[⟨n2,ga0 y.1⟩]) tk' (n2+1+ua3) iq eq _ z0.1 y.1 o0 oy a04;have hg3:=Ek (c:=d.2) a04;rw [<- hd] at ie;rw [Hj de] at ie hg3;have hf4:=de.fS (c:=d.2);obtain ⟨S4,ws⟩:∃ S4,S4=flS S3 iq eq d.2:=⟨_,rfl⟩;have fd:=ba.flag (S':=flS S3 iq eq d.2) (fun j hj=>ga8 hj) hf4;have oq:(flS S3 iq eq d.2).length=S3.length:=Bm;have hn4:∀ v,v≠iq->nth (flS S3 iq eq d.2) v=nth S3 v:=fun v hv=>ga8 hv;have a24:nth S4 S.length=nth S3 S.length:=by rw [ws]; first|rfl|exact A2 dG
   rw [<- ws] at ie hg3 hf4 fd oq hn4;have hE3:entAt (S3++[⟨n2,ga0 y.1⟩]) S2.length n2=some (ga0 y.1):=Am dz;have sn:S4.length=S2.length:=aA
   have su:entAt (S4++[⟨n2,ga0 y.1⟩]) S2.length n2=some (ga0 y.1):=Am sn;have sv:entAt (S4++[⟨n2,ga0 d.1⟩]) S2.length n2=some (ga0 d.1):=Am sn;have hP4:=fun e e'=>B7 (e:=e) (e':=e') sn;have a05:=fd.app [⟨n2,ga0 d.1⟩];have sw:=a05.top;simp only [intA] at sw;have hr:=Q6 (S4++[⟨n2,ga0 d.1⟩]) tk' (n2+1+ua3+ua4) iq eq _ d.1 od a05.fa;have cd:=apB_one (y:=ceW (qF.rat d.1)) ah iw rfl lu;have i6:Ib S'.length (S4++[⟨n2,ga0 d.1⟩])=S4:=by rw [<- hl2,<- sn]; simp
   simp (maxSteps:=10^6)+contextual(disch:=try exact dqd)only[evg1,simprocAttr,Cb,Bg,Cc,ga34,e0,e3,e4,e16,e17,c1,hw,hwr,htj,fm,d9,y7,hoE,ee,hg1,jn,lw,a03,hwz,hg2,hE3,ie,hg3,su,hP4,sv,sw,hr,cd,i6,Eh,xfs,ga5,ga9,ga1,ga6,ga7,ovQ2,Al,An,Bt,Bx];exact IH (S4,n2+1+ua3+ua4+ua12,Gf tk' cp,A6 tk' cp 4,j+1,out++[d.1],Cj fq (Cj y.2 (Cj z0.2 d.2))) _ aF ⟨rfl,aE,by rw [hR,k9 _ z8]; simp only [Fa,Cn,Cq,Fo],by simp [u7],gt,by simpa only [Fo] using fd,aE,fun v hv ho=>by rw [hn4 v ho.1,cu v ho.1,bm v ho.1]; exact am v hv ho,by rw [Aa a24,Aa pf,Aa ml]; exact hoE,Za04⟩
 ·have c1:decide ((j:Int)<(t.rows.length:Int))=false:=dM
  have tw:t.rows.length - j=0:=aA
  rw [tw] at hR;simp only [Ga,Fy,Fk] at hR;have hmf:Hd qF t=(out,Cj one.2 fq):=by unfold Hd; rw [hR,<- dm]
  simp (maxSteps:=10^6)+contextual(disch:=try exact dqd)only[evg1,simprocAttr,Cb,Bg,Cc,ga34,e0,e3,e4,e16,e17,c1];rw [hΦ,hmf];have nw:=hT.take (n:=S.length) (aq.of fun h=>h);exact ⟨_,n',tk',cp,rfl,cD,by simpa only [Fo] using nw,fun v hv=>by
   by_cases gj:v<S.length
   ·rw [B6 gj]; exact am v gj hv
   ·rw [Ag,Ag,Cu cD,Cu aA]⟩):p:=h
namespace QQ
theorem Tl:Aw16:=Ma16
end QQ
end
end
section
open Go
open Go.Proofs.YtcjffhadclngmaaGreat renaming ceQ->ga0
set_option maxRecDepth 100000
abbrev Aw17 (p:Prop:=by exact ∀ {S S':List Ent}{iq eq:Nat}{I:TI}{t:Tb}{c c':Cap}{ir er ib eb id nr b:Nat}{f fl':Bool}{row:List Q}(h:A7 S iq eq I t c)(aa:entAt S' I.it I.et=some [.ifc ua0 (rcvQ iq eq),intA t.vars,intA t.real,.sref ir er 0 (t.rows.length+1) 1,.sref I.ic I.ec 0 t.cost.length ua2,.sref ib eb 0 (t.rows.length+1) 1,.frz ((t.flip++[f]).map De) c'])(jj:entAt S' ir er=some ((I.ids++[(id,nr)]).map (da t.cost.length ua2)))(wt:entAt S' ib eb=some ((t.basis++[b]).map intA))(az:entAt S' id nr=some (flat ga0 row))(iw:row.length=t.cost.length)(ii:okL qF row)(lx:∀ p ∈ I.ids,nth S' p.1=nth S p.1)(i9:nth S' I.ic=nth S I.ic)(dk:FAq S' iq eq fl')(cd:Apart ⟨I.it,I.et,ir,er,I.ic,I.ec,ib,eb,I.ids++[(id,nr)]⟩ iq)(hm:t.rows.length+1<=1000000)(hb:b<t.cost.length),A7 S' iq eq ⟨I.it,I.et,ir,er,I.ic,I.ec,ib,eb,I.ids++[(id,nr)]⟩ { t with rows:=t.rows++[row],basis:=t.basis++[b],flip:=t.flip++[f],fl:=fl' } c'):=p
theorem Ma17 {p:Prop} (h:p:=by
 intro h aa jj wt az iw ii lx i9 dk cd hm hb;have hlen:(t.rows++[row]).length=t.rows.length+1:=by simp
 refine ⟨?_,by simp [h.nids],fun _=>jj,fun i p r hp hr=>?_,fun r hr=>?_,?_,fun _=>wt,by simp [h.nb],by simp [h.nf],dk,cd,fun r hr=>?_,h.okc,h.bigW,by rw [hlen]; exact hm,h.real,fun x hx=>?_⟩
 ·rw [aa]; simp only [hlen,di]
 ·rw [Ag] at hp hr;by_cases hi:i<I.ids.length
  ·rw [C3 hi,<- Ag] at hp;rw [C3 (by rw [<- h.nids]; exact hi),<- Ag] at hr;rw [Aa (lx p (Ak hp))];exact h.rowE i p r hp hr
  ·have wu:i=I.ids.length:=by
    have:=(Fx.1 hp).1;simp at this; omega
   rw [wu,Fc (Ce _),Ol] at hp;rw [wu,h.nids,Fc (Ce _),Ol] at hr;simp only [Oc,A8] at hp hr;subst hp; subst hr;exact az
 ·rcases C5.1 hr with hr|hr
  ·exact h.rowW r hr
  ·simp only [Fu] at hr; subst hr; exact iw
 ·rw [Aa i9]; exact h.costE
 ·rcases C5.1 hr with hr|hr
  ·exact h.okr r hr
  ·simp only [Fu] at hr; subst hr; exact ii
 ·rcases C5.1 hx with hx|hx
  ·exact h.bB x hx
  ·simp only [Fu] at hx; subst hx; exact hb):p:=h
namespace QQ
theorem A7.add:Aw17:=fun {S S' iq eq I t c c' ir er ib eb id nr b f fl' row}=>Ma17
structure G7 (S SS:List Ent) (iq eq:Nat) (I:TI) (t:Tb) (cp:Cap) (L nz n15 n16 n19:Nat) (z:Q) (r:RowT) (row:List Q) (u:Q):Prop where
 T:A7 SS iq eq I t cp
 low:LowQ I iq L t
 Z:entAt SS (S.length+1) nz=some (ceQ z)
 E15:entAt SS L n15=some (rowC r)
 E16:entAt SS (L+1) n16=some (flat ceQ row)
 E19:entAt SS (L+2) n19=some (ceQ u)
 len:SS.length=L+3
 fr:∀ j,j<S.length->j≠iq->nth SS j=nth S j
 qL:iq<S.length
 SL:S.length+3<=L
 ic:I.ic=S.length+2
end QQ
section
variable {S SS S':List Ent} {iq eq:Nat} {I:TI} {t:Tb} {cp:Cap} {L nz n15 n16 n19:Nat} {z u:Q} {r:RowT} {row:List Q}
abbrev Aw18 (p:Prop:=by exact ∀ {S SS S':List Ent}{iq eq:Nat}{I:TI}{t:Tb}{cp:Cap}{L nz n15 n16 n19:Nat}{z u:Q}{r:RowT}{row:List Q}{fl':Bool}(h:G7 S SS iq eq I t cp L nz n15 n16 n19 z r row u)(hS:∀ j,j≠iq->nth S' j=nth SS j)(hl:S'.length=SS.length)(hf:FAq S' iq eq fl'),G7 S S' iq eq I { t with fl:=fl' } cp L nz n15 n16 n19 z r row u):=p
theorem Ma18 {p:Prop} (h:p:=by
 intro h hS hl hf;have hq:=h.qL;have hL:=h.SL;exact ⟨h.T.flag hS hf,h.low.of fun h=>h,by rw [Aa (hS _ aA)]; exact h.Z,by rw [Aa (hS _ aA)]; exact h.E15,by rw [Aa (hS _ aA)]; exact h.E16,by rw [Aa (hS _ aA)]; exact h.E19,by rw [hl]; exact h.len,fun j h1 h2=>by rw [hS j h2]; exact h.fr j h1 h2,hq,hL,h.ic⟩):p:=h
namespace QQ
theorem G7.flag:Aw18:=fun {S SS S' iq eq I t cp L nz n15 n16 n19 z u r row fl'}=>Ma18
end QQ
abbrev Aw19 (p:Prop:=by exact ∀ {S SS:List Ent}{iq eq:Nat}{I:TI}{t:Tb}{cp:Cap}{L nz n15 n16 n19:Nat}{z u:Q}{r:RowT}{row:List Q}(h:G7 S SS iq eq I t cp L nz n15 n16 n19 z r row u)(row':List Q),G7 S (put SS (L+1) ⟨n16,flat ga0 row'⟩) iq eq I t cp L nz n15 n16 n19 z r row' u):=p
theorem Ma19 {p:Prop} (h:p:=by
 intro h row';have hq:=h.qL;have hL:=h.SL;have hl:=h.len;have key:∀ j,j≠L+1->nth (Go.Proofs.YtcjffhadclngmaaGreat.put SS (L+1) ⟨n16,flat ga0 row'⟩) j=nth SS j:=fun j hj=>Ab (Ih hj);have hT:=h.T.frame (S':=Go.Proofs.YtcjffhadclngmaaGreat.put SS (L+1) ⟨n16,flat ga0 row'⟩) (fl':=t.fl) h.low (fun j h1 h2=>key j aA) (h.T.fa.put aA);exact ⟨hT,h.low,Za73,Za71,Ae aA,by rw [Aa (key _ aA)]; exact h.E19,by rw [Ai]; exact hl,fun j h1 h2=>Za6y,hq,hL,h.ic⟩):p:=h
namespace QQ
theorem G7.put:Aw19:=fun {S SS iq eq I t cp L nz n15 n16 n19 z u r row}=>Ma19
end QQ
abbrev Aw20 (p:Prop:=by exact ∀ {S SS:List Ent}{iq eq:Nat}{I:TI}{t:Tb}{cp:Cap}{L nz n15 n16 n19:Nat}{z u:Q}{r:RowT}{row:List Q}(h:G7 S SS iq eq I t cp L nz n15 n16 n19 z r row u)(u':Q),G7 S (Go.Proofs.YtcjffhadclngmaaGreat.put SS (L+2) ⟨n19,ga0 u'⟩) iq eq I t cp L nz n15 n16 n19 z r row u'):=p
theorem Ma20 {p:Prop} (h:p:=by
 intro h u';have hq:=h.qL;have hL:=h.SL;have hl:=h.len;have key:∀ j,j≠L+2->nth (Go.Proofs.YtcjffhadclngmaaGreat.put SS (L+2) ⟨n19,ga0 u'⟩) j=nth SS j:=fun j hj=>Ab (Ih hj);have hT:=h.T.frame (S':=Go.Proofs.YtcjffhadclngmaaGreat.put SS (L+2) ⟨n19,ga0 u'⟩) (fl':=t.fl) h.low (fun j h1 h2=>key j aA) (h.T.fa.put aA);exact ⟨hT,h.low,Za73,Za71,by rw [Aa (key _ aA)]; exact h.E16,Ae aA,by rw [Ai]; exact hl,fun j h1 h2=>Za6y,hq,hL,h.ic⟩):p:=h
namespace QQ
theorem G7.unit:Aw20:=fun {S SS iq eq I t cp L nz n15 n16 n19 z u r row}=>Ma20
end QQ
abbrev Aw21 (p:Prop:=by exact ∀ {S SS:List Ent}{iq eq:Nat}{I:TI}{t:Tb}{cp:Cap}{L nz n15 n16 n19:Nat}{z u:Q}{r:RowT}{row:List Q}{k':List Q}(h:G7 S SS iq eq I t cp L nz n15 n16 n19 z r row u)(hk:k'.length=t.cost.length)(ho:okL qF k'),G7 S (Go.Proofs.YtcjffhadclngmaaGreat.put SS I.ic ⟨I.ec,flat ga0 k'⟩) iq eq I { t with cost:=k' } cp L nz n15 n16 n19 z r row u):=p
theorem Ma21 {p:Prop} (h:p:=by
 intro h hk ho;have hq:=h.qL;have hL:=h.SL;have hl:=h.len;have hic:=h.ic;have key:∀ j,j≠I.ic->nth (Go.Proofs.YtcjffhadclngmaaGreat.put SS I.ic ⟨I.ec,flat ga0 k'⟩) j=nth SS j:=fun j hj=>Ab (Ih hj);have hT:=h.T.setCost (S':=Go.Proofs.YtcjffhadclngmaaGreat.put SS I.ic ⟨I.ec,flat ga0 k'⟩) (fl':=t.fl) hk ho (fun j h1 h2=>key j h1) (Ae aA) (h.T.fa.put aA);exact ⟨hT,h.low.of fun h=>h,Za73,Za71,by rw [Aa (key _ aA)]; exact h.E16,by rw [Aa (key _ aA)]; exact h.E19,by rw [Ai]; exact hl,fun j h1 h2=>Za6y,hq,hL,h.ic⟩):p:=h
namespace QQ
theorem G7.cost:Aw21:=fun {S SS iq eq I t cp L nz n15 n16 n19 z u r row k'}=>Ma21
end QQ
end
end
section
open Go
namespace QQ
def Ajz (S:List Ent) (l:List RowT) (vars:List ByteArray) (fl:Bool) (k iq eq c W nz:Nat) (z:Q) (i:Nat) (st:St):Prop :=
 ∃ sl t1 I cp,i<=l.length/\Bj qF l vars fl=begS qF z vars c W (l.drop i) i sl t1/\A7 st.S iq eq I t1 cp/\t1.rows.length=i/\t1.cost.length=W/\t1.real=c/\t1.vars=vars.length/\sl+neqs (l.drop i)=c/\Bn st.tk cp 1=true/\entAt st.S (S.length+1) nz=some (ceQ z)/\S.length+3<=st.S.length/\(∀ j,j<S.length->j≠iq->nth st.S j=nth S j)/\(I.it=S.length/\I.et=k/\I.ic=S.length+2)/\(S.length+2<I.ir/\S.length+2<I.ib/\∀ p ∈ I.ids,S.length+2<p.1) /\
  st.T.length=270/\getT st.T 0=.ifc 95 (rcvQ iq eq)/\getT st.T 1=.frz (l.map rowC) .unk/\getT st.T 2=.frz (vars.map strC) .unk/\getT st.T 7=.ref S.length k 0/\getT st.T 10=.int (sl:Nat)/\getT st.T 11=.int (W:Nat)/\getT st.T 12=.ref (S.length+1) nz 0/\getT st.T 83=.frz (l.map rowC) .unk/\getT st.T 84=.int (l.length:Nat)/\getT st.T 85=.int (i:Nat)
end QQ
end
end Go.Proofs.YtcjffhadclngmaaGreat
