/- Part 26. -/
import Derived.Test.YthelkgdmgihhiaaGreatZF25
open Bool renaming or->Ck,or_false->Fy,or_assoc->F8,false_ne_true->Iy,false_or->N2
open Go.IntKind renaming i64->Cd
open Go.Proofs.YthelkgdmgihhiaaGreat.AV renaming bool->Bm,int->Ca,str->Cb
open List renaming replicate->Cg,length_cons->Ci,length_append->Cm,map_cons->Cn,cons_append->Co,nil_append->Cr,map_nil->Cs,length_nil->Cu,getElem?_append_left->Cv,length_eq_zero_iff->Cw,append_assoc->Cy,mem_append->C3,mem_cons->C4,getElem?_eq_none->C5,all_eq_true->C9,getElem?_map->Et,take_length->Fb,take_of_length_le->Fc,drop_eq_nil_of_le->Fe,length_map->Fg,getElem?_append_right->Fh,map_append->Fk,append_nil->Fo,mem_singleton->F4,getElem?_eq_some_iff->F5,mem_map->F9,length_pos_iff->Ic,mem_of_getElem?->Il,mem_replicate->Ip,length_take->I1,getElem?_cons_zero->Mf,take->Oe,replicate_succ->Og,length_replicate->Ov,drop->O7,singleton_append->iB,map_map->kR,map_replicate->kU
open Nat renaming le_refl->Ce,zero_le->Cl,mul_one->Fj,zero_add->Fm,add_zero->Ik,sub_self->Ob,eq_zero_or_pos->jA
open Ne renaming symm->Ix
open Option renaming bind_some->Oj
open Option.some renaming injEq->Ba
open Prod.mk renaming injEq->Cf
namespace Go.Proofs.YthelkgdmgihhiaaGreat
section
open Go Go.Proofs.Tryz
open Go.Proofs.Tryz renaming f115->ga28,results115->ga29
open Go.Proofs.YthelkgdmgihhiaaGreat renaming ceQ->ga0,A0->ga1,B2->ga5,A7->ga6
set_option maxRecDepth 100000
namespace QQ
abbrev ua13:Nat:=177
end QQ
set_option maxHeartbeats 20000000
set_option maxRecDepth 100000
section
variable (S:List Ent) (l:List RowT) (vars:List ByteArray) (fl:Bool) (k iq eq c W nz:Nat) (z:Q)
abbrev Aw21 (p:Prop:=by exact ∀ (S:List Ent)(l:List RowT)(vars:List ByteArray)(fl:Bool)(k iq eq c W nz:Nat)(z:Q)(hB:BegC S l vars iq c W)(Φ:Rs->Prop)(i:Nat)(b6:i<l.length)(r:RowT)(hr:nth l i=some r)(sl2:Nat)(kk:sl2+neqs (l.drop (i+1))=c)(t1:Tb)(I:TI)(cp:Cap)(tk:List Nat)(gm:t1.rows.length=i)(hcl:t1.cost.length=W)(cr:t1.real=c)(j1:t1.vars=vars.length)(ab:Be tk cp 1=true)(ba:I.it=S.length/\I.et=k/\I.ic=S.length+2)(j2:S.length+2<I.ir/\S.length+2<I.ib/\∀ p ∈ I.ids,S.length+2<p.1)(rowZ:List Q)(fr:Bool)(py:rowZ.length=W)(orowZ:okL qF rowZ)(L m0 nu:Nat)(u:Q × Bool)(fb:Bool)(ji:fb=D7 r)(SZ:List Ent)(n7 lv:Nat)(mg:Gz S SZ iq eq I { t1 with fl:=Ck t1.fl fr } cp L nz m0 (m0+1) nu z r rowZ u.1)(hR:B1 qF l vars fl=begS qF z vars c W (l.drop (i+1)) (i+1) sl2 { t1 with rows:=t1.rows++[rowZ],cost:=(costL qF c W 0 t1.cost rowZ).1,basis:=t1.basis++[c+i],flip:=t1.flip++[fb],fl:=Ck (Ck t1.fl fr) (costL qF c W 0 t1.cost rowZ).2 })(back:∀ st,Ais S l vars fl k iq eq c W nz z (i+1) st->Gd finM Φ (KA prog ga28 18 [] st))(T:List AV)(hT:T.length=270)(e0:getT T 0=.ifc ua0 (rcvQ iq eq))(e1:getT T 1=.frz (l.map rowC) .unk)(e2:getT T 2=.frz (vars.map strC) .unk)(e7:getT T 7=.ref S.length k 0)(e10:getT T 10=.int (sl2:Nat))(e11:getT T 11=.int (W:Nat))(e12:getT T 12=.ref (S.length+1) nz 0)(e14:getT T 14=.int (i:Nat))(e15:getT T 15=.ref L m0 0)(e16:getT T 16=.sref (L+1) (m0+1) 0 W ua2)(e18:getT T 18=.prim (.bool fb))(e19:getT T 19=.ref (L+2) nu 0)(e83:getT T 83=.frz (l.map rowC) .unk)(e84:getT T 84=.int (l.length:Nat))(e85:getT T 85=.int (i:Nat))(e194:getT T 194=.int (W:Nat))(e195:getT T 195=.int ((0:Nat):Int)),Gd finM Φ (KA prog ga28 43 [lv] ⟨T,SZ,tk,n7⟩)):=p
theorem Ma21 {p:Prop} (h:p:=by
 intro S l vars fl k iq eq c W nz z hB Φ i b6 r hr sl2 kk t1 I cp tk gm hcl cr j1 ab ba j2 rowZ fr py orowZ L m0 nu u fb ji SZ n7 lv mg hR back T hT e0 e1 e2 e7 e10 e11 e12 e14 e15 e16 e18 e19 e83 e84 e85 e194 e195;obtain ⟨hl,li,hv,hc,fw,o5,vp,px⟩:=hB;have sf:=Nr l;have tl:Cd.wrap ((W:Int) - 1)=((W - 1:Nat):Int):=aS
 have fy:W - 1<W:=aA
 have kn:Cd.wrap ((c:Int)+(i:Int))=((c+i:Nat):Int):=aQ
 have tm:Cd.wrap ((i:Int)+1)=((i+1:Nat):Int):=aQ
 have vw:c+i<W:=aA
 refine Vz rfl (t:=.mk) ?_;refine D8 (P:=prog) (fun x st=>st.T.length=270/\(costL qF c W 0 t1.cost rowZ=(x.2.2.1++(costL qF c W x.2.2.1.length x.2.2.2.1 (rowZ.drop x.2.2.1.length)).1,Ck x.2.2.2.2 (costL qF c W x.2.2.1.length x.2.2.2.1 (rowZ.drop x.2.2.1.length)).2))/\(x.2.2.1.length+x.2.2.2.1.length=W)/\(Gz S x.1 iq eq I { t1 with cost:=x.2.2.1++x.2.2.2.1,fl:=Ck (Ck t1.fl fr) x.2.2.2.2 } cp L nz m0 (m0+1) nu z r rowZ u.1)/\getT st.T 0=.ifc ua0 (rcvQ iq eq)/\getT st.T 1=.frz (l.map rowC) .unk/\getT st.T 2=.frz (vars.map strC) .unk/\getT st.T 7=.ref S.length k 0/\getT st.T 10=.int (sl2:Nat)/\getT st.T 11=.int (W:Nat)/\getT st.T 12=.ref (S.length+1) nz 0/\getT st.T 14=.int (i:Nat)/\getT st.T 15=.ref L m0 0/\getT st.T 16=.sref (L+1) (m0+1) 0 W ua2/\getT st.T 18=.prim (.bool fb)/\getT st.T 19=.ref (L+2) nu 0/\getT st.T 83=.frz (l.map rowC) .unk/\getT st.T 84=.int (l.length:Nat)/\getT st.T 85=.int (i:Nat)/\getT st.T 194=.int (W:Nat)/\getT st.T 195=.int (x.2.2.1.length:Nat)/\st.S=x.1/\st.tk=tk/\st.n=x.2.1) (fun x=>x.2.2.2.1.length) (SZ,n7,([]:List Q),t1.cost,false) ?_ ?_;case refine_2=>exact ⟨aH,rfl,by simpa using hcl,by simp only [Cr,Fy]; exact mg,aH,aH,aH,aH,aH,aH,aH,aH,aH,aH,aH,aH,aH,aH,aH,aH,aH,aH,aH,aH⟩
 rintro ⟨SS,n1,p,v,fq⟩ ⟨T,S',tk',n'⟩ ⟨hl,lp,o4,ak,e0,e1,e2,e7,e10,e11,e12,e14,e15,e16,e18,e19,e83,e84,e85,e194,e195,eS,eT,eN⟩ IH;simp only at lp o4 ak e0 e1 e2 e7 e10 e11 e12 e14 e15 e16 e18 e19 e83 e84 e85 e194 e195 eS eT eN;subst eS eT eN;obtain ⟨g,hg,hT⟩:=Ar hl;rw [hg] at e0 e1 e2 e7 e10 e11 e12 e14 e15 e16 e18 e19 e83 e84 e85 e194 e195;subst hT;clear hg hl;have jj:(p++v).length=W:=by simpa using o4
 have lq:=ak.T.top;simp only [ba.1,ba.2.1,ba.2.2,jj,cr,j1,gm,intA] at lq;by_cases hpW:p.length<W
 ·have c2:decide ((p.length:Int)<(W:Int))=true:=by simpa using hpW
  obtain ⟨a0,v,rfl⟩:∃ a0 v',v=a0 :: v':=by
   cases v with
   | nil=>simp at o4; omega
   | cons x v=>exact ⟨x,v,rfl⟩
  obtain ⟨r0,cq⟩:=Ac (show p.length<rowZ.length by omega);have dm:=Aw cq;have oa0:qF.ok a0:=ak.T.okc a0 (by simp);have or0:qF.ok r0:=orowZ r0 (Aj cq);have hw:Cd.wrap ((p.length:Int)+1)=(((p++[a0]).length:Nat):Int):=bP
  have vj:v.length<(a0 :: v).length:=by simp
  have hlp:∀ a:Q,(p++[a]).length=p.length+1:=fun a=>by simp
  rw [dm] at lp;simp only [costL] at lp;by_cases hk1:p.length<c
  ·have c6:decide ((p.length:Int)<(c:Int))=true:=by simpa using hk1
   have aj:J6 qF c W p.length a0 r0=qF.minus a0 r0:=by unfold J6; rw [if_pos (Or.inl hk1)]
   have c7:=c6;have c7b:=c6;exact Ya5
  ·have c6:decide ((p.length:Int)<(c:Int))=false:=by simpa using hk1
   by_cases bu:p.length=W - 1
   ·have c7:decide ((p.length:Int)=((W - 1:Nat):Int))=true:=by exact decide_eq_true aA
    have c7b:((p.length:Int) == ((W - 1:Nat):Int))=true:=by exact decide_eq_true aA
    have aj:J6 qF c W p.length a0 r0=qF.minus a0 r0:=by unfold J6; rw [if_pos (Or.inr bu)]
    exact Ya5
   ·have yz:¬ ((p.length:Int)=((W - 1:Nat):Int)):=fun h=>bu aA;have c7:decide ((p.length:Int)=((W - 1:Nat):Int))=false:=by simpa using yz
    have c7b:((p.length:Int) == ((W - 1:Nat):Int))=false:=by simpa using yz
    have aj:J6 qF c W p.length a0 r0=(a0,false):=by unfold J6; rw [if_neg aA]
    rw [aj] at lp;simp (maxSteps:=10^6)+contextual(disch:=try exact dqd)only[evg1,simprocAttr,Ca,Bm,Cb,ga29,e0,e1,e2,e7,e10,e11,e12,e14,e15,e16,e18,e19,e83,e84,e85,e194,e195,c2,c6,c7,c7b,hw,tl,lq];exact IH (S',n',p++[a0],v,fq) _ aF ⟨rfl,by rw [lp,hlp]; simp only [Cy,Co,Cr,N2],by show (p++[a0]).length+v.length=W; simp only [Cm,Ci,Cu] at o4 ⊢; omega,by simpa using ak,bW⟩
 ·have c2:decide ((p.length:Int)<(W:Int))=false:=by simpa using hpW
  have a1g:v=[]:=Cw.1 aA;subst a1g;simp only [costL,Fo,Fy] at lp ak jj lq;rw [lp] at hR;simp only at hR;clear IH lp;obtain ⟨m7,hm7⟩:∃ m7,m7=n':=⟨_,rfl⟩;subst hm7;obtain ⟨SW,hSW⟩:∃ SW,SW=S':=⟨_,rfl⟩;subst hSW;have hlW:=ak.len;have hSL:=ak.SL;have hqL:=ak.qL;have lw:(t1.flip.map Dc).length+1<=1048576:=by rw [Fg,ak.T.nf]; simp only; omega
  have hfo:Db 1 (t1.flip.map Dc)=true:=by
   unfold Db;rw [C9];intro e he;obtain ⟨b,-,rfl⟩:=F9.1 he;rfl
  have bp:=apB_one (y:=[.prim (.bool fb)]) ab hfo rfl lw;have dy:=Bi ab;have y3:(t1.flip++[fb]).map Dc=t1.flip.map Dc++[[.prim (.bool fb)]]:=by simp [Dc]
  rcases jA i with jk|jk
  ·rw [jk] at lq;simp only [dd] at lq;have hlS:S.length<SW.length:=aA
   have hP:∀ e x:Ent,put (SW++[e]) S.length x=put SW S.length x++[e]:=fun e x=>Dk hlS;have hQ:∀ y e x:Ent,put (put SW S.length y++[e]) S.length x=put SW S.length x++[e]:=fun y e x=>by rw [Dk (by rw [Am]; exact hlS),Lw]
   have qh:∀ y e e' x:Ent,put (put SW S.length y++[e]++[e']) S.length x=put SW S.length x++[e]++[e']:=fun y e e' x=>by rw [Dk (by rw [Cm,Am]; omega),hQ]
   have hE:∀ cs,entAt (put SW S.length ⟨k,cs⟩) S.length k=some cs:=fun cs=>Ah hlS;have hEa:∀ cs e,entAt (put SW S.length ⟨k,cs⟩++[e]) S.length k=some cs:=fun cs e=>Ad (hE cs);have hEb:∀ cs e e',entAt (put SW S.length ⟨k,cs⟩++[e]++[e']) S.length k=some cs:=fun cs e e'=>Ad (hEa cs e);have q7:∀ e,entAt (SW++[e]) S.length k=_:=fun e=>Ad lq;have wi:∀ y e:Ent,(put SW S.length y++[e]).length=L+4:=fun y e=>by rw [Cm,Am,hlW]; rfl
   have ev:∀ S n,apO prog ua13 (.frz [] .nilc) (.lit 1 [.sref (L+1) (m0+1) 0 W ua2]) S n=some (.sref S.length n 0 1 1,S++[⟨n,[.sref (L+1) (m0+1) 0 W ua2]⟩],n+1):=fun S n=>Ajs aM rfl;have tq:∀ (c:Cap) x S n,apO prog 58 (.frz [] .nilc) (.frz [[.prim (.int .i64 x)]] c) S n=some (.sref S.length n 0 1 1,S++[⟨n,[.prim (.int .i64 x)]⟩],n+1):=fun c x S n=>Ajr aM rfl;simp (maxSteps:=10^6)+contextual(disch:=try exact dqd)only[evg1,simprocAttr,Ca,Bm,Cb,ga29,e0,e1,e2,e7,e10,e11,e12,e14,e15,e16,e18,e19,e83,e84,e85,e194,e195,c2,lq,q7,kn,tm,bp,ev,tq,P0,hP,hQ,qh,hE,hEa,hEb,wi,hlW];have hne:0<i->t1.rows≠[]:=fun h=>aA
   have j0:I.ids=[]:=Cw.1 (by rw [ak.T.nids]; simp only; omega);have tj:t1.basis=[]:=Cw.1 (by have:=ak.T.nb; simp only at this; omega);obtain ⟨SF,kq⟩:∃ SF,SF=put SW S.length ⟨k,[.ifc ua0 (rcvQ iq eq),.int (vars.length:Nat),.int (c:Nat),.sref (L+3) m7 0 1 1,.sref (S.length+2) I.ec 0 W ua2,.sref (L+4) (m7+1) 0 1 1,.frz (t1.flip.map Dc++[[.prim (.bool fb)]]) (Az tk' cp 1)]⟩++[⟨m7,[.sref (L+1) (m0+1) 0 W ua2]⟩]++[⟨m7+1,[.prim (.int .i64 ((c+i:Nat):Int))]⟩]:=⟨_,rfl⟩;rw [<- kq];have v7:(put SW S.length ⟨k,[.ifc ua0 (rcvQ iq eq),.int (vars.length:Nat),.int (c:Nat),.sref (L+3) m7 0 1 1,.sref (S.length+2) I.ec 0 W ua2,.sref (L+4) (m7+1) 0 1 1,.frz (t1.flip.map Dc++[[.prim (.bool fb)]]) (Az tk' cp 1)]⟩).length=L+3:=by rw [Am,hlW]
   have htF:entAt SF S.length k=some [.ifc ua0 (rcvQ iq eq),.int (vars.length:Nat),.int (c:Nat),.sref (L+3) m7 0 (i+1) 1,.sref (S.length+2) I.ec 0 W ua2,.sref (L+4) (m7+1) 0 (i+1) 1,.frz (t1.flip.map Dc++[[.prim (.bool fb)]]) (Az tk' cp 1)]:=by rw [kq,hEb,jk]
   have hrF:entAt SF (L+3) m7=some ((I.ids++[(L+1,m0+1)]).map (dm W ua2)):=by rw [kq,j0]; exact Ad (An v7)
   have hbF:entAt SF (L+4) (m7+1)=some ((t1.basis++[c+i]).map intA):=by rw [kq,tj]; exact An (by rw [Cm,v7]; rfl)
   have kr:∀ j,j<L+3->j≠S.length->(0<i->j≠I.ir/\j≠I.ib)->nth SF j=nth SW j:=fun j h1 h2 _=>by
    rw [kq,Bh (by rw [Cm,v7]; omega),Bh (by rw [v7]; exact h1),Ae (Ix h2)]
   have hlF:SF.length=L+5:=by rw [kq,Cm,Cm,v7]; rfl
   have hIR:S.length+2<L+3:=aA
   have hIB:S.length+2<L+4:=aA
   have hAp:Apart ⟨I.it,I.et,L+3,m7,I.ic,I.ec,L+4,m7+1,I.ids++[(L+1,m0+1)]⟩ iq:=by
    rw [j0];constructor <;> first|(simp only; omega)|skip
    ·intro q hq;simp only [Cr,F4] at hq;subst hq;simp only;exact ⟨aA,aA,aA,aA,aA⟩
    ·intro a b x y hx hy hab;have h1:=Bn hx;have h2:=Bn hy;simp only [Cr,Ci,Cu] at h1 h2;omega
   have hRA:A9 SF iq eq ⟨I.it,I.et,(L+3),m7,I.ic,I.ec,(L+4),(m7+1),I.ids++[(L+1,m0+1)]⟩ { t1 with rows:=t1.rows++[rowZ],cost:=p,basis:=t1.basis++[c+i],flip:=t1.flip++[fb],fl:=Ck (Ck t1.fl fr) fq } (Az tk' cp 1):=by
    exact Yad
   refine Ls rfl (back _ ⟨sl2,_,_,Az tk' cp 1,aA,hR,hRA,by simp [gm],jj,cr,j1,kk,dy,?_,?_,fun j h1 h2=>?_,⟨ba.1,ba.2.1,ba.2.2⟩,⟨hIR,hIB,fun q hq=>?_⟩,rfl,rfl,rfl,rfl,rfl,rfl,rfl,rfl,rfl,rfl,rfl⟩)
   ·exact Ya3i
   ·show _<=SF.length;omega
   ·exact Ya3j
   ·rcases C3.1 hq with hq|hq
    ·exact j2.2.2 q hq
    ·simp only [F4] at hq; subst hq; simp only; omega
  ·rw [Bs jk,Bs jk] at lq;have hne:0<i->t1.rows≠[]:=fun h h0=>by rw [h0] at gm; simp only [Cu] at gm; omega
   have hlS:S.length<SW.length:=aA
   have bp:=ak.T.ap;have a3u:I.ir<L:=ak.low.ir (hne jk);have a3v:I.ib<L:=ak.low.ib (hne jk);have hrb:=bp.rb;have io:entAt SW I.ir I.er=some (I.ids.map (dm W ua2)):=by have h:=ak.T.rowsE (hne jk); simp only [jj] at h; exact h
   have po:entAt SW I.ib I.eb=some (t1.basis.map intA):=ak.T.basisE (hne jk);have i5:(I.ids.map (dm W ua2)).length=i:=by rw [Fg,ak.T.nids]; exact gm
   have hbl:(t1.basis.map intA).length=i:=by rw [Fg]; have:=ak.T.nb; simp only at this; omega
   obtain ⟨U1,wj⟩:∃ U1,U1=put SW I.ir ⟨m7,I.ids.map (dm W ua2)++[.sref (L+1) (m0+1) 0 W ua2]⟩:=⟨_,rfl⟩;have hl1:U1.length=L+3:=by rw [wj,Am]; exact hlW
   have dq:entAt U1 S.length k=some [.ifc ua0 (rcvQ iq eq),.int (vars.length:Nat),.int (c:Nat),.sref I.ir I.er 0 i 1,.sref (S.length+2) I.ec 0 W ua2,.sref I.ib I.eb 0 i 1,.frz (t1.flip.map Dc) cp]:=by rw [wj,Ai aA]; exact lq
   obtain ⟨U2,wk⟩:∃ U2,U2=put U1 S.length ⟨k,[.ifc ua0 (rcvQ iq eq),.int (vars.length:Nat),.int (c:Nat),.sref I.ir m7 0 (i+1) 1,.sref (S.length+2) I.ec 0 W ua2,.sref I.ib I.eb 0 i 1,.frz (t1.flip.map Dc) cp]⟩:=⟨_,rfl⟩;have hl2:U2.length=L+3:=by rw [wk,Am]; exact hl1
   have jy:entAt U2 S.length k=some [.ifc ua0 (rcvQ iq eq),.int (vars.length:Nat),.int (c:Nat),.sref I.ir m7 0 (i+1) 1,.sref (S.length+2) I.ec 0 W ua2,.sref I.ib I.eb 0 i 1,.frz (t1.flip.map Dc) cp]:=by rw [wk]; exact Ah aA
   have hb2:entAt U2 I.ib I.eb=some (t1.basis.map intA):=by rw [wk,Ai aA,wj,Ai hrb]; exact po
   obtain ⟨U3,wl⟩:∃ U3,U3=put U2 I.ib ⟨m7+1,t1.basis.map intA++[.prim (.int .i64 ((c+i:Nat):Int))]⟩:=⟨_,rfl⟩;have ei:U3.length=L+3:=by rw [wl,Am]; exact hl2
   have ph:entAt U3 S.length k=some [.ifc ua0 (rcvQ iq eq),.int (vars.length:Nat),.int (c:Nat),.sref I.ir m7 0 (i+1) 1,.sref (S.length+2) I.ec 0 W ua2,.sref I.ib I.eb 0 i 1,.frz (t1.flip.map Dc) cp]:=by rw [wl,Ai aA]; exact jy
   obtain ⟨U4,wm⟩:∃ U4,U4=put U3 S.length ⟨k,[.ifc ua0 (rcvQ iq eq),.int (vars.length:Nat),.int (c:Nat),.sref I.ir m7 0 (i+1) 1,.sref (S.length+2) I.ec 0 W ua2,.sref I.ib (m7+1) 0 (i+1) 1,.frz (t1.flip.map Dc) cp]⟩:=⟨_,rfl⟩;have rz:U4.length=L+3:=by rw [wm,Am]; exact ei
   have wh:entAt U4 S.length k=some [.ifc ua0 (rcvQ iq eq),.int (vars.length:Nat),.int (c:Nat),.sref I.ir m7 0 (i+1) 1,.sref (S.length+2) I.ec 0 W ua2,.sref I.ib (m7+1) 0 (i+1) 1,.frz (t1.flip.map Dc) cp]:=by rw [wm]; exact Ah aA
   obtain ⟨SF,kq⟩:∃ SF,SF=put U4 S.length ⟨k,[.ifc ua0 (rcvQ iq eq),.int (vars.length:Nat),.int (c:Nat),.sref I.ir m7 0 (i+1) 1,.sref (S.length+2) I.ec 0 W ua2,.sref I.ib (m7+1) 0 (i+1) 1,.frz (t1.flip.map Dc++[[.prim (.bool fb)]]) (Az tk' cp 1)]⟩:=⟨_,rfl⟩;have hlF:SF.length=L+3:=by rw [kq,Am]; exact rz
   have a1h:=apB_one (y:=[.prim (.bool fb)]) ab hfo rfl lw;have ev:apO prog ua13 (.sref I.ir I.er 0 i 1) (.lit 1 [.sref (L+1) (m0+1) 0 W ua2]) SW m7=some (.sref I.ir m7 0 (i+1) 1,U1,m7+1):=by rw [wj]; exact Aep aM rfl io i5 jk aA
   have tq:∀ cc:Cap,apO prog 58 (.sref I.ib I.eb 0 i 1) (.frz [[.prim (.int .i64 ((c+i:Nat):Int))]] cc) U2 (m7+1)=some (.sref I.ib (m7+1) 0 (i+1) 1,U3,m7+1+1):=fun cc=>by rw [wl]; exact Aeo aM rfl hb2 hbl jk aA
   have gd:=wk.symm;have wo:=wm.symm;have hs5:=kq.symm;simp (maxSteps:=10^6)+contextual(disch:=try exact dqd)only[evg1,simprocAttr,Ca,Bm,Cb,ga29,e0,e1,e2,e7,e10,e11,e12,e14,e15,e16,e18,e19,e83,e84,e85,e194,e195,c2,lq,kn,tm,a1h,ev,tq,P0,dq,jy,ph,wh,gd,wo,hs5];have htF:entAt SF S.length k=some [.ifc ua0 (rcvQ iq eq),.int (vars.length:Nat),.int (c:Nat),.sref I.ir m7 0 (i+1) 1,.sref (S.length+2) I.ec 0 W ua2,.sref I.ib (m7+1) 0 (i+1) 1,.frz (t1.flip.map Dc++[[.prim (.bool fb)]]) (Az tk' cp 1)]:=by rw [kq]; exact Ah aA
   have hrF:entAt SF I.ir m7=some ((I.ids++[(L+1,m0+1)]).map (dm W ua2)):=by
    rw [kq,Ai aA,wm,Ai aA,wl,Ai (Ix hrb),wk,Ai aA,wj,Ah aA];simp [dm]
   have hbF:entAt SF I.ib (m7+1)=some ((t1.basis++[c+i]).map intA):=by
    rw [kq,Ai aA,wm,Ai aA,wl,Ah aA];simp [intA]
   have kr:∀ j,j<L+3->j≠S.length->(0<i->j≠I.ir/\j≠I.ib)->nth SF j=nth SW j:=fun j h1 h2 h3=>by
    have h4:=h3 jk;rw [kq,Ae (Ix h2),wm,Ae (Ix h2),wl,Ae (Ix h4.2),wk,Ae (Ix h2),wj,Ae (Ix h4.1)]
   have hIR:S.length+2<I.ir:=j2.1;have hIB:S.length+2<I.ib:=j2.2.1;have hAp:Apart ⟨I.it,I.et,I.ir,m7,I.ic,I.ec,I.ib,m7+1,I.ids++[(L+1,m0+1)]⟩ iq:=by
    refine ⟨bp.tr,bp.tc,bp.tb,bp.rc,bp.rb,bp.cb,bp.qt,bp.qr,bp.qc,bp.qb,fun q hq=>?_,fun a b x y hx hy hab=>?_⟩
    ·rcases C3.1 hq with hq|hq
     ·exact bp.row q hq
     ·simp only [F4] at hq;subst hq;simp only;exact ⟨aA,aA,aA,aA,aA⟩
    ·have h1:=Bn hx;have h2:=Bn hy;rw [Cm] at h1 h2;simp only [Ci,Cu] at h1 h2;rw [Af] at hx hy;by_cases ha:a<I.ids.length
     ·rw [Cv ha,<- Af] at hx;by_cases hb:b<I.ids.length
      ·rw [Cv hb,<- Af] at hy;exact bp.rows a b x y hx hy hab
      ·have hb2:b=I.ids.length:=aA
       rw [hb2,Fh (Ce _),Ob] at hy;simp only [Mf,Ba] at hy;subst hy;have:=ak.low.row x (Aj hx);simp only; omega
     ·have nw:a=I.ids.length:=aA
      have hb:b<I.ids.length:=aA
      rw [nw,Fh (Ce _),Ob] at hx;simp only [Mf,Ba] at hx;subst hx;rw [Cv hb,<- Af] at hy;have:=ak.low.row y (Aj hy);simp only; omega
   have hRA:A9 SF iq eq ⟨I.it,I.et,I.ir,m7,I.ic,I.ec,I.ib,(m7+1),I.ids++[(L+1,m0+1)]⟩ { t1 with rows:=t1.rows++[rowZ],cost:=p,basis:=t1.basis++[c+i],flip:=t1.flip++[fb],fl:=Ck (Ck t1.fl fr) fq } (Az tk' cp 1):=by
    exact Yad
   refine Ls rfl (back _ ⟨sl2,_,_,Az tk' cp 1,aA,hR,hRA,by simp [gm],jj,cr,j1,kk,dy,?_,?_,fun j h1 h2=>?_,⟨ba.1,ba.2.1,ba.2.2⟩,⟨hIR,hIB,fun q hq=>?_⟩,rfl,rfl,rfl,rfl,rfl,rfl,rfl,rfl,rfl,rfl,rfl⟩)
   ·exact Ya3i
   ·show _<=SF.length;omega
   ·exact Ya3j
   ·rcases C3.1 hq with hq|hq
    ·exact j2.2.2 q hq
    ·simp only [F4] at hq; subst hq; simp only; omega):p:=h
namespace QQ
theorem Auc:Aw21:=Ma21
end QQ
end
end
section
open Go Go.Proofs.Tryz
open Go.Proofs.Tryz renaming f115->ga28,results115->ga29
open Go.Proofs.YthelkgdmgihhiaaGreat renaming ceQ->ga0,A0->ga1,B2->ga5,A7->ga6
set_option maxRecDepth 100000
set_option maxHeartbeats 20000000
set_option maxRecDepth 100000
section
variable (S:List Ent) (l:List RowT) (vars:List ByteArray) (fl:Bool) (k iq eq c W nz:Nat) (z:Q)
abbrev Aw22 (p:Prop:=by exact ∀ (S:List Ent)(l:List RowT)(vars:List ByteArray)(fl:Bool)(k iq eq c W nz:Nat)(z:Q)(hB:BegC S l vars iq c W)(oz:qF.ok z)(Φ:Rs->Prop)(i:Nat)(b6:i<l.length)(r:RowT)(hr:nth l i=some r)(sl:Nat)(nv:sl+neqs (l.drop i)=c)(t1:Tb)(I:TI)(cp:Cap)(tk:List Nat)(gm:t1.rows.length=i)(hcl:t1.cost.length=W)(cr:t1.real=c)(j1:t1.vars=vars.length)(ab:Be tk cp 1=true)(ba:I.it=S.length/\I.et=k/\I.ic=S.length+2)(j2:S.length+2<I.ir/\S.length+2<I.ib/\∀ p ∈ I.ids,S.length+2<p.1)(L m0 nu:Nat)(u:Q × Bool)(hU:Kk qF (D7 r)=u)(ou:qF.ok u.1)(SX:List Ent)(nx lv:Nat)(gn:Gz S SX iq eq I { t1 with fl:=Ck t1.fl u.2 } cp L nz m0 (m0+1) nu z r (Cg W z) u.1)(hR:B1 qF l vars fl=begS qF z vars c W (l.drop i) i sl t1)(back:∀ st,Ais S l vars fl k iq eq c W nz z (i+1) st->Gd finM Φ (KA prog ga28 18 [] st))(T:List AV)(hT:T.length=270)(e0:getT T 0=.ifc ua0 (rcvQ iq eq))(e1:getT T 1=.frz (l.map rowC) .unk)(e2:getT T 2=.frz (vars.map strC) .unk)(e7:getT T 7=.ref S.length k 0)(e10:getT T 10=.int (sl:Nat))(e11:getT T 11=.int (W:Nat))(e12:getT T 12=.ref (S.length+1) nz 0)(e14:getT T 14=.int (i:Nat))(e15:getT T 15=.ref L m0 0)(e16:getT T 16=.sref (L+1) (m0+1) 0 W ua2)(e18:getT T 18=.prim (.bool (D7 r)))(e19:getT T 19=.ref (L+2) nu 0)(e83:getT T 83=.frz (l.map rowC) .unk)(e84:getT T 84=.int (l.length:Nat))(e85:getT T 85=.int (i:Nat))(e113:getT T 113=.frz (r.1.map Ao) .unk)(e114:getT T 114=.int (r.1.length:Nat))(e115:getT T 115=.int ((0:Nat):Int)),Gd finM Φ (KA prog ga28 31 [lv] ⟨T,SX,tk,nx⟩)):=p
theorem Ma22 {p:Prop} (h:p:=by
 intro S l vars fl k iq eq c W nz z hB oz Φ i b6 r hr sl nv t1 I cp tk gm hcl cr j1 ab ba j2 L m0 nu u hU ou SX nx lv gn hR back T hT e0 e1 e2 e7 e10 e11 e12 e14 e15 e16 e18 e19 e83 e84 e85 e113 e114 e115;have hB2:=hB;obtain ⟨hl,li,hv,hc,fw,o5,vp,px⟩:=hB2;have sf:=Nr l;have o6:r ∈ l:=Aj hr;have mi:i64 r.2.1:=(hc r o6).1;refine Vz rfl (t:=.mk) ?_;refine D8 (P:=prog) (fun x st=>st.T.length=270/\(x.2.2.1<=r.1.length)/\(coefsC qF u.1 z vars r.1 (Cg W z)=((coefsC qF u.1 z vars (r.1.drop x.2.2.1) x.2.2.2.1).1,Ck x.2.2.2.2 (coefsC qF u.1 z vars (r.1.drop x.2.2.1) x.2.2.2.1).2))/\(x.2.2.2.1.length=W)/\(okL qF x.2.2.2.1)/\(Gz S x.1 iq eq I { t1 with fl:=Ck (Ck t1.fl u.2) x.2.2.2.2 } cp L nz m0 (m0+1) nu z r x.2.2.2.1 u.1)/\getT st.T 0=.ifc ua0 (rcvQ iq eq)/\getT st.T 1=.frz (l.map rowC) .unk/\getT st.T 2=.frz (vars.map strC) .unk/\getT st.T 7=.ref S.length k 0/\getT st.T 10=.int (sl:Nat)/\getT st.T 11=.int (W:Nat)/\getT st.T 12=.ref (S.length+1) nz 0/\getT st.T 14=.int (i:Nat)/\getT st.T 15=.ref L m0 0/\getT st.T 16=.sref (L+1) (m0+1) 0 W ua2/\getT st.T 18=.prim (.bool (D7 r))/\getT st.T 19=.ref (L+2) nu 0/\getT st.T 83=.frz (l.map rowC) .unk/\getT st.T 84=.int (l.length:Nat)/\getT st.T 85=.int (i:Nat)/\getT st.T 113=.frz (r.1.map Ao) .unk/\getT st.T 114=.int (r.1.length:Nat)/\getT st.T 115=.int (x.2.2.1:Nat)/\st.S=x.1/\st.tk=tk/\st.n=x.2.1) (fun x=>r.1.length - x.2.2.1) (SX,nx,0,(Cg W z),false) ?_ ?_;case refine_2=>exact ⟨aH,Cl _,rfl,by simp,fun q hq=>by rw [Ip] at hq; rw [hq.2]; exact oz,by simp only [Fy]; exact gn,aH,aH,aH,aH,aH,aH,aH,aH,aH,aH,aH,aH,aH,aH,aH,aH,aH,aH,aH,aH,aH⟩
 rintro ⟨SS,n1,j,row,f1⟩ ⟨T,S',tk',n'⟩ ⟨hl,mc,q8,dj,orow,gn,e0,e1,e2,e7,e10,e11,e12,e14,e15,e16,e18,e19,e83,e84,e85,e113,e114,e115,eS,eT,eN⟩ IH;simp only at mc q8 dj orow gn e0 e1 e2 e7 e10 e11 e12 e14 e15 e16 e18 e19 e83 e84 e85 e113 e114 e115 eS eT eN;subst eS eT eN;obtain ⟨g,hg,hT⟩:=Ar hl;rw [hg] at e0 e1 e2 e7 e10 e11 e12 e14 e15 e16 e18 e19 e83 e84 e85 e113 e114 e115;subst hT;clear hg hl;have il:=fw r o6;by_cases qj:j<r.1.length
 ·have c2:decide ((j:Int)<(r.1.length:Int))=true:=dU
  have hw:Cd.wrap ((j:Int)+1)=((j+1:Nat):Int):=aQ
  obtain ⟨ct,y4⟩:=Ac qj;have a1i:nth (r.1.map Ao) j=some [.prim (.string ct.1),.prim (.int .i64 ct.2)]:=by rw [Dj,y4]; rfl
  have y5:ct ∈ r.1:=Aj y4;have nj:=Pq (hv r o6 ct y5);obtain ⟨x,hx⟩:∃ x,x=idxV vars ct.1:=⟨_,rfl⟩;rw [<- hx] at nj;have q9 S tk k:=W1 S tk k vars ct.1 aA;simp only [nj.1] at q9;have hb1:2*x<W:=aA
  have hb2:2*x+1<W:=aA
  have a1j:Cd.wrap (2*(x:Int))=((2*x:Nat):Int):=aQ
  have a1k:Cd.wrap (((2*x:Nat):Int)+1)=((2*x+1:Nat):Int):=aQ
  have q6:=Aw y4;have hlX:=gn.len;have eo:=gn.T.fa;have y6:i64 ct.2:=(hc r o6).2 ct y5;obtain ⟨w,lj⟩:∃ w,w=qF.whole ct.2:=⟨_,rfl⟩;have ow:qF.ok w.1:=by rw [lj]; exact E9 _ y6
  have j9:=Me (S'++[(⟨n',[.prim (.string ct.1),.prim (.int .i64 ct.2)]⟩:Ent)]) tk' (n'+1) iq eq _ ct.2 y6 eo.app;have hg1:=Es (c:=w.2) (eo.app (L:=[(⟨n',[.prim (.string ct.1),.prim (.int .i64 ct.2)]⟩:Ent)]));rw [<- lj] at j9;rw [Hr eo] at j9 hg1;obtain ⟨S1a,mh⟩:∃ S1a,S1a=flS S' iq eq w.2:=⟨_,rfl⟩;have ko:=gn.flag (S':=flS S' iq eq w.2) (fun j hj=>ga6 hj) Bp eo.fS;rw [<- mh] at j9 hg1 ko;have ji:=ko.T.fa;obtain ⟨y,mj⟩:∃ y,y=qF.times u.1 w.1:=⟨_,rfl⟩;have oy:qF.ok y.1:=Za33
  have lu:=Agq (S1a++[(⟨n',[.prim (.string ct.1),.prim (.int .i64 ct.2)]⟩:Ent)]) tk' (n'+1+ua3) iq eq _ u.1 w.1 ou ow ji.app;have hg2:=Es (c:=y.2) (ji.app (L:=[(⟨n',[.prim (.string ct.1),.prim (.int .i64 ct.2)]⟩:Ent)]));rw [<- mj] at lu;rw [Hr ji] at lu hg2;obtain ⟨S2a,a1l⟩:∃ S2a,S2a=flS S1a iq eq y.2:=⟨_,rfl⟩;have ez:=ko.flag (S':=flS S1a iq eq y.2) (fun j hj=>ga6 hj) Bp ji.fS;rw [<- a1l] at lu hg2 ez;have jz:=ez.put (put row (2*x) y.1);obtain ⟨S3a,y7⟩:∃ S3a,S3a=put S2a (L+1) ⟨m0+1,flat ga0 (put row (2*x) y.1)⟩:=⟨_,rfl⟩;rw [<- y7] at jz;have a3w:=ez.len;have hP3:∀ e:Ent,put (S2a++[e]) (L+1) ⟨m0+1,flat ga0 (put row (2*x) y.1)⟩=S3a++[e]:=fun e=>by rw [Dk aA,y7]
  have gp:=jz.T.fa;obtain ⟨d,jn⟩:∃ d,d=qF.minus z y.1:=⟨_,rfl⟩;have od:qF.ok d.1:=Za34
  have ek:=Nc (S3a++[(⟨n',[.prim (.string ct.1),.prim (.int .i64 ct.2)]⟩:Ent)]) tk' (n'+1+ua3+ua4) iq eq _ z y.1 oz oy gp.app;have hg3:=Es (c:=d.2) (gp.app (L:=[(⟨n',[.prim (.string ct.1),.prim (.int .i64 ct.2)]⟩:Ent)]));rw [<- jn] at ek;rw [Hr gp] at ek hg3;obtain ⟨S4a,a1m⟩:∃ S4a,S4a=flS S3a iq eq d.2:=⟨_,rfl⟩;have hR4:=jz.flag (S':=flS S3a iq eq d.2) (fun j hj=>ga6 hj) Bp gp.fS;rw [<- a1m] at ek hg3 hR4;have a3x:=hR4.len;have ml:=hR4.put (put (put row (2*x) y.1) (2*x+1) d.1);obtain ⟨S5a,kt⟩:∃ S5a,S5a=put S4a (L+1) ⟨m0+1,flat ga0 (put (put row (2*x) y.1) (2*x+1) d.1)⟩:=⟨_,rfl⟩;rw [<- kt] at ml;have hP5:∀ e:Ent,put (S4a++[e]) (L+1) ⟨m0+1,flat ga0 (put (put row (2*x) y.1) (2*x+1) d.1)⟩=S5a++[e]:=fun e=>by rw [Dk aA,kt]
  have hl5:=ml.len;have me:∀ e:Ent,Oe S'.length (S5a++[e])=S5a:=fun e=>by rw [hlX,<- hl5]; simp
  have yv:∀ e:Ent,entAt (S'++[e]) (L+2) nu=some (ga0 u.1):=fun e=>Ad gn.E19;have wg:∀ e:Ent,entAt (S2a++[e]) (L+1) (m0+1)=some (flat ga0 row):=fun e=>Ad ez.E16;have hE3:∀ e:Ent,entAt (S3a++[e]) (S.length+1) nz=some (ga0 z):=fun e=>Ad jz.Z;have tf:∀ e:Ent,entAt (S3a++[e]) (L+1) (m0+1)=some (flat ga0 (put row (2*x) y.1)):=fun e=>Ad jz.E16;have th:∀ e:Ent,entAt (S4a++[e]) (L+1) (m0+1)=some (flat ga0 (put row (2*x) y.1)):=fun e=>Ad hR4.E16;have ii:=Bl (ce:=ga0) ga1 (l:=row) (k:=2*x) (q':=y.1) aA;have j5:=Bl (ce:=ga0) ga1 (l:=put row (2*x) y.1) (k:=2*x+1) (q':=d.1) (by rw [Ak]; omega);have htx:=Aq (ce:=ga0) ga1 (l:=put row (2*x) y.1) (k:=2*x) (q:=y.1) (De aA);simp (maxSteps:=10^6)+contextual(disch:=try exact dqd)only[evg1,simprocAttr,Ca,Bm,Cb,ga29,e0,e1,e2,e7,e10,e11,e12,e14,e15,e16,e18,e19,e83,e84,e85,e113,e114,e115,c2,hw,a1i,q9,a1j,a1k,hb1,hb2,j9,hg1,lu,hg2,hP3,ek,hg3,hP5,me,yv,wg,hE3,tf,th,ii,j5,htx,Ge,xfs,puQ,tkQ,ga1,ga5];have hsc:setC qF u.1 z (idxV vars ct.1) row ct.2=(put (put row (2*x) y.1) (2*x+1) d.1,Ck (Ck w.2 y.2) d.2):=by unfold setC; rw [<- hx,<- lj,<- mj,<- jn]
  rw [q6] at q8;simp only [coefsC,hsc] at q8;have orow2:okL qF (put (put row (2*x) y.1) (2*x+1) d.1):=by
   intro q hq;rcases Bw hq with rfl|hq
   ·exact od
   ·rcases Bw hq with rfl|hq
    ·exact oy
    ·exact orow q hq
  exact IH (S5a,n'+1+ua3+ua4+ua4,j+1,put (put row (2*x) y.1) (2*x+1) d.1,Ck f1 (Ck (Ck w.2 y.2) d.2)) _ aF ⟨rfl,aE,by rw [q8]; simp only [F8],by rw [Ak,Ak]; exact dj,orow2,by simpa only [F8] using ml,bW⟩
 ·have c2:decide ((j:Int)<(r.1.length:Int))=false:=dU
  have ve:r.1.drop j=[]:=Fe aA;rw [ve] at q8;simp only [coefsC,Fy] at q8;clear IH ve qj mc;obtain ⟨n6,hn6⟩:∃ n6,n6=n':=⟨_,rfl⟩;subst hn6;obtain ⟨SU,hSU⟩:∃ SU,SU=S':=⟨_,rfl⟩;subst hSU;have y8:=P4 hr;have mn:=gn.E15;have ra:=gn.E19;have ff:=gn.E16;simp only [rowC,Ag] at mn;have hlU:=gn.len;cases heq:r.2.2
  ·rw [heq,if_neg Iy] at y8;have je:sl<W:=aA
   have gd:=Bl (ce:=ga0) ga1 (l:=row) (k:=sl) (q':=u.1) aA;have o3:Cd.wrap ((sl:Int)+1)=((sl+1:Nat):Int):=aQ
   have ak:=gn.put (put row sl u.1);obtain ⟨rowY,de⟩:∃ rowY,rowY=put row sl u.1:=⟨_,rfl⟩;have hsF:Qj r.2.2 row sl u.1=rowY:=by rw [de,heq]; rfl
   have tu:rowY.length=W:=by rw [de,Ak]; exact dj
   have orowY:okL qF rowY:=by
    rw [de];intro q hq;rcases Bw hq with rfl|hq
    ·exact ou
    ·exact orow q hq
   rw [<- de] at gd ak;obtain ⟨SY,y9⟩:∃ SY,SY=put SU (L+1) ⟨m0+1,flat ga0 rowY⟩:=⟨_,rfl⟩;rw [<- y9] at ak;have wo:=y9.symm;obtain ⟨sl2,za⟩:∃ sl2,sl2=sl+1:=⟨_,rfl⟩;have tv:(if r.2.2=true then sl else sl+1)=sl2:=by rw [heq,za]; rfl
   have kk:sl2+neqs (l.drop (i+1))=c:=aA
   rw [<- za] at o3;clear y9;have zc:=ak.T.top;simp only [ba.1,ba.2.1,ba.2.2,hcl,cr,j1,gm,intA] at zc;have vw:c+i<W:=aA
   have kn:Cd.wrap ((c:Int)+(i:Int))=((c+i:Nat):Int):=aQ
   have tl:Cd.wrap ((W:Int) - 1)=((W - 1:Nat):Int):=aS
   have fy:W - 1<W:=aA
   have eo:=ak.T.fa;obtain ⟨o,oi⟩:∃ o,o=qF.whole 1:=⟨_,rfl⟩;have oo:qF.ok o.1:=by rw [oi]; exact E9 1 aD
   have tw:=Me SY tk' n6 iq eq _ 1 aD eo;have lg:=Es (c:=o.2) eo;rw [<- oi] at tw;obtain ⟨S5a,kt⟩:∃ S5a,S5a=flS SY iq eq o.2:=⟨_,rfl⟩;have ml:=ak.flag (S':=flS SY iq eq o.2) (fun j hj=>ga6 hj) Bp eo.fS;rw [<- kt] at tw lg ml;have zd:=Bl (ce:=ga0) ga1 (l:=rowY) (k:=c+i) (q':=o.1) aA;have jl:=ml.put (put rowY (c+i) o.1);obtain ⟨row6,df⟩:∃ row6,row6=put rowY (c+i) o.1:=⟨_,rfl⟩;have tx:row6.length=W:=by rw [df,Ak]; exact tu
   obtain ⟨S6a,mo⟩:∃ S6a,S6a=put S5a (L+1) ⟨m0+1,flat ga0 row6⟩:=⟨_,rfl⟩;rw [<- df] at zd jl;rw [<- mo] at jl;have mq:=ml.E16;have ji:=jl.T.fa;have hZ6:=jl.Z;have gt:=jl.E15;have mr:=jl.E19;simp only [rowC,Ag] at gt;obtain ⟨w,lj⟩:∃ w,w=qF.whole r.2.1:=⟨_,rfl⟩;have ow:qF.ok w.1:=by rw [lj]; exact E9 _ mi
   have j9:=Me S6a tk' (n6+ua3) iq eq _ r.2.1 mi ji;have hg1:=Es (c:=w.2) ji;rw [<- lj] at j9;obtain ⟨S7a,tz⟩:∃ S7a,S7a=flS S6a iq eq w.2:=⟨_,rfl⟩;have ua:=jl.flag (S':=flS S6a iq eq w.2) (fun j hj=>ga6 hj) Bp ji.fS;rw [<- tz] at j9 hg1 ua;have gp:=ua.T.fa;obtain ⟨y,mj⟩:∃ y,y=qF.times u.1 w.1:=⟨_,rfl⟩;have oy:qF.ok y.1:=Za33
   have lu:=Agq S7a tk' (n6+ua3+ua3) iq eq _ u.1 w.1 ou ow gp;have hg2:=Es (c:=y.2) gp;rw [<- mj] at lu;obtain ⟨S8a,ub⟩:∃ S8a,S8a=flS S7a iq eq y.2:=⟨_,rfl⟩;have uc:=ua.flag (S':=flS S7a iq eq y.2) (fun j hj=>ga6 hj) Bp gp.fS;rw [<- ub] at lu hg2 uc;have ud:=uc.T.fa;obtain ⟨d,jn⟩:∃ d,d=qF.minus z y.1:=⟨_,rfl⟩;have od:qF.ok d.1:=Za34
   have ek:=Nc S8a tk' (n6+ua3+ua3+ua4) iq eq _ z y.1 oz oy ud;have hg3:=Es (c:=d.2) ud;rw [<- jn] at ek;obtain ⟨S9a,ue⟩:∃ S9a,S9a=flS S8a iq eq d.2:=⟨_,rfl⟩;have uf:=uc.flag (S':=flS S8a iq eq d.2) (fun j hj=>ga6 hj) Bp ud.fS;rw [<- ue] at ek hg3 uf;have ze:=Bl (ce:=ga0) ga1 (l:=row6) (k:=W - 1) (q':=d.1) aA;have mu:=uf.E16;have ug:=uf.put (put row6 (W - 1) d.1);obtain ⟨rowZ,dh⟩:∃ rowZ,rowZ=put row6 (W - 1) d.1:=⟨_,rfl⟩;have py:rowZ.length=W:=by rw [dh,Ak]; exact tx
   have orowZ:okL qF rowZ:=by
    exact Ya1o
   obtain ⟨SZ,zf⟩:∃ SZ,SZ=put S9a (L+1) ⟨m0+1,flat ga0 rowZ⟩:=⟨_,rfl⟩;rw [<- dh] at ze ug;rw [<- zf] at ug;have fd:Uv qF u.1 z r.2.1=(d.1,Ck (Ck w.2 y.2) d.2):=by unfold Uv; rw [<- lj,<- mj,<- jn]
   have gv:rowF qF z vars c W i sl r=(rowZ,Ck (Ck (Ck u.2 f1) o.2) (Ck (Ck w.2 y.2) d.2)):=by
    unfold rowF;simp only [hU,q8,fd,hsF,<- oi,<- df,<- dh]
   obtain ⟨fr,mw⟩:∃ fr,fr=Ck (Ck (Ck u.2 f1) o.2) (Ck (Ck w.2 y.2) d.2):=⟨_,rfl⟩;rw [<- mw] at gv;have mg:Gz S SZ iq eq I { t1 with fl:=Ck t1.fl fr } cp L nz m0 (m0+1) nu z r rowZ u.1:=by
    rw [mw];simpa only [F8] using ug
   have uh:=mo.symm;have ui:=zf.symm;simp (maxSteps:=10^6)+contextual(disch:=try exact dqd)only[evg1,simprocAttr,Ca,Bm,Cb,ga29,e0,e1,e2,e7,e10,e11,e12,e14,e15,e16,e18,e19,e83,e84,e85,e113,e114,e115,c2,mn,ra,ff,heq,je,gd,o3,wo,zc,vw,kn,tl,fy,tw,lg,zd,mq,uh,hZ6,gt,mr,j9,hg1,lu,hg2,ek,hg3,ze,mu,ui,Ge,xfs,puQ,tkQ,ga1,ga5];have md:begS qF z vars c W (l.drop i) i sl t1=begS qF z vars c W (l.drop (i+1)) (i+1) sl2 { t1 with rows:=t1.rows++[rowZ],cost:=(costL qF c W 0 t1.cost rowZ).1,basis:=t1.basis++[c+i],flip:=t1.flip++[D7 r],fl:=Ck (Ck t1.fl fr) (costL qF c W 0 t1.cost rowZ).2 }:=by
    rw [Aw hr];simp only [begS,cr];rw [gv,tv]
   rw [md] at hR;exact Ls rfl (Auc S l vars fl k iq eq c W nz z hB Φ i b6 r hr sl2 kk t1 I cp tk' gm hcl cr j1 ab ba j2 rowZ fr py orowZ L m0 nu u (D7 r) rfl SZ _ _ mg hR back _ rfl rfl rfl rfl rfl rfl rfl rfl rfl rfl rfl rfl rfl rfl rfl rfl rfl rfl)
  ·rw [heq,if_pos rfl] at y8;have je:0<W:=aA
   have gd:=je;have o3:=je;have wo:=je;have ak:=gn;obtain ⟨rowY,de⟩:∃ rowY,rowY=row:=⟨_,rfl⟩;have hsF:Qj r.2.2 row sl u.1=rowY:=by rw [de,heq]; rfl
   have tu:rowY.length=W:=by rw [de]; exact dj
   have orowY:okL qF rowY:=by rw [de]; exact orow
   rw [<- de] at ak;obtain ⟨SY,y9⟩:∃ SY,SY=SU:=⟨_,rfl⟩;subst y9;have tv:(if r.2.2=true then sl else sl+1)=sl:=by rw [heq]; rfl
   have kk:sl+neqs (l.drop (i+1))=c:=aA
   have zc:=ak.T.top;simp only [ba.1,ba.2.1,ba.2.2,hcl,cr,j1,gm,intA] at zc;have vw:c+i<W:=aA
   have kn:Cd.wrap ((c:Int)+(i:Int))=((c+i:Nat):Int):=aQ
   have tl:Cd.wrap ((W:Int) - 1)=((W - 1:Nat):Int):=aS
   have fy:W - 1<W:=aA
   have eo:=ak.T.fa;obtain ⟨o,oi⟩:∃ o,o=qF.whole 1:=⟨_,rfl⟩;have oo:qF.ok o.1:=by rw [oi]; exact E9 1 aD
   have tw:=Me SY tk' n6 iq eq _ 1 aD eo;have lg:=Es (c:=o.2) eo;rw [<- oi] at tw;obtain ⟨S5a,kt⟩:∃ S5a,S5a=flS SY iq eq o.2:=⟨_,rfl⟩;have ml:=ak.flag (S':=flS SY iq eq o.2) (fun j hj=>ga6 hj) Bp eo.fS;rw [<- kt] at tw lg ml;have zd:=Bl (ce:=ga0) ga1 (l:=rowY) (k:=c+i) (q':=o.1) aA;have jl:=ml.put (put rowY (c+i) o.1);obtain ⟨row6,df⟩:∃ row6,row6=put rowY (c+i) o.1:=⟨_,rfl⟩;have tx:row6.length=W:=by rw [df,Ak]; exact tu
   obtain ⟨S6a,mo⟩:∃ S6a,S6a=put S5a (L+1) ⟨m0+1,flat ga0 row6⟩:=⟨_,rfl⟩;rw [<- df] at zd jl;rw [<- mo] at jl;have mq:=ml.E16;have ji:=jl.T.fa;have hZ6:=jl.Z;have gt:=jl.E15;have mr:=jl.E19;simp only [rowC,Ag] at gt;obtain ⟨w,lj⟩:∃ w,w=qF.whole r.2.1:=⟨_,rfl⟩;have ow:qF.ok w.1:=by rw [lj]; exact E9 _ mi
   have j9:=Me S6a tk' (n6+ua3) iq eq _ r.2.1 mi ji;have hg1:=Es (c:=w.2) ji;rw [<- lj] at j9;obtain ⟨S7a,tz⟩:∃ S7a,S7a=flS S6a iq eq w.2:=⟨_,rfl⟩;have ua:=jl.flag (S':=flS S6a iq eq w.2) (fun j hj=>ga6 hj) Bp ji.fS;rw [<- tz] at j9 hg1 ua;have gp:=ua.T.fa;obtain ⟨y,mj⟩:∃ y,y=qF.times u.1 w.1:=⟨_,rfl⟩;have oy:qF.ok y.1:=Za33
   have lu:=Agq S7a tk' (n6+ua3+ua3) iq eq _ u.1 w.1 ou ow gp;have hg2:=Es (c:=y.2) gp;rw [<- mj] at lu;obtain ⟨S8a,ub⟩:∃ S8a,S8a=flS S7a iq eq y.2:=⟨_,rfl⟩;have uc:=ua.flag (S':=flS S7a iq eq y.2) (fun j hj=>ga6 hj) Bp gp.fS;rw [<- ub] at lu hg2 uc;have ud:=uc.T.fa;obtain ⟨d,jn⟩:∃ d,d=qF.minus z y.1:=⟨_,rfl⟩;have od:qF.ok d.1:=Za34
   have ek:=Nc S8a tk' (n6+ua3+ua3+ua4) iq eq _ z y.1 oz oy ud;have hg3:=Es (c:=d.2) ud;rw [<- jn] at ek;obtain ⟨S9a,ue⟩:∃ S9a,S9a=flS S8a iq eq d.2:=⟨_,rfl⟩;have uf:=uc.flag (S':=flS S8a iq eq d.2) (fun j hj=>ga6 hj) Bp ud.fS;rw [<- ue] at ek hg3 uf;have ze:=Bl (ce:=ga0) ga1 (l:=row6) (k:=W - 1) (q':=d.1) aA;have mu:=uf.E16;have ug:=uf.put (put row6 (W - 1) d.1);obtain ⟨rowZ,dh⟩:∃ rowZ,rowZ=put row6 (W - 1) d.1:=⟨_,rfl⟩;have py:rowZ.length=W:=by rw [dh,Ak]; exact tx
   have orowZ:okL qF rowZ:=by
    exact Ya1o
   obtain ⟨SZ,zf⟩:∃ SZ,SZ=put S9a (L+1) ⟨m0+1,flat ga0 rowZ⟩:=⟨_,rfl⟩;rw [<- dh] at ze ug;rw [<- zf] at ug;have fd:Uv qF u.1 z r.2.1=(d.1,Ck (Ck w.2 y.2) d.2):=by unfold Uv; rw [<- lj,<- mj,<- jn]
   have gv:rowF qF z vars c W i sl r=(rowZ,Ck (Ck (Ck u.2 f1) o.2) (Ck (Ck w.2 y.2) d.2)):=by
    unfold rowF;simp only [hU,q8,fd,hsF,<- oi,<- df,<- dh]
   obtain ⟨fr,mw⟩:∃ fr,fr=Ck (Ck (Ck u.2 f1) o.2) (Ck (Ck w.2 y.2) d.2):=⟨_,rfl⟩;rw [<- mw] at gv;have mg:Gz S SZ iq eq I { t1 with fl:=Ck t1.fl fr } cp L nz m0 (m0+1) nu z r rowZ u.1:=by
    rw [mw];simpa only [F8] using ug
   have uh:=mo.symm;have ui:=zf.symm;simp (maxSteps:=10^6)+contextual(disch:=try exact dqd)only[evg1,simprocAttr,Ca,Bm,Cb,ga29,e0,e1,e2,e7,e10,e11,e12,e14,e15,e16,e18,e19,e83,e84,e85,e113,e114,e115,c2,mn,ra,ff,heq,je,gd,o3,wo,zc,vw,kn,tl,fy,tw,lg,zd,mq,uh,hZ6,gt,mr,j9,hg1,lu,hg2,ek,hg3,ze,mu,ui,Ge,xfs,puQ,tkQ,ga1,ga5];have md:begS qF z vars c W (l.drop i) i sl t1=begS qF z vars c W (l.drop (i+1)) (i+1) sl { t1 with rows:=t1.rows++[rowZ],cost:=(costL qF c W 0 t1.cost rowZ).1,basis:=t1.basis++[c+i],flip:=t1.flip++[D7 r],fl:=Ck (Ck t1.fl fr) (costL qF c W 0 t1.cost rowZ).2 }:=by
    rw [Aw hr];simp only [begS,cr];rw [gv,tv]
   rw [md] at hR;exact Ls rfl (Auc S l vars fl k iq eq c W nz z hB Φ i b6 r hr sl kk t1 I cp tk' gm hcl cr j1 ab ba j2 rowZ fr py orowZ L m0 nu u (D7 r) rfl SZ _ _ mg hR back _ rfl rfl rfl rfl rfl rfl rfl rfl rfl rfl rfl rfl rfl rfl rfl rfl rfl rfl)):p:=h
namespace QQ
theorem Aue:Aw22:=Ma22
end QQ
end
end
section
open Go Go.Proofs.Tryz
open Go.Proofs.Tryz renaming f115->ga28,results115->ga29,func115->ga30,ntmps115->ga31
open Go.Proofs.YthelkgdmgihhiaaGreat renaming ceQ->ga0,A0->ga1,B2->ga5,A7->ga6
set_option maxRecDepth 100000
namespace QQ
abbrev ua14:Nat:=115
end QQ
set_option maxHeartbeats 20000000
set_option maxRecDepth 100000
namespace QQ
def N1 (iq eq:Nat) (n real:Nat) (rows cost basis flip:AV):List AV:=[.ifc 118 (rcvQ iq eq),.int (n:Nat),.int (real:Nat),rows,cost,basis,flip]
end QQ
theorem X5 {a z:List AV} {j m:Nat} (h:j<m):nth (Cg j a++Cg (m - j) z) j=some z/\put (Cg j a++Cg (m - j) z) j a=Cg (j+1) a++Cg (m - (j+1)) z:=by
 have e:Cg (m - j) z=z :: Cg (m - (j+1)) z:=by rw [<- Og]; congr 1; omega
 have hl:(Cg j a).length=j:=by simp
 rw [e];have h1:=D9 (p:=Cg j a) (u:=Cg (m - (j+1)) z) (x:=z);have h2:=E5 (p:=Cg j a) (u:=Cg (m - (j+1)) z) (x:=z) (y:=a);rw [hl] at h1 h2;refine ⟨h1,?_⟩;rw [h2,List.replicate_succ'];simp
theorem Ug {sz:Nat} {a z:List AV} {j m:Nat} (h:j<m) (ha:a.length=sz) (hz:z.length=sz):over (Cg j a++Cg (m - j) z).flatten (j*sz) a=some (Cg (j+1) a++Cg (m - (j+1)) z).flatten:=by
 have h1:=X5 (a:=a) (z:=z) h;rw [<- h1.2];refine Pl (e:=z) (fun e he=>?_) h1.1 ha;rcases C3.1 he with h|h
 ·rw [Ip] at h; rw [h.2,ha]
 ·rw [Ip] at h; rw [h.2,hz]
theorem X8 {ce:Q->List AV} {W:Nat} {z:Q} : (Cg W (ce z)).flatten=flat ce (Cg W z):=by unfold flat; rw [kU]
namespace QQ
theorem mk_Q {W:Nat} (h:W<=1048576):mkA prog 178 (.int (W:Nat)) (.int (W:Nat))=some (W,2,(Cg W zeroQ).flatten):=by
 have hz:(Bc prog 178).bind (A2 prog)=some zeroQ:=bF
 have hs:(Bc prog 178).bind (szOf prog)=some 2:=bF
 obtain ⟨bb,hb,hbl⟩:∃ bb,(Bc prog 178).bind (Hq prog)=some bb/\bb<=1048576:=⟨16,aM,aA⟩;exact Ya2i
def Anu (S:List Ent) (iq eq:Nat) (t':Tb) (r:Rs):Prop :=
 ∃ S' k' tk' I cc,r=(.ref I.it I.et 0,S',tk',k')/\S.length<=S'.length/\A9 S' iq eq I t' cc/\(∀ j,j<S.length->j≠iq->nth S' j=nth S j)/\(∀ j,j<S.length->j≠iq->OutQ I iq j)
end QQ
section
variable (S:List Ent) (tk:List Nat) (k iq eq:Nat)
abbrev Aw23 (p:Prop:=by exact ∀ (S:List Ent)(tk:List Nat)(k iq eq:Nat)(l:List RowT)(fl:Bool)(hl:l.length<=1000)(hn:(Ee l).length<=1000)(vars:List ByteArray)(li:vars.length<=1000)(hv:∀ r ∈ l,∀ c ∈ r.1,c.1 ∈ vars)(hc:∀ r ∈ l,i64 r.2.1/\∀ c ∈ r.1,i64 c.2)(fw:fewC l)(o5:iq<S.length)(hf:FAq S iq eq fl),∃ r,cL prog ua14 [.ifc ua0 (rcvQ iq eq),Au l,Ap vars] S tk k=some r/\Anu S iq eq (B1 qF l vars fl) r):=p
theorem Ma23 {p:Prop} (h:p:=by
 intro S tk k iq eq l fl hl hn vars li hv hc fw o5 hf;obtain ⟨Φ,hΦ⟩:∃ Φ,Φ=Anu S iq eq (B1 qF l vars fl):=⟨_,rfl⟩;rw [<- hΦ];have hw2:Cd.wrap (2*(vars.length:Int))=((2*vars.length:Nat):Int):=aQ
 refine opM ga30 ga31 ?_;simp (maxSteps:=10^6)+contextual(disch:=try exact dqd)only[evg1,simprocAttr,Ca,Bm,Cb,ga29,Au,Ap,hw2];have a2o:∀ c,[AV.ifc ua0 (rcvQ iq eq),.int (vars.length:Nat),.int (c:Nat),.frz [] .nilc,.frz [] .nilc,.frz [] .nilc,.frz [] .nilc]=N1 iq eq vars.length c (.frz [] .nilc) (.frz [] .nilc) (.frz [] .nilc) (.frz [] .nilc):=fun _=>rfl;refine D8 (P:=prog) (fun x st=>st.T.length=270/\(x.2.2<=l.length)/\(x.2.1+neqs (l.drop x.2.2)=2*vars.length+neqs l)/\getT st.T 0=.ifc ua0 (rcvQ iq eq)/\getT st.T 1=.frz (l.map rowC) .unk/\getT st.T 2=.frz (vars.map strC) .unk/\getT st.T 7=.ref S.length k 0/\getT st.T 32=.frz (l.map rowC) .unk/\getT st.T 33=.int (l.length:Nat)/\getT st.T 34=.int (x.2.2:Nat)/\st.S=S++[⟨k,N1 iq eq vars.length x.2.1 (.frz [] .nilc) (.frz [] .nilc) (.frz [] .nilc) (.frz [] .nilc)⟩]/\st.tk=tk/\st.n=x.1) (fun x=>l.length - x.2.2) ((k+1),(2*vars.length),0) ?_ ?_;case refine_2=>exact ⟨rfl,Cl _,rfl,rfl,rfl,rfl,rfl,rfl,rfl,rfl,rfl,rfl,rfl⟩
 rintro ⟨n1,c,q⟩ ⟨T,S',tk',n'⟩ ⟨hl,hq,ww,e0,e1,e2,e7,e32,e33,e34,eS,eT,eN⟩ IH;simp only at hq ww e0 e1 e2 e7 e32 e33 e34 eS eT eN;subst eS eT eN;obtain ⟨g,hg,hT⟩:=Ar hl;rw [hg] at e0 e1 e2 e7 e32 e33 e34;subst hT;clear hg hl;have sf:=Nr l;have a1n:∀ x y z:Ent,Oe (S++[x]).length (S++[y]++[z])=S++[y]:=fun x y z=>by
  have e:(S++[x]).length=(S++[y]).length:=by simp
  rw [e,List.take_left]
 by_cases hql:q<l.length
 ·have c1:decide ((q:Int)<(l.length:Int))=true:=by simpa using hql
  have hw:Cd.wrap ((q:Int)+1)=((q+1:Nat):Int):=aQ
  obtain ⟨r,hr⟩:=Ac hql;have dz:=Kx hr;have w7:=P4 hr;have yv:entAt (S++[⟨k,N1 iq eq vars.length c (.frz [] .nilc) (.frz [] .nilc) (.frz [] .nilc) (.frz [] .nilc)⟩]++[⟨n',rowC r⟩]) S.length k=some (N1 iq eq vars.length c (.frz [] .nilc) (.frz [] .nilc) (.frz [] .nilc) (.frz [] .nilc)):=Ad Bk;cases he:r.2.2 with
  | true =>
   rw [he,if_pos rfl] at w7;simp (maxSteps:=10^6)+contextual(disch:=try exact dqd)only[evg1,simprocAttr,Ca,Bm,Cb,ga29,e0,e1,e2,e7,e32,e33,e34,c1,hw,dz,rowC,Ag,he];exact IH (n'+1,c,q+1) _ aF ⟨rfl,aE,aE,bW⟩
  | false =>
   rw [he,if_neg Iy] at w7;have hw3:Cd.wrap ((c:Int)+1)=((c+1:Nat):Int):=aQ
   simp (maxSteps:=10^6)+contextual(disch:=try exact dqd)only[evg1,simprocAttr,Ca,Bm,Cb,ga29,e0,e1,e2,e7,e32,e33,e34,c1,hw,hw3,dz,rowC,Ag,he,N1,a1n];exact IH (n'+1,c+1,q+1) _ aF ⟨rfl,aE,aE,bW⟩
 ·have c1:decide ((q:Int)<(l.length:Int))=false:=by simpa using hql
  have vp:c=2*vars.length+neqs l:=by
   have h0:l.drop q=[]:=Fe aA;rw [h0] at ww;have h00:neqs ([]:List RowT)=0:=rfl;omega
  obtain ⟨W,px⟩:∃ W,W=c+l.length+1:=⟨_,rfl⟩;have a1o:Cd.wrap ((c:Int)+(l.length:Int))=((c+l.length:Nat):Int):=aQ
  have a1p:Cd.wrap (((c+l.length:Nat):Int)+1)=(W:Int):=aS
  obtain ⟨z,hz⟩:∃ z,z=qF.whole 0:=⟨_,rfl⟩;have oz:qF.ok z.1:=by rw [hz]; exact E9 0 aD
  obtain ⟨T0,ai⟩:∃ T0:Ent,T0=⟨k,N1 iq eq vars.length c (.frz [] .nilc) (.frz [] .nilc) (.frz [] .nilc) (.frz [] .nilc)⟩:=⟨_,rfl⟩;have pn:=Me (S++[⟨k,N1 iq eq vars.length c (.frz [] .nilc) (.frz [] .nilc) (.frz [] .nilc) (.frz [] .nilc)⟩]) tk' n' iq eq fl 0 aD hf.app;rw [<- hz,Hr hf] at pn;obtain ⟨S1,ck⟩:∃ S1,S1=flS S iq eq z.2:=⟨_,rfl⟩;have np:FAq S1 iq eq (Ck fl z.2):=by rw [ck]; exact hf.fS
  have hl1:S1.length=S.length:=by rw [ck]; exact Bp
  have ci:∀ v,v≠iq->nth S1 v=nth S v:=fun v hv=>by rw [ck]; exact ga6 hv
  rw [<- ck] at pn;obtain ⟨nz,yd⟩:∃ nz,nz=n'+ua3:=⟨_,rfl⟩;rw [<- yd] at pn;have wg:entAt (S1++[⟨k,N1 iq eq vars.length c (.frz [] .nilc) (.frz [] .nilc) (.frz [] .nilc) (.frz [] .nilc)⟩]++[⟨nz,ga0 z.1⟩]++[⟨nz+1,(Cg W zeroQ).flatten⟩]) S.length k=some (N1 iq eq vars.length c (.frz [] .nilc) (.frz [] .nilc) (.frz [] .nilc) (.frz [] .nilc)):=Ad (Ad (An hl1));have hP2:∀ e e' a b:Ent,put (S1++[e]++[a]++[b]) S.length e'=S1++[e']++[a]++[b]:=fun e e' a b=>by
   rw [Dk aC,Dk aC,Da hl1]
  have j7:=mk_Q (W:=W) aA;have hE3 cs a b:=Ad (L:=[b]) (Ad (L:=[a]) (An (k:=k) (cs:=cs) hl1));simp only [N1] at pn wg;simp (maxSteps:=10^6)+contextual(disch:=try exact dqd)only[evg1,simprocAttr,Ca,Bm,Cb,ga29,e0,e1,e2,e7,e32,e33,e34,c1,hw2,a1o,a1p,pn,j7,wg,hE3,hP2,hl1,N1,Ge,xfs,puQ,ga1,ga5,ovQ];obtain ⟨TP,hTP⟩:∃ TP,TP=N1 iq eq vars.length c (.frz [] .nilc) (.sref (S.length+2) (nz+1) 0 W ua2) (.frz [] .nilc) (.frz [] .nilc):=⟨_,rfl⟩;obtain ⟨S2,bm⟩:∃ S2,S2=S1++[⟨k,TP⟩]++[⟨nz,ga0 z.1⟩]:=⟨_,rfl⟩;have hl2:S2.length=S.length+2:=by rw [bm]; simp [hl1]
  have ah:entAt S2 S.length k=some TP:=by rw [bm]; exact Ad (An hl1)
  have hZ2:entAt S2 (S.length+1) nz=some (ga0 z.1):=by rw [bm]; exact An (by simp [hl1])
  have c8:FAq S2 iq eq (Ck fl z.2):=by rw [bm]; exact np.app.app
  have bo:∀ j,j<S.length->j≠iq->nth S2 j=nth S j:=fun j h1 h2=>by rw [bm,Bh aC,Bh aA,ci j h2]
  have a3y:[AV.ifc ua0 (rcvQ iq eq),.int (vars.length:Nat),.int (c:Nat),.frz [] .nilc,.sref (S.length+2) (nz+1) 0 W ua2,.frz [] .nilc,.frz [] .nilc]=TP:=hTP.symm;have wi:∀ x:Ent,(S1++[x]).length=S.length+1:=fun x=>by simp [hl1]
  have hLb:∀ x y:Ent,(S1++[x]++[y]).length=S.length+2:=fun x y=>by simp [hl1]
  rw [hLb,wi];have pz:=bm;rw [hTP] at pz;simp only [N1] at pz;rw [<- pz];obtain ⟨Fl,hFl⟩:∃ Fl:Nat->List AV,Fl=fun j=>(Cg j (ga0 z.1)++Cg (W - j) (zeroQ:List AV)).flatten:=⟨_,rfl⟩;have hF0:Fl 0=(Cg W (zeroQ:List AV)).flatten:=by rw [hFl]; rfl
  have hFW:Fl W=flat ga0 (Cg W z.1):=by rw [hFl]; simp only [Ob,List.replicate_zero,Fo]; exact X8
  have hFo:∀ j,j<W->over (Fl j) (j*ua2) (ga0 z.1)=some (Fl (j+1)):=fun j ku=>by rw [hFl]; exact Ug (sz:=ua2) (a:=ga0 z.1) (z:=(zeroQ:List AV)) ku (ga1 _) rfl
  rw [<- hF0];refine D8 (P:=prog) (fun x st=>st.T.length=270/\(x.2<=W)/\getT st.T 0=.ifc ua0 (rcvQ iq eq)/\getT st.T 1=.frz (l.map rowC) .unk/\getT st.T 2=.frz (vars.map strC) .unk/\getT st.T 7=.ref S.length k 0/\getT st.T 10=.int ((2*vars.length:Nat):Int)/\getT st.T 11=.int (W:Nat)/\getT st.T 12=.ref (S.length+1) nz 0/\getT st.T 71=.int (W:Nat)/\getT st.T 72=.int (x.2:Nat)/\st.S=S2++[⟨nz+1,Fl x.2⟩]/\st.tk=tk'/\st.n=x.1) (fun x=>W - x.2) ((nz+2),0) ?_ ?_;case refine_2=>exact ⟨rfl,Cl _,rfl,rfl,rfl,rfl,rfl,rfl,rfl,rfl,rfl,rfl,rfl,rfl⟩
  rintro ⟨n1,j⟩ ⟨T,S',tk',n'⟩ ⟨hl,hj,e0,e1,e2,e7,e10,e11,e12,e71,e72,eS,eT,eN⟩ IH;simp only at hj e0 e1 e2 e7 e10 e11 e12 e71 e72 eS eT eN;subst eS eT eN;obtain ⟨g,hg,hT⟩:=Ar hl;rw [hg] at e0 e1 e2 e7 e10 e11 e12 e71 e72;subst hT;clear hg hl;have hE6:∀ cs,entAt (S2++[⟨nz+1,cs⟩]) (S.length+2) (nz+1)=some cs:=fun cs=>An hl2;have hP6 e e':=Da (e:=e) (e':=e') hl2;have p6:∀ x y:Ent,Oe (S2++[x]).length (S2++[y])=S2++[y]:=fun x y=>by
   have e:(S2++[x]).length=(S2++[y]).length:=by simp
   rw [e,Fb]
  by_cases ku:j<W
  ·have c2:decide ((j:Int)<(W:Int))=true:=gU
   have hw:Cd.wrap ((j:Int)+1)=((j+1:Nat):Int):=aQ
   have jo:=hFo j ku;have tf:∀ e:Ent,entAt (S2++[e]) S.length k=some TP:=fun e=>Ad ah;have th:∀ e:Ent,entAt (S2++[e]) (S.length+1) nz=some (ga0 z.1):=fun e=>Ad hZ2;rw [hTP] at tf;simp only [N1] at tf;simp (maxSteps:=10^6)+contextual(disch:=try exact dqd)only[evg1,simprocAttr,Ca,Bm,Cb,ga29,e0,e1,e2,e7,e10,e11,e12,e71,e72,c2,hw,ku,jo,tf,th,hE6,hP6,p6,puQ,tkQ,ga1,ga5];exact IH (n',j+1) _ aF ⟨rfl,aE,bW⟩
  ·have c2:decide ((j:Int)<(W:Int))=false:=gU
   have my:j=W:=aA
   rw [my] at c2 e72 ⊢;clear ku my hj;rw [hFW];obtain ⟨S3,cz⟩:∃ S3,S3=S2++[⟨nz+1,flat ga0 (Cg W z.1)⟩]:=⟨_,rfl⟩;have ei:S3.length=S.length+3:=by rw [cz]; simp [hl2]
   have cj:∀ j,j<S.length->j≠iq->nth S3 j=nth S j:=fun j h1 h2=>by rw [cz,Bh aA,bo j h1 h2]
   have hZ3:entAt S3 (S.length+1) nz=some (ga0 z.1):=by rw [cz]; exact Ad hZ2
   obtain ⟨t0,sn⟩:∃ t0:Tb,t0={ vars:=vars.length,real:=c,rows:=[],cost:=Cg W z.1,basis:=[],flip:=[],fl:=Ck fl z.2 }:=⟨_,rfl⟩;obtain ⟨I0,hI0⟩:∃ I0:TI,I0=⟨S.length,k,S.length+3,0,S.length+2,nz+1,S.length+4,0,[]⟩:=⟨_,rfl⟩;have c9:A9 S3 iq eq I0 t0 .nilc:=by
    rw [hI0,sn,cz];refine ⟨?_,rfl,fun h=>absurd rfl h,fun i p r h=>bM,fun r h=>aO,?_,fun h=>absurd rfl h,rfl,rfl,c8.app,?_,fun r h=>aO,fun q hq=>?_,?_,by simp,?_,fun b h=>aO⟩
    ·rw [Ad ah,hTP];simp only [N1,dd,Ov,Cu,Cs];rfl
    ·exact An hl2
    ·constructor <;> first|(simp only; omega)|(intro p hp; simp at hp)|(intro i j p q hp; simp [nth] at hp)
    ·rw [Ip] at hq; rw [hq.2]; exact oz
    ·simp only [Ov]; omega
    ·simp only [Ov]; omega
   have a1q:B1 qF l vars fl=begS qF z.1 vars c W l 0 (2*vars.length) t0:=by
    unfold B1;simp only;rw [<- vp,<- px,<- hz,sn]
   simp (maxSteps:=10^6)+contextual(disch:=try exact dqd)only[evg1,simprocAttr,Ca,Bm,Cb,ga29,e0,e1,e2,e7,e10,e11,e12,e71,e72,c2];rw [<- cz];clear hE6 hP6 p6 e0 e1 e2 e7 e10 e11 e12 e71 e72 c1 c2;refine D8 (P:=prog) (fun x st=>st.T.length=270/\(x.2.2.2.2.1<=l.length)/\(B1 qF l vars fl=begS qF z.1 vars c W (l.drop x.2.2.2.2.1) x.2.2.2.2.1 x.2.2.2.2.2.1 x.2.2.2.2.2.2.1)/\(A9 x.1 iq eq x.2.2.2.2.2.2.2 x.2.2.2.2.2.2.1 x.2.2.2.1)/\(x.2.2.2.2.2.2.1.rows.length=x.2.2.2.2.1)/\(x.2.2.2.2.2.2.1.cost.length=W)/\(x.2.2.2.2.2.2.1.real=c)/\(x.2.2.2.2.2.2.1.vars=vars.length)/\(x.2.2.2.2.2.1+neqs (l.drop x.2.2.2.2.1)=c)/\(Be x.2.2.1 x.2.2.2.1 1=true)/\(entAt x.1 (S.length+1) nz=some (ga0 z.1))/\(S.length+3<=x.1.length)/\(∀ j,j<S.length->j≠iq->nth x.1 j=nth S j)/\(x.2.2.2.2.2.2.2.it=S.length/\x.2.2.2.2.2.2.2.et=k/\x.2.2.2.2.2.2.2.ic=S.length+2)/\(S.length+2<x.2.2.2.2.2.2.2.ir/\S.length+2<x.2.2.2.2.2.2.2.ib/\∀ p ∈ x.2.2.2.2.2.2.2.ids,S.length+2<p.1)/\getT st.T 0=.ifc ua0 (rcvQ iq eq)/\getT st.T 1=.frz (l.map rowC) .unk/\getT st.T 2=.frz (vars.map strC) .unk/\getT st.T 7=.ref S.length k 0/\getT st.T 10=.int (x.2.2.2.2.2.1:Nat)/\getT st.T 11=.int (W:Nat)/\getT st.T 12=.ref (S.length+1) nz 0/\getT st.T 83=.frz (l.map rowC) .unk/\getT st.T 84=.int (l.length:Nat)/\getT st.T 85=.int (x.2.2.2.2.1:Nat)/\st.S=x.1/\st.tk=x.2.2.1/\st.n=x.2.1) (fun x=>l.length - x.2.2.2.2.1) (S3,n',tk',Cap.nilc,0,(2*vars.length),t0,I0) ?_ ?_;case refine_2=>exact ⟨rfl,Cl _,a1q,c9,by rw [sn]; rfl,by rw [sn]; simp,by rw [sn],by rw [sn],by rw [vp]; rfl,rfl,hZ3,Nat.le_of_eq ei.symm,cj,by rw [hI0]; exact ⟨rfl,rfl,rfl⟩,by rw [hI0]; exact ⟨bT,bT,fun p hp=>by simp at hp⟩,rfl,rfl,rfl,rfl,rfl,rfl,rfl,rfl,rfl,rfl,rfl,rfl,rfl⟩
   rintro ⟨SS,n1,tk1,cp,i,sl,t1,I⟩ ⟨T,S',tk',n'⟩ ⟨hl,hi,hR,hT,gm,hcl,cr,j1,nv,ab,hZ,zg,au,ba,j2,e0,e1,e2,e7,e10,e11,e12,e83,e84,e85,eS,eT,eN⟩ IH;simp only at hi hR hT gm hcl cr j1 nv ab hZ zg au ba j2 e0 e1 e2 e7 e10 e11 e12 e83 e84 e85 eS eT eN;subst eS eT eN;obtain ⟨g,hg,hT⟩:=Ar hl;rw [hg] at e0 e1 e2 e7 e10 e11 e12 e83 e84 e85;subst hT;clear hg hl;have IHA:=IH;clear IH;obtain ⟨m0,dc⟩:∃ m0,m0=n':=⟨_,rfl⟩;subst dc;obtain ⟨SA,hSA⟩:∃ SA,SA=S':=⟨_,rfl⟩;subst hSA;obtain ⟨tkA,a1r⟩:∃ tkA,tkA=tk':=⟨_,rfl⟩;subst a1r;obtain ⟨L,hL⟩:∃ L,L=SA.length:=⟨_,rfl⟩;by_cases b6:i<l.length
   ·have c1:decide ((i:Int)<(l.length:Int))=true:=fZ
    have tm:Cd.wrap ((i:Int)+1)=((i+1:Nat):Int):=aQ
    obtain ⟨r,hr⟩:=Ac b6;have dz:=Kx hr;have o6:r ∈ l:=Aj hr;have wi:∀ x:Ent,(SA++[x]).length=L+1:=fun x=>by simp [hL]
    have back:∀ st,Ais S l vars fl k iq eq c W nz z.1 (i+1) st->Gd finM Φ (KA prog ga28 18 [] st):=fun st h=>by
     obtain ⟨sl',t1',I',cp',h1,h2,h3,h4,h5,h6,h7,h8,h9,h10,h11,h12,h13,h14,zh,s0,s1,s2,s7,s10,s11,s12,s83,s84,s85⟩:=h;exact Vz rfl (t:=.mk) (IHA (st.S,st.n,st.tk,cp',i+1,sl',t1',I') st (by show l.length - (i+1)<l.length - i; omega) ⟨zh,h1,h2,h3,h4,h5,h6,h7,h8,h9,h10,h11,h12,h13,h14,s0,s1,s2,s7,s10,s11,s12,s83,s84,s85,rfl,rfl,rfl⟩)
    clear IHA;simp (maxSteps:=10^6)+contextual(disch:=try exact dqd)only[evg1,simprocAttr,Ca,Bm,Cb,ga29,e0,e1,e2,e7,e10,e11,e12,e83,e84,e85,c1,dz,rowC,Ag,j7,Ce];rw [wi,<- hL,<- hF0];obtain ⟨SB,re⟩:∃ SB,SB=SA++[(⟨m0,rowC r⟩:Ent)]:=⟨_,rfl⟩;have zz:SB.length=L+1:=by rw [re]; exact wi _
    have uj:=re;simp only [rowC,Ag] at uj;rw [<- uj];refine D8 (P:=prog) (fun x st=>st.T.length=270/\(x.2<=W)/\getT st.T 0=.ifc ua0 (rcvQ iq eq)/\getT st.T 1=.frz (l.map rowC) .unk/\getT st.T 2=.frz (vars.map strC) .unk/\getT st.T 7=.ref S.length k 0/\getT st.T 10=.int (sl:Nat)/\getT st.T 11=.int (W:Nat)/\getT st.T 12=.ref (S.length+1) nz 0/\getT st.T 14=.int (i:Nat)/\getT st.T 15=.ref L m0 0/\getT st.T 16=.sref (L+1) (m0+1) 0 W ua2/\getT st.T 83=.frz (l.map rowC) .unk/\getT st.T 84=.int (l.length:Nat)/\getT st.T 85=.int (i:Nat)/\getT st.T 93=.int (W:Nat)/\getT st.T 94=.int (x.2:Nat)/\st.S=SB++[⟨m0+1,Fl x.2⟩]/\st.tk=tkA/\st.n=x.1) (fun x=>W - x.2) ((m0+2),0) ?_ ?_;case refine_2=>exact ⟨rfl,Cl _,rfl,rfl,rfl,rfl,rfl,rfl,rfl,rfl,rfl,rfl,rfl,rfl,rfl,rfl,rfl,rfl,rfl,rfl⟩
    rintro ⟨n1,j⟩ ⟨T,S',tk',n'⟩ ⟨hl,hj,e0,e1,e2,e7,e10,e11,e12,e14,e15,e16,e83,e84,e85,e93,e94,eS,eT,eN⟩ IH;simp only at hj e0 e1 e2 e7 e10 e11 e12 e14 e15 e16 e83 e84 e85 e93 e94 eS eT eN;subst eS eT eN;obtain ⟨g,hg,hT⟩:=Ar hl;rw [hg] at e0 e1 e2 e7 e10 e11 e12 e14 e15 e16 e83 e84 e85 e93 e94;subst hT;clear hg hl;by_cases ku:j<W
    ·have c2:decide ((j:Int)<(W:Int))=true:=gU
     have hw:Cd.wrap ((j:Int)+1)=((j+1:Nat):Int):=aQ
     have jo:=hFo j ku;have th:∀ b:Ent,entAt (SB++[b]) (S.length+1) nz=some (ga0 z.1):=fun b=>by rw [re]; exact Ad (Ad hZ)
     have hE6:∀ cs,entAt (SB++[⟨m0+1,cs⟩]) (L+1) (m0+1)=some cs:=fun cs=>An zz;have hP6 e e':=Da (e:=e) (e':=e') zz;have p6:∀ x y:Ent,Oe (SB++[x]).length (SB++[y])=SB++[y]:=fun x y=>by
      have e:(SB++[x]).length=(SB++[y]).length:=by simp
      rw [e,Fb]
     simp (maxSteps:=10^6)+contextual(disch:=try exact dqd)only[evg1,simprocAttr,Ca,Bm,Cb,ga29,e0,e1,e2,e7,e10,e11,e12,e14,e15,e16,e83,e84,e85,e93,e94,c2,hw,ku,jo,th,hE6,hP6,p6,puQ,tkQ,ga1,ga5];exact IH (n',j+1) _ aF ⟨rfl,aE,bW⟩
    ·have c2:decide ((j:Int)<(W:Int))=false:=gU
     have my:j=W:=aA
     rw [my] at c2 e94 ⊢;clear ku my hj;rw [hFW];obtain ⟨n5,hn5⟩:∃ n5,n5=n':=⟨_,rfl⟩;subst hn5;obtain ⟨SC,rg⟩:∃ SC,SC=SB++[(⟨m0+1,flat ga0 (Cg W z.1)⟩:Ent)]:=⟨_,rfl⟩;rw [<- rg];have hlC:SC.length=L+2:=by rw [rg]; simp [zz]
     have zi:A9 SC iq eq I t1 cp:=by rw [rg,re]; exact (hT.app _).app _
     have bh:LowQ I iq L t1:=by rw [hL]; exact hT.low
     have mz:entAt SC L m0=some (rowC r):=by rw [rg,re]; exact Ad (An hL.symm)
     have uk:entAt SC (L+1) (m0+1)=some (flat ga0 (Cg W z.1)):=by rw [rg]; exact An zz
     have hZC:entAt SC (S.length+1) nz=some (ga0 z.1):=by rw [rg,re]; exact Ad (Ad hZ)
     have hfC:∀ j,j<S.length->j≠iq->nth SC j=nth S j:=fun j h1 h2=>by rw [rg,re,Bh aC,Bh aA,au j h1 h2]
     have mi:i64 r.2.1:=(hc r o6).1;obtain ⟨one,cu⟩:∃ one,one=qF.whole 1:=⟨_,rfl⟩;have o1:qF.ok one.1:=by rw [cu]; exact E9 1 aD
     have dv:=Me SC tk' n5 iq eq t1.fl 1 aD zi.fa;rw [<- cu] at dv;obtain ⟨SD,ws⟩:∃ SD,SD=flS SC iq eq one.2:=⟨_,rfl⟩;have m6:SD.length=L+2:=by rw [ws,Bp]; exact hlC
     have ul:∀ v,v≠iq->nth SD v=nth SC v:=fun v hv=>by rw [ws]; exact ga6 hv
     have zj:FAq SD iq eq (Ck t1.fl one.2):=by rw [ws]; exact zi.fa.fS
     rw [<- ws] at dv;obtain ⟨nu,hnu⟩:∃ nu,nu=n5+ua3:=⟨_,rfl⟩;rw [<- hnu] at dv;have hTD:A9 SD iq eq I { t1 with fl:=Ck t1.fl one.2 } cp:=zi.flag ul zj;have hLd:SD.length=L+2:=m6;have m8:Gz S (SD++[⟨nu,ga0 one.1⟩]) iq eq I { t1 with fl:=Ck t1.fl one.2 } cp L nz m0 (m0+1) nu z.1 r (Cg W z.1) one.1 :=
      ⟨hTD.app _,bh.of fun h=>h,by rw [Ad (e:=nz) (by rw [Ab (ul _ aA)]; exact hZC)],by rw [Ad (by rw [Ab (ul _ aA)]; exact mz)],by rw [Ad (by rw [Ab (ul _ aA)]; exact uk)],An m6,by simp [m6],fun j h1 h2=>by rw [Bh aA,ul j h2]; exact hfC j h1 h2,o5,aA,ba.2.2⟩
     have gy:=m8.E15;have rh:=m8.E19;have ma:(SD++[(⟨nu,ga0 one.1⟩:Ent)]).length=L+3:=m8.len;have hLD:∀ x:Ent,(SD++[x]).length=L+3:=fun x=>by simp [m6]
     simp only [rowC] at gy;have hEn:∀ cs,entAt (SD++[⟨nu,cs⟩]) (L+2) nu=some cs:=fun cs=>An m6;have s9 e e':=Da (e:=e) (e':=e') m6;clear rg re uj;cases hfl:D7 r
     ·have c3:decide (0<r.2.1)=false:=hfl;have hU:Kk qF (D7 r)=one:=by rw [hfl,cu]; rfl
      simp (maxSteps:=10^6)+contextual(disch:=try exact dqd)only[evg1,simprocAttr,Ca,Bm,Cb,ga29,e0,e1,e2,e7,e10,e11,e12,e14,e15,e16,e83,e84,e85,e93,e94,c2,c3,mz,rowC,Ag,dv,gy,hEn,s9,m6,Ge,xfs,puQ,ga1,ga5,ovQ];clear e0 e1 e2 e7 e10 e11 e12 e14 e15 e16 e83 e84 e85 e93 e94 c2 c3 IH s9 hEn;obtain ⟨SX,un⟩:∃ SX,SX=SD++[(⟨nu,ga0 one.1⟩:Ent)]:=⟨_,rfl⟩;obtain ⟨nx,nk⟩:∃ nx,nx=nu+1:=⟨_,rfl⟩;rw [<- un,<- nk];rw [<- un] at m8;obtain ⟨u,hu⟩:∃ u:Q × Bool,u=one:=⟨_,rfl⟩;rw [<- hu] at m8 hU;have ou:qF.ok u.1:=by rw [hu]; exact o1
      have gn:=m8;clear m8 gy rh ma hLD hnu hTD hLd zj ul m6 dv ws un nk uk mz hZC hfC zi hlC hu o1 cu;have h18:AV.prim (.bool false)=.prim (.bool (D7 r)):=by rw [hfl]
      exact Ya08
     ·have c3:decide (0<r.2.1)=true:=hfl;obtain ⟨neg,hneg⟩:∃ neg,neg=qF.whole (-1):=⟨_,rfl⟩;have on:qF.ok neg.1:=by rw [hneg]; exact E9 (-1) aD
      have hU:Kk qF (D7 r)=(neg.1,Ck one.2 neg.2):=by rw [hfl,cu,hneg]; rfl
      have hw1:=Me (SD++[⟨nu,ga0 one.1⟩]) tk' (nu+1) iq eq (Ck t1.fl one.2) (-1) aD m8.T.fa;rw [<- hneg,Hr zj] at hw1;obtain ⟨SE,hSE⟩:∃ SE,SE=flS SD iq eq neg.2:=⟨_,rfl⟩;have ma:SE.length=L+2:=by rw [hSE,Bp]; exact m6
      have hRE:=m8.flag (S':=flS (SD++[⟨nu,ga0 one.1⟩]) iq eq neg.2) (fun j hj=>ga6 hj) Bp m8.T.fa.fS;rw [Hr zj,<- hSE] at hRE;rw [<- hSE] at hw1;have zk:=hRE.unit neg.1;have ri:∀ cs,entAt (SE++[⟨nu,cs⟩]) (L+2) nu=some cs:=fun cs=>An ma;have uo e e':=Da (e:=e) (e':=e') ma;rw [uo] at zk;have m9:=zk.E15;simp only [rowC] at m9;simp (maxSteps:=10^6)+contextual(disch:=try exact dqd)only[evg1,simprocAttr,Ca,Bm,Cb,ga29,e0,e1,e2,e7,e10,e11,e12,e14,e15,e16,e83,e84,e85,e93,e94,c2,c3,mz,rowC,Ag,dv,gy,hEn,s9,m6,hw1,ri,uo,m9,Ge,xfs,puQ,ga1,ga5,ovQ,ovQ2];clear e0 e1 e2 e7 e10 e11 e12 e14 e15 e16 e83 e84 e85 e93 e94 c2 c3 IH s9 hEn uo ri;obtain ⟨SX,un⟩:∃ SX,SX=SE++[(⟨nu,ga0 neg.1⟩:Ent)]:=⟨_,rfl⟩;obtain ⟨nx,nk⟩:∃ nx,nx=nu+1+ua3:=⟨_,rfl⟩;rw [<- un,<- nk];rw [<- un] at zk;obtain ⟨u,hu⟩:∃ u:Q × Bool,u=(neg.1,Ck one.2 neg.2):=⟨_,rfl⟩;rw [<- hu] at hU;have ou:qF.ok u.1:=by rw [hu]; exact on
      have gn:Gz S SX iq eq I { t1 with fl:=Ck t1.fl u.2 } cp L nz m0 (m0+1) nu z.1 r (Cg W z.1) u.1:=by
       rw [hu];simp only [<- F8];exact zk
      clear m8 gy rh ma hLD hnu hTD hLd zj ul m6 dv ws un nk uk mz hZC hfC zi hlC hu o1 cu on hneg hw1 hSE hRE zk m9;have h18:AV.prim (.bool true)=.prim (.bool (D7 r)):=by rw [hfl]
      exact Ya08
   ·have c1:decide ((i:Int)<(l.length:Int))=false:=fZ
    have h0:l.drop i=[]:=Fe aA;rw [h0] at hR;simp only [begS] at hR;simp (maxSteps:=10^6)+contextual(disch:=try exact dqd)only[evg1,simprocAttr,Ca,Bm,Cb,ga29,e0,e1,e2,e7,e10,e11,e12,e83,e84,e85,c1];rw [hΦ,hR];exact ⟨SA,m0,tkA,I,cp,by rw [ba.1,ba.2.1],aA,hT,au,fun j h1 h2=>⟨h2,aA,aA,fun p hp=>by have:=j2.2.2 p hp; omega⟩⟩):p:=h
namespace QQ
theorem Aug:Aw23:=Ma23
end QQ
end
end
section
open Go
theorem Adw {P:Program} {all:List Oper} {d:Option Tmp} {T:List AV} {S S':List Ent} (hL:loadsB all d=[]) (h2:S.length<=S'.length):reA P all d T S S'=some ():=Aga hL h2 (fun q h=>aO)
end
section
open Go
set_option maxRecDepth 100000
def ceW0Q:List AV:=[.prim (.bool false),.frz [] .nilc,.prim (.bool false),.frz [] .nilc]
namespace QQ
structure Aiq (S SS:List Ent) (iq eq:Nat) (I:TI) (t:Tb) (cc:Cap) (k n8:Nat) (z:Q) (cf:AV) (n:Int):Prop where
 T:A9 SS iq eq I t cc
 E4:entAt SS S.length k=some [cf,.prim (.int .i64 n)]
 E6:entAt SS (S.length+1) (k+1)=some ceW0Q
 E8:entAt SS (S.length+2) n8=some (ceQ z)
 len:SS.length=S.length+3
 fr:∀ j,j<S.length->OutQ I iq j->nth SS j=nth S j
end QQ
abbrev Aw24 (p:Prop:=by exact ∀ {S:List Ent}{iq eq:Nat}{I:TI}{t:Tb}{cc:Cap}(hT:A9 S iq eq I t cc)(o5:iq<S.length)(hib:I.ib<S.length\/S.length+10<I.ib)(d:Nat)(hd:d<=10),OutQ I iq (S.length+d)):=p
theorem Ma24 {p:Prop} (h:p:=by
 intro hT o5 hib d hd;have h:=hT.low;have:=h.ic;exact ⟨aA,aA,aA,fun p hp=>by have:=h.row p hp; omega⟩):p:=h
namespace QQ
theorem Asu:Aw24:=fun {S iq eq I t cc}=>Ma24
end QQ
abbrev Aw25 (p:Prop:=by exact ∀ {S SS S':List Ent}{iq eq:Nat}{I:TI}{t t':Tb}{cc:Cap}{k n8:Nat}{z:Q}{cf:AV}{n:Int}(h:Aiq S SS iq eq I t cc k n8 z cf n)(ho:∀ d,d<=10->OutQ I iq (S.length+d))(hT:A9 S' iq eq I t' cc)(hS:∀ j,OutQ I iq j->nth S' j=nth SS j)(hl:S'.length=SS.length),Aiq S S' iq eq I t' cc k n8 z cf n):=p
theorem Ma25 {p:Prop} (h:p:=by
 intro h ho hT hS hl;exact ⟨hT,by rw [Ab (hS S.length (ho 0 aA))]; exact h.E4,by rw [Ab (hS _ (ho 1 aA))]; exact h.E6,by rw [Ab (hS _ (ho 2 aA))]; exact h.E8,by rw [hl]; exact h.len,fun j h1 h2=>by rw [hS j h2]; exact h.fr j h1 h2⟩):p:=h
namespace QQ
theorem Aiq.step:Aw25:=fun {S SS S' iq eq I t t' cc k n8 z cf n}=>Ma25
end QQ
end
section
open Go
set_option maxRecDepth 100000
abbrev Aw26 (p:Prop:=by exact ∀ {S:List Ent}{iq eq:Nat}{I:TI}{t:Tb}{c:Cap}(h:A9 S iq eq I t c)(h0:t.rows=[])(o5:iq<S.length){x y:Nat}(hx:S.length<=x)(hy:S.length<=y)(ja:x≠y),A9 S iq eq ⟨I.it,I.et,x,0,I.ic,I.ec,y,0,I.ids⟩ t c):=p
theorem Ma26 {p:Prop} (h:p:=by
 intro h h0 o5 x y hx hy ja;have hl:=h.low;have h1:=hl.it;have h2:=hl.ic;have j0:I.ids=[]:=Cw.1 (by rw [h.nids,h0]; rfl);refine ⟨?_,h.nids,fun hn=>absurd h0 hn,h.rowE,h.rowW,h.costE,fun hn=>absurd h0 hn,h.nb,h.nf,h.fa,?_,h.okr,h.okc,h.bigW,h.bigM,h.real,h.bB⟩
 ·have h3:=h.top;rw [h0] at h3 ⊢;exact h3
 ·have ha:=h.ap;refine ⟨bT,ha.tc,bT,bT,ja,bT,ha.qt,bT,ha.qc,bT,fun p hp=>?_,ha.rows⟩;rw [j0] at hp; simp at hp):p:=h
namespace QQ
theorem A9.junk:Aw26:=fun {S iq eq I t c}=>Ma26
def BegRQ (S:List Ent) (iq eq:Nat) (t':Tb) (r:Rs):Prop :=
 ∃ S' k' tk' I cc,r=(.ref I.it I.et 0,S',tk',k')/\S.length<=S'.length/\A9 S' iq eq I t' cc/\(∀ j,j<S.length->j≠iq->nth S' j=nth S j)/\(∀ j,j<S.length->j≠iq->OutQ I iq j)/\(I.ib<S'.length\/S'.length+15<I.ib)
end QQ
abbrev Aw27 (p:Prop:=by exact ∀ {S:List Ent}{iq eq:Nat}{t':Tb}{r:Rs}(o5:iq<S.length)(h:Anu S iq eq t' r),BegRQ S iq eq t' r):=p
theorem Ma27 {p:Prop} (h:p:=by
 intro o5 h;obtain ⟨S',k',tk',I,cc,hr,h1,h2,h3,h4⟩:=h;by_cases h0:t'.rows=[]
 ·refine ⟨S',k',tk',⟨I.it,I.et,S'.length+20,0,I.ic,I.ec,S'.length+21,0,I.ids⟩,cc,hr,h1,h2.junk h0 aA aA aA aA,h3,fun j a b=>?_,.inr bT⟩;have h5:=h4 j a b;exact ⟨h5.1,h5.2.1,bT,h5.2.2.2⟩
 ·exact ⟨S',k',tk',I,cc,hr,h1,h2,h3,h4,.inl (h2.low.ib h0)⟩):p:=h
namespace QQ
theorem Anu.far:Aw27:=fun {S iq eq t' r}=>Ma27
end QQ
end
section
open Go
def Lf (t t':Tb):Prop:=t'.real=t.real/\t'.vars=t.vars/\t'.cost.length=t.cost.length/\t'.rows.length=t.rows.length
theorem Lf.refl (t:Tb):Lf t t:=⟨rfl,rfl,rfl,rfl⟩
theorem Lf.trans {a b c:Tb} (h:Lf a b) (h':Lf b c):Lf a c:=⟨h'.1.trans h.1,h'.2.1.trans h.2.1,h'.2.2.1.trans h.2.2.1,h'.2.2.2.trans h.2.2.2⟩
theorem Ye {F:Fld} {l m:List Q} {c:Nat} : (lessT F l m c).1.length=l.length:=by
 unfold lessT;split
 ·split
  ·rfl
  ·exact Px
 ·rfl
theorem Ku {F:Fld} {row:List Q} {c i:Nat} : ∀ {l:List (List Q)} {k:Nat},(lessRows F row c i k l).1.length=l.length
 | [],_=>rfl
 | r :: l,k=>by simp only [lessRows,Ci,Ku]
theorem Amj {F:Fld} {t:Tb} {i c:Nat} : Lf t (Eh F t i c):=⟨rfl,rfl,Ye,by simp only [Eh,Ku,Ak]⟩
theorem X0 {F:Fld} : ∀ {K:Nat} {t t':Tb} {b:Bool},Jo F K t=some (b,t')->Lf t t'
 | 0,_,_,_,h=>by simp [Jo] at h
 | K+1,t,t',b,h=>by
  unfold Jo at h;split at h
  ·exact Ya2o
  ·split at h
   ·exact Ya2o
   ·split at h
    ·simp only [Ba,Cf] at h; obtain ⟨-,rfl⟩:=h; exact ⟨rfl,rfl,rfl,rfl⟩
    ·have h2:=X0 h;have h3:∀ (u:Tb) (i c:Nat),Lf u (Eh F u i c):=fun u i c=>Amj;have h4:=(h3 _ _ _).trans h2;exact ⟨h4.1,h4.2.1,h4.2.2.1,h4.2.2.2⟩
theorem Xz {F:Fld} {real W:Nat} : ∀ {c r:List Q} {k:Nat},(costL F real W k c r).1.length=c.length
 | [],_,_=>by simp [costL]
 | a :: c,[],_=>rfl
 | a :: c,b :: r,k=>by simp only [costL,Ci,Xz]
theorem Ajy {F:Fld} {z:Q} {vars:List ByteArray} {real W:Nat} : ∀ {l:List RowT} {i sl:Nat} {t:Tb},(begS F z vars real W l i sl t).real=t.real/\(begS F z vars real W l i sl t).vars=t.vars/\(begS F z vars real W l i sl t).cost.length=t.cost.length/\(begS F z vars real W l i sl t).rows.length=t.rows.length+l.length
 | [],_,_,_=>⟨rfl,rfl,rfl,rfl⟩
 | r :: l,i,sl,t=>by
  unfold begS;simp only;have h:=Ajy (F:=F) (z:=z) (vars:=vars) (real:=real) (W:=W) (l:=l) (i:=i+1) (sl:=if r.2.2=true then sl else sl+1) (t:={ t with rows:=t.rows++[(rowF F z vars real W i sl r).1],cost:=(costL F real W 0 t.cost (rowF F z vars real W i sl r).1).1,basis:=t.basis++[real+i],flip:=t.flip++[D7 r],fl:=(t.fl || (rowF F z vars real W i sl r).2) || (costL F real W 0 t.cost (rowF F z vars real W i sl r).1).2 });simp only [Xz,Cm,Ci,Cu] at h ⊢;exact ⟨h.1,h.2.1,h.2.2.1,aA⟩
theorem T2 {F:Fld} {l:List RowT} {vars:List ByteArray} {fl:Bool} : (B1 F l vars fl).real=2*vars.length+neqs l/\(B1 F l vars fl).vars=vars.length/\(B1 F l vars fl).cost.length=2*vars.length+neqs l+l.length+1/\(B1 F l vars fl).rows.length=l.length:=by
 unfold B1;have h:=Ajy (F:=F) (z:=(F.whole 0).1) (vars:=vars) (real:=2*vars.length+neqs l) (W:=2*vars.length+neqs l+l.length+1) (l:=l) (i:=0) (sl:=2*vars.length) (t:={ vars:=vars.length,real:=2*vars.length+neqs l,rows:=[],cost:=Cg (2*vars.length+neqs l+l.length+1) (F.whole 0).1,basis:=[],flip:=[],fl:=fl || (F.whole 0).2 });simp only [Ov,Cu,Fm] at h ⊢;exact h
def lsC:Option Q->List AV
 | none=>[.prim (.bool false),.frz [] .nilc,.prim (.bool false),.frz [] .nilc]
 | some q=>ceW q
def ansC (f:Bool) (pt nu:List Q) (c1 c2:Cap) (least:Option Q) (bd:Bool):List AV:=[.prim (.bool f),.frz (pt.map ceW) c1,.frz (nu.map ceW) c2]++lsC least++[.prim (.bool bd)]
def ans0:List AV:=[.prim (.bool false),.frz [] .nilc,.frz [] .nilc,.prim (.bool false),.frz [] .nilc,.prim (.bool false),.frz [] .nilc,.prim (.bool false)]
structure Ans where
 f:Bool
 pt:List Q
 nu:List Q
 least:Option (Q × Bool)
def K8 (F:Fld) (K:Nat) (l:List RowT) (vars:List ByteArray) (fl:Bool):Option (Ans × Bool) :=
 match Jo F K (B1 F l vars fl) with
 | none=>none
 | some (_,t)=>if (F.stop && t.fl)=true then some (⟨false,[],[],none⟩,false) else
  if Hz t=true then some (⟨true,(Gk F t).1.map F.rat,[],none⟩,!(F.stop && (t.fl || (Gk F t).2)))
  else some (⟨false,[],(Jq F t).1.map F.rat,none⟩,!(F.stop && (t.fl || (Jq F t).2)))
end
section
open Go Go.Proofs.Tryz
open Go.Proofs.Tryz renaming func84->ga32,ntmps84->ga33,results84->ga34
set_option maxRecDepth 100000
namespace QQ
abbrev ua15:Nat:=84
end QQ
set_option maxHeartbeats 20000000
set_option maxRecDepth 100000
def At4 (S:List Ent) (iq:Nat) (a:Ans) (ok:Bool) (r:Rs):Prop :=
 ∃ S' tk' k' c1 c2 q b,r=(.tup [.agg (ansC a.f a.pt a.nu c1 c2 q b),.bool ok],S',tk',k')/\S'.length=S.length/\(∀ j,j<S.length->j≠iq->nth S' j=nth S j)/\(∀ v,a.least=some v->q=some v.1/\b=v.2)/\(a.least=none->q=none/\b=false)
section
variable (S:List Ent) (tk:List Nat) (k iq eq:Nat)
abbrev Aw28 (p:Prop:=by exact ∀ (S:List Ent)(tk:List Nat)(k iq eq:Nat)(l:List RowT)(fl:Bool)(hl:l.length<=1000)(hn:(Ee l).length<=1000)(vars:List ByteArray)(li:vars.length<=1000)(hv:∀ r ∈ l,∀ c ∈ r.1,c.1 ∈ vars)(hc:∀ r ∈ l,i64 r.2.1/\∀ c ∈ r.1,i64 c.2)(fw:fewC l)(o5:iq<S.length)(hf:FAq S iq eq fl)(K:Nat)(a:Ans)(ok:Bool)(hS:K8 qF K l vars fl=some (a,ok)),∃ r,cL prog ua15 [.ifc ua0 (rcvQ iq eq),Au l,Ap vars,.prim (.pointer none)] S tk k=some r/\At4 S iq a ok r):=p
theorem Ma28 {p:Prop} (h:p:=by
 intro S tk k iq eq l fl hl hn vars li hv hc fw o5 hf K a ok hS;obtain ⟨Φ,hΦ⟩:∃ Φ,Φ=At4 S iq a ok:=⟨_,rfl⟩;rw [<- hΦ];obtain ⟨rb,hbc,hbP⟩:=Aug (S++[(⟨k,ans0⟩:Ent)]) tk (k+1) iq eq l fl hl hn vars li hv hc fw aC hf.app;obtain ⟨Sb,kb,tkb,I,cc,rfl,hlb,hTb,qk,hob,hib⟩:=hbP.far aC;simp only [ans0,Au,Ap] at hbc;cases hd:Jo qF K (B1 qF l vars fl) with
 | none=>unfold K8 at hS; rw [hd] at hS; simp at hS
 | some bt =>
  obtain ⟨b,t⟩:=bt;obtain ⟨rd,q6,Sd,kd,rfl,yc,hTd,w7⟩:=Ao0 Sb tkb kb iq eq I _ t cc K b hTb hd;have jt:=Afc Sd tkb kd iq eq t.fl hTd.fa;unfold K8 at hS;rw [hd] at hS;simp only at hS;have p7:∀ j,j<S.length+1->j≠iq->OutQ I iq j:=fun j h1 h2=>hob j aC h2;have hSb:S.length+1<=Sb.length:=by simpa using hlb
  have q7:entAt Sd S.length k=some ans0:=by
   rw [Ab (w7 _ (p7 _ aA aA)),Ab (qk _ (by simp) aA)];exact Bk
  have au:∀ j,j<S.length->j≠iq->nth Sd j=nth S j:=fun j h1 h2=>by
   rw [w7 _ (p7 _ aA h2),qk _ aC h2,Bh h1]
  have hP0:∀ cs,entAt (put Sd S.length ⟨k,cs⟩) S.length k=some cs:=fun cs=>Ah aA;have zl:over ans0 0 ans0=some ans0:=rfl;have a1s:=q7;simp only [ans0] at zl q7;refine opG ga32 ga33 ?_;cases aj:(qF.stop && t.fl) with
  | true =>
   rw [aj] at jt hS;simp (maxSteps:=10^6)+contextual(disch:=try exact dqd)only[evg1,simprocAttr,Ca,Bm,Cb,ga34,Au,Ap,hbc,q6,jt,q7,zl,hP0,Ge,xfs];rw [if_pos rfl] at hS;simp only [Ba,Cf] at hS;obtain ⟨rfl,rfl⟩:=hS;rw [hΦ];refine ⟨_,_,_,.nilc,.nilc,none,false,rfl,by rw [I1,Am]; omega,fun j h1 h2=>?_,fun v hv=>by simp at hv,fun _=>⟨rfl,rfl⟩⟩;rw [Gu h1,Ae aA]; exact au j h1 h2
  | false =>
   rw [aj] at jt hS;rw [if_neg Iy] at hS;obtain ⟨rf,gp,Sf,kf,rfl,hlf,xa,hnf⟩:=Ak1 Sd tkb kd iq eq I t cc hTd;have hsz:=X0 hd;have sa:=T2 (F:=qF) (l:=l) (vars:=vars) (fl:=fl);have hoN:∀ d,d<=10->OutQ I iq (Sf.length+d):=fun d hd=>by
    rw [hlf,yc]; exact Asu hTb aA aA d hd
   have hEf:entAt Sf S.length k=some ans0:=by rw [Ab (hnf _ (p7 _ aA aA))]; exact a1s
   cases hfe:Hz t with
   | false =>
    rw [hfe] at gp hS;rw [if_neg Iy] at hS;simp only [Ba,Cf] at hS;obtain ⟨rfl,rfl⟩:=hS;obtain ⟨rm,wv,Sm,km,tkm,cm,rfl,hlm,u9,gh⟩:=Abh (Sf++[(⟨kf,ans0⟩:Ent)]) tkb (kf+1) iq eq I t cc (xa.app _) (by rw [hsz.1,hsz.2.2.1,hsz.2.2.2,sa.1,sa.2.2.1,sa.2.2.2]; omega);have a1t:Sm.length=Sf.length+1:=by rw [hlm]; simp
    have ri:entAt Sm Sf.length kf=some ans0:=Za6w
    have na:entAt Sm S.length k=some ans0:=Za6x
    have hR:L2 (Jq qF t).1=(Jq qF t).1.map fun q=>ceW (qF.rat q):=rfl;have uo:∀ cs,entAt (put Sm Sf.length ⟨kf,cs⟩) Sf.length kf=some cs:=fun cs=>Ah aA;have nd:∀ x,entAt (put Sm Sf.length x) S.length k=some ans0:=fun x=>by rw [Ai aA]; exact na
    have up:∀ x,FAq (put Sm Sf.length x) iq eq (Ck t.fl (Jq qF t).2):=fun x=>u9.fa.put aA;have uq x:=Afc (put Sm Sf.length x) tkm km iq eq _ (up x);have hPP:∀ x cs,entAt (put (put Sm Sf.length x) S.length ⟨k,cs⟩) S.length k=some cs:=fun x cs=>Ah dP;simp only [ans0] at ri na nd wv;simp (maxSteps:=10^6)+contextual(disch:=try exact dqd)only[evg1,simprocAttr,Ca,Bm,Cb,ga34,Au,Ap,hbc,q6,jt,gp,wv,ri,uo,nd,uq,hPP,Ge,xfs];rw [hΦ];refine ⟨_,_,_,.nilc,cm,none,false,Za3j,by rw [I1,Am,Am]; omega,fun j h1 h2=>?_,fun v hv=>by simp at hv,fun _=>⟨rfl,rfl⟩⟩;rw [Gu h1,Ae aA,Ae aA,gh _ (p7 _ aA h2),Bh aA,hnf _ (p7 _ aA h2)];exact au j h1 h2
   | true =>
    rw [hfe] at gp hS;rw [if_pos rfl] at hS;simp only [Ba,Cf] at hS;obtain ⟨rfl,rfl⟩:=hS;obtain ⟨ans1,zm⟩:∃ ans1:List AV,ans1=[.prim (.bool true),.frz [] .nilc,.frz [] .nilc,.prim (.bool false),.frz [] .nilc,.prim (.bool false),.frz [] .nilc,.prim (.bool false)]:=⟨_,rfl⟩;obtain ⟨rm,wv,Sm,km,tkm,cm,rfl,hlm,u9,gh⟩:=Avi (Sf++[(⟨kf,ans1⟩:Ent)]) tkb (kf+1) iq eq I t cc (xa.app _) (by rw [hsz.1,hsz.2.1,sa.1,sa.2.1]; omega);have a1t:Sm.length=Sf.length+1:=by rw [hlm]; simp
    have ri:entAt Sm Sf.length kf=some ans1:=Za6w
    have na:entAt Sm S.length k=some ans0:=Za6x
    have hR:L2 (Gk qF t).1=(Gk qF t).1.map fun q=>ceW (qF.rat q):=rfl;have uo:∀ cs,entAt (put Sm Sf.length ⟨kf,cs⟩) Sf.length kf=some cs:=fun cs=>Ah aA;have nd:∀ x,entAt (put Sm Sf.length x) S.length k=some ans0:=fun x=>by rw [Ai aA]; exact na
    have up:∀ x,FAq (put Sm Sf.length x) iq eq (Ck t.fl (Gk qF t).2):=fun x=>u9.fa.put aA;have uq x:=Afc (put Sm Sf.length x) tkm km iq eq _ (up x);have hPP:∀ x cs,entAt (put (put Sm Sf.length x) S.length ⟨k,cs⟩) S.length k=some cs:=fun x cs=>Ah dP;rw [zm] at ri wv;have a1u:K6 BinOp.neq (V5 prog 113) true=some (.prim (.bool false)):=aM
    simp only [ans0] at na nd;simp (maxSteps:=10^6)+contextual(disch:=try exact dqd)only[evg1,simprocAttr,Ca,Bm,Cb,ga34,Au,Ap,hbc,q6,jt,gp,wv,ri,uo,nd,uq,hPP,a1u,Ge,xfs];rw [hΦ];refine ⟨_,_,_,cm,.nilc,none,false,Za3j,by rw [I1,Am,Am]; omega,fun j h1 h2=>?_,fun v hv=>by simp at hv,fun _=>⟨rfl,rfl⟩⟩;rw [Gu h1,Ae aA,Ae aA,gh _ (p7 _ aA h2),Bh aA,hnf _ (p7 _ aA h2)];exact au j h1 h2):p:=h
namespace QQ
theorem Ata:Aw28:=Ma28
end QQ
end
end
section
open Go
theorem Kp {f b:Bool} {p n:List Q} {c1 c2:Cap} {q:Option Q} : (ansC f p n c1 c2 q b).length=8:=by cases q <;> rfl
theorem Zw {f b:Bool} {p n:List Q} {c1 c2:Cap} {q:Option Q} : (ansC f p n c1 c2 q b).all leafOk=true:=by cases q <;> rfl
theorem Vb {e e':List AV} (h:e.length=e'.length):over e 0 e'=some e':=by
 have:=Tj (r:=[]) h;exact Ya1y
end
section
open Go Go.Proofs.Tryz
open Go.Proofs.Tryz renaming func153->ga2,ntmps153->ga3,results153->ga4
open Go.Proofs.YthelkgdmgihhiaaGreat renaming ceW->ga0,Al->ga1,Av->ga5,Bt->ga6
set_option maxRecDepth 100000
namespace WW
abbrev ua0:Nat:=123
abbrev ua1:Nat:=153
abbrev ua2:Nat:=4
abbrev ua3:Nat:=0
abbrev ua4:Nat:=0
end WW
set_option maxHeartbeats 4000000
set_option maxRecDepth 100000
namespace WW
def Aqh (S:List Ent) (tk:List Nat) (ia ea iq eq:Nat) (l:List Q) (fl:Bool) (r:Rs):Prop :=
 ∃ S' k',r=(.tup [],S',tk,k')/\S'.length=S.length/\entAt S' ia ea=some (flat ceW l)/\FAq S' iq eq fl/\∀ j,j≠ia->j≠iq->nth S' j=nth S j
end WW
section
variable (S:List Ent) (tk:List Nat) (k iq eq:Nat) (fl:Bool)
namespace WW
theorem Au3:Aw0:=Ma0
end WW
end
end
section
open Go
open Go.Proofs.YthelkgdmgihhiaaGreat renaming ceW->ga0
set_option maxRecDepth 100000
namespace WW
structure A9 (S:List Ent) (iq eq:Nat) (I:TI) (t:Tb) (c:Cap):Prop where
 top:entAt S I.it I.et=some [.ifc 123 (rcvQ iq eq),intA t.vars,intA t.real,dd I.ir I.er 1 t.rows.length,.sref I.ic I.ec 0 t.cost.length 4,dd I.ib I.eb 1 t.rows.length,.frz (t.flip.map Dc) c]
 nids:I.ids.length=t.rows.length
 rowsE:t.rows≠[]->entAt S I.ir I.er=some (I.ids.map (dm t.cost.length 4))
 rowE:∀ i p r,nth I.ids i=some p->nth t.rows i=some r->entAt S p.1 p.2=some (flat ceW r)
 rowW:∀ r ∈ t.rows,r.length=t.cost.length
 costE:entAt S I.ic I.ec=some (flat ceW t.cost)
 basisE:t.rows≠[]->entAt S I.ib I.eb=some (t.basis.map intA)
 nb:t.basis.length=t.rows.length
 nf:t.flip.length=t.rows.length
 fa:FAq S iq eq t.fl
 ap:Apart I iq
 okr:∀ r ∈ t.rows,okL qF r
 okc:okL qF t.cost
 bigW:t.cost.length<=1000000
 bigM:t.rows.length<=1000000
 real:t.real<t.cost.length
 bB:∀ b ∈ t.basis,b<t.cost.length
end WW
section
variable {S S':List Ent} {iq eq:Nat} {I:TI} {t:Tb} {c:Cap}
namespace WW
theorem A9.row:Aw1:=fun {S S' iq eq I t c}=>Ma1
theorem A9.setCost:Aw2:=fun {S S' iq eq I t c}=>Ma2
theorem A9.setBasis:Aw3:=fun {S iq eq I t c}=>Ma3
theorem A9.flag:Aw4:=fun {S S' iq eq I t c}=>Ma4
theorem A9.app:Aw5:=fun {S iq eq I t c}=>Ma5
structure LowQ (I:TI) (iq n:Nat) (t:Tb):Prop where
 it:I.it<n
 ic:I.ic<n
 ir:t.rows≠[]->I.ir<n
 ib:t.rows≠[]->I.ib<n
 row:∀ p ∈ I.ids,p.1<n
 iq:True
theorem A9.low (h:A9 S iq eq I t c):LowQ I iq S.length t:=by
 refine ⟨A5 h.top,A5 h.costE,fun hn=>A5 (h.rowsE hn),fun hn=>A5 (h.basisE hn),fun p hp=>?_,trivial⟩;exact Yat
theorem A9.take:Aw6:=fun {S iq eq I t c}=>Ma6
theorem LowQ.of {n:Nat} {t':Tb} (h:LowQ I iq n t) (hn:t'.rows≠[]->t.rows≠[]):LowQ I iq n t':=⟨h.it,h.ic,fun h'=>h.ir (hn h'),fun h'=>h.ib (hn h'),h.row,h.iq⟩
theorem A9.frame:Aw7:=fun {S S' iq eq I t c}=>Ma7
def Zs (S:List Ent) (tk:List Nat) (iq eq:Nat) (I:TI) (t':Tb) (cc:Cap) (v:AV) (r:Rs):Prop :=
 ∃ S' k',r=(v,S',tk,k')/\S'.length=S.length/\A9 S' iq eq I t' cc/\∀ j,OutQ I iq j->nth S' j=nth S j
end WW
end
end
section
open Go Go.Proofs.Tryz
open Go.Proofs.Tryz renaming func150->ga7,ntmps150->ga8,results150->ga9
open Go.Proofs.YthelkgdmgihhiaaGreat renaming ceW->ga0,Al->ga1,Av->ga5,Bt->ga6
set_option maxRecDepth 100000
namespace WW
abbrev ua5:Nat:=150
end WW
set_option maxHeartbeats 8000000
set_option maxRecDepth 100000
section
variable (S:List Ent) (tk:List Nat) (k iq eq:Nat)
namespace WW
theorem Avg:Aw8:=Ma8
end WW
end
end
section
open Go Go.Proofs.Tryz
open Go.Proofs.Tryz renaming func149->ga10,ntmps149->ga11,results149->ga12
open Go.Proofs.YthelkgdmgihhiaaGreat renaming ceW->ga0,Al->ga1,Av->ga5,Bt->ga6
set_option maxRecDepth 100000
namespace WW
abbrev ua6:Nat:=149
end WW
set_option maxHeartbeats 8000000
set_option maxRecDepth 100000
section
variable (S:List Ent) (tk:List Nat) (k iq eq:Nat)
namespace WW
theorem Ape:Aw9:=Ma9
end WW
end
end
section
open Go Go.Proofs.Tryz
open Go.Proofs.Tryz renaming func122->ga13,ntmps122->ga14,results122->ga15
open Go.Proofs.YthelkgdmgihhiaaGreat renaming ceW->ga0,Al->ga1
set_option maxRecDepth 100000
namespace WW
abbrev ua7:Nat:=122
end WW
set_option maxHeartbeats 8000000
set_option maxRecDepth 100000
section
variable (S:List Ent) (tk:List Nat) (k iq eq:Nat)
namespace WW
theorem Ao0:Aw10:=Ma10
end WW
end
end
section
open Go Go.Proofs.Tryz
open Go.Proofs.Tryz renaming func123->ga16,ntmps123->ga17,results123->ga18,func151->ga19,ntmps151->ga20,results151->ga21
open Go.Proofs.YthelkgdmgihhiaaGreat renaming ceW->ga0,Al->ga1,Av->ga5
set_option maxRecDepth 100000
namespace WW
abbrev ua8:Nat:=123
abbrev ua9:Nat:=151
end WW
set_option maxHeartbeats 4000000
set_option maxRecDepth 100000
namespace WW
def Atk (S:List Ent) (tk:List Nat) (iq eq:Nat) (y:Q × Bool) (r:Rs):Prop:=∃ k',r=(.agg (ceW y.1),flS S iq eq y.2,tk,k')
end WW
section
variable (S:List Ent) (tk:List Nat) (k iq eq:Nat)
namespace WW
theorem Ak1:Aw11:=Ma11
theorem Ake:Aw12:=Ma12
end WW
end
end
section
open Go
set_option maxRecDepth 100000
namespace WW
theorem E9 (n:Int) (hn:i64 n):qF.ok (qF.whole n).1:=Dp.whole n hn
theorem Akc:Aw13:=fun {S iq eq I t cc c}=>Ma13
end WW
end
section
open Go Go.Proofs.Tryz
open Go.Proofs.Tryz renaming func125->ga22,ntmps125->ga23,results125->ga24,func124->ga25,ntmps124->ga26,results124->ga27
open Go.Proofs.YthelkgdmgihhiaaGreat renaming ceW->ga0,Al->ga1,Av->ga5,Bt->ga6
set_option maxRecDepth 100000
namespace WW
abbrev ua10:Nat:=125
abbrev ua11:Nat:=0
abbrev ua12:Nat:=124
end WW
set_option maxHeartbeats 8000000
set_option maxRecDepth 100000
namespace WW
def L2 (l:List Q):List (List AV):=l.map fun q=>ceW (qF.rat q)
theorem Af7 (l:List Q):Db 4 (L2 l)=true:=Za1s
def Anx (S:List Ent) (iq eq:Nat) (I:TI) (t':Tb) (cc:Cap) (l:List Q) (r:Rs):Prop :=
 ∃ S' k' tk' c,r=(.frz (L2 l) c,S',tk',k')/\S'.length=S.length/\A9 S' iq eq I t' cc/\∀ j,OutQ I iq j->nth S' j=nth S j
end WW
section
variable (S:List Ent) (tk:List Nat) (k iq eq:Nat)
namespace WW
theorem Avi:Aw14:=Ma14
theorem Abh:Aw15:=Ma15
end WW
end
end
section
open Go
open Go.Proofs.YthelkgdmgihhiaaGreat renaming ceW->ga0
set_option maxRecDepth 100000
namespace WW
theorem A9.add:Aw16:=fun {S S' iq eq I t c c' ir er ib eb id nr b f fl' row}=>Ma16
structure Gz (S SS:List Ent) (iq eq:Nat) (I:TI) (t:Tb) (cp:Cap) (L nz n15 n16 n19:Nat) (z:Q) (r:RowT) (row:List Q) (u:Q):Prop where
 T:A9 SS iq eq I t cp
 low:LowQ I iq L t
 Z:entAt SS (S.length+1) nz=some (ceW z)
 E15:entAt SS L n15=some (rowC r)
 E16:entAt SS (L+1) n16=some (flat ceW row)
 E19:entAt SS (L+2) n19=some (ceW u)
 len:SS.length=L+3
 fr:∀ j,j<S.length->j≠iq->nth SS j=nth S j
 qL:iq<S.length
 SL:S.length+3<=L
 ic:I.ic=S.length+2
end WW
section
variable {S SS S':List Ent} {iq eq:Nat} {I:TI} {t:Tb} {cp:Cap} {L nz n15 n16 n19:Nat} {z u:Q} {r:RowT} {row:List Q}
namespace WW
theorem Gz.flag:Aw17:=fun {S SS S' iq eq I t cp L nz n15 n16 n19 z u r row fl'}=>Ma17
theorem Gz.put:Aw18:=fun {S SS iq eq I t cp L nz n15 n16 n19 z u r row}=>Ma18
theorem Gz.unit:Aw19:=fun {S SS iq eq I t cp L nz n15 n16 n19 z u r row}=>Ma19
theorem Gz.cost:Aw20:=fun {S SS iq eq I t cp L nz n15 n16 n19 z u r row k'}=>Ma20
end WW
end
end
section
open Go
namespace WW
def Ais (S:List Ent) (l:List RowT) (vars:List ByteArray) (fl:Bool) (k iq eq c W nz:Nat) (z:Q) (i:Nat) (st:St):Prop :=
 ∃ sl t1 I cp,i<=l.length/\B1 qF l vars fl=begS qF z vars c W (l.drop i) i sl t1/\A9 st.S iq eq I t1 cp/\t1.rows.length=i/\t1.cost.length=W/\t1.real=c/\t1.vars=vars.length/\sl+neqs (l.drop i)=c/\Be st.tk cp 1=true/\entAt st.S (S.length+1) nz=some (ceW z)/\S.length+3<=st.S.length/\(∀ j,j<S.length->j≠iq->nth st.S j=nth S j)/\(I.it=S.length/\I.et=k/\I.ic=S.length+2)/\(S.length+2<I.ir/\S.length+2<I.ib/\∀ p ∈ I.ids,S.length+2<p.1) /\
  st.T.length=270/\getT st.T 0=.ifc 123 (rcvQ iq eq)/\getT st.T 1=.frz (l.map rowC) .unk/\getT st.T 2=.frz (vars.map strC) .unk/\getT st.T 7=.ref S.length k 0/\getT st.T 10=.int (sl:Nat)/\getT st.T 11=.int (W:Nat)/\getT st.T 12=.ref (S.length+1) nz 0/\getT st.T 83=.frz (l.map rowC) .unk/\getT st.T 84=.int (l.length:Nat)/\getT st.T 85=.int (i:Nat)
end WW
end
end Go.Proofs.YthelkgdmgihhiaaGreat
