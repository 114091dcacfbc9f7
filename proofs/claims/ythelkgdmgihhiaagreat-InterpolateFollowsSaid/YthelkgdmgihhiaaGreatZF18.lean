/- Part 18. -/
import Derived.Test.YthelkgdmgihhiaaGreatZF17
open Bool renaming or->Cl,or_false->F5,or_assoc->Gr,false_ne_true->Iw,false_or->Oe
open Go.IntKind renaming i64->B8
open Go.Proofs.YthelkgdmgihhiaaGreat.AV renaming bool->Bo,int->Ca,str->Cb
open List renaming replicate->Cg,length_cons->Cj,map_cons->Cm,length_append->Cn,cons_append->Co,map_nil->Cp,nil_append->Ct,mem_append->Cu,length_nil->Cv,getElem?_append_left->Cy,getElem?_eq_none->C3,mem_cons->C4,length_eq_zero_iff->C5,append_assoc->C6,take_length->C8,map_append->C9,all_eq_true->Fc,getElem?_map->Fe,take_of_length_le->Ff,length_map->Fg,getElem?_append_right->Fi,append_nil->Fj,drop_eq_nil_of_le->Fm,mem_singleton->Ft,mem_map->F6,getElem?_eq_some_iff->F9,length_pos_iff->Ic,length_take->Im,mem_of_getElem?->Ip,mem_replicate->It,getElem?_cons_zero->Oa,take->Ob,replicate_succ->Oo,length_replicate->O2,drop->Se,singleton_append->Sq,map_map->kY,map_replicate->lE
open Nat renaming le_refl->Ce,zero_le->Ci,mul_one->Cw,zero_add->Fk,add_zero->Ie,sub_self->Oj,eq_zero_or_pos->iF
open Ne renaming symm->I8
open Option renaming bind_some->Ov
open Option.some renaming injEq->Bg
open Prod.mk renaming injEq->Cf
namespace Go.Proofs.YthelkgdmgihhiaaGreat
section
open Go Tryz
open Go.Proofs.Tryz renaming f115->ga28,results115->ga29
open Go.Proofs.YthelkgdmgihhiaaGreat renaming ceQ->ga0,A3->ga1,B4->ga5,Bb->ga6
set_option maxRecDepth 100000
namespace QQ
abbrev ua13:Nat:=177
end QQ
set_option maxHeartbeats 20000000
set_option maxRecDepth 100000
section
variable (S:List Ent) (l:List RowT) (vars:List ByteArray) (fl:Bool) (k iq eq c W nz:Nat) (z:Q)
abbrev Ax21 (p:Prop:=by exact ∀ (S:List Ent)(l:List RowT)(vars:List ByteArray)(fl:Bool)(k iq eq c W nz:Nat)(z:Q)(hB:BegC S l vars iq c W)(Φ:Rs->Prop)(i:Nat)(b6:i<l.length)(r:RowT)(hr:nth l i=some r)(sl2:Nat)(ky:sl2+neqs (l.drop (i+1))=c)(t1:Tb)(I:TI)(cp:Cap)(tk:List Nat)(ig:t1.rows.length=i)(hcl:t1.cost.length=W)(cq:t1.real=c)(j8:t1.vars=vars.length)(ab:Be tk cp 1=true)(a8:I.it=S.length/\I.et=k/\I.ic=S.length+2)(j9:S.length+2<I.ir/\S.length+2<I.ib/\∀ p ∈ I.ids,S.length+2<p.1)(rowZ:List Q)(fr:Bool)(qo:rowZ.length=W)(orowZ:okL qF rowZ)(L m0 nu:Nat)(u:Q × Bool)(fb:Bool)(jb:fb=Ee r)(SZ:List Ent)(n7 lv:Nat)(m8:Hd S SZ iq eq I { t1 with fl:=Cl t1.fl fr } cp L nz m0 (m0+1) nu z r rowZ u.1)(hR:Bz qF l vars fl=begS qF z vars c W (l.drop (i+1)) (i+1) sl2 { t1 with rows:=t1.rows++[rowZ],cost:=(costL qF c W 0 t1.cost rowZ).1,basis:=t1.basis++[c+i],flip:=t1.flip++[fb],fl:=Cl (Cl t1.fl fr) (costL qF c W 0 t1.cost rowZ).2 })(back:∀ st,Ajl S l vars fl k iq eq c W nz z (i+1) st->Gd finM Φ (KA prog ga28 18 [] st))(T:List AV)(hT:T.length=270)(e0:getT T 0=.ifc ua0 (rcvQ iq eq))(e1:getT T 1=.frz (l.map rowC) .unk)(e2:getT T 2=.frz (vars.map strC) .unk)(e7:getT T 7=.ref S.length k 0)(e10:getT T 10=.int (sl2:Nat))(e11:getT T 11=.int (W:Nat))(e12:getT T 12=.ref (S.length+1) nz 0)(e14:getT T 14=.int (i:Nat))(e15:getT T 15=.ref L m0 0)(e16:getT T 16=.sref (L+1) (m0+1) 0 W ua2)(e18:getT T 18=.prim (.bool fb))(e19:getT T 19=.ref (L+2) nu 0)(e83:getT T 83=.frz (l.map rowC) .unk)(e84:getT T 84=.int (l.length:Nat))(e85:getT T 85=.int (i:Nat))(e194:getT T 194=.int (W:Nat))(e195:getT T 195=.int ((0:Nat):Int)),Gd finM Φ (KA prog ga28 43 [lv] ⟨T,SZ,tk,n7⟩)):=p
theorem Ma21 {p:Prop} (h:p:=by
 intro S l vars fl k iq eq c W nz z hB Φ i b6 r hr sl2 ky t1 I cp tk ig hcl cq j8 ab a8 j9 rowZ fr qo orowZ L m0 nu u fb jb SZ n7 lv m8 hR back T hT e0 e1 e2 e7 e10 e11 e12 e14 e15 e16 e18 e19 e83 e84 e85 e194 e195;obtain ⟨hl,ly,hv,hc,gi,py,wj,ql⟩:=hB;have hnl:=Pc l;have uf:B8.wrap ((W:Int) - 1)=((W - 1:Nat):Int):=aP
 have gj:W - 1<W:=aA
 have kz:B8.wrap ((c:Int)+(i:Int))=((c+i:Nat):Int):=aS
 have ug:B8.wrap ((i:Int)+1)=((i+1:Nat):Int):=aS
 have ww:c+i<W:=aA
 refine Wl rfl (t:=.mk) ?_;refine Ef (P:=prog) (fun x st=>st.T.length=270/\(costL qF c W 0 t1.cost rowZ=(x.2.2.1++(costL qF c W x.2.2.1.length x.2.2.2.1 (rowZ.drop x.2.2.1.length)).1,Cl x.2.2.2.2 (costL qF c W x.2.2.1.length x.2.2.2.1 (rowZ.drop x.2.2.1.length)).2))/\(x.2.2.1.length+x.2.2.2.1.length=W)/\(Hd S x.1 iq eq I { t1 with cost:=x.2.2.1++x.2.2.2.1,fl:=Cl (Cl t1.fl fr) x.2.2.2.2 } cp L nz m0 (m0+1) nu z r rowZ u.1)/\getT st.T 0=.ifc ua0 (rcvQ iq eq)/\getT st.T 1=.frz (l.map rowC) .unk/\getT st.T 2=.frz (vars.map strC) .unk/\getT st.T 7=.ref S.length k 0/\getT st.T 10=.int (sl2:Nat)/\getT st.T 11=.int (W:Nat)/\getT st.T 12=.ref (S.length+1) nz 0/\getT st.T 14=.int (i:Nat)/\getT st.T 15=.ref L m0 0/\getT st.T 16=.sref (L+1) (m0+1) 0 W ua2/\getT st.T 18=.prim (.bool fb)/\getT st.T 19=.ref (L+2) nu 0/\getT st.T 83=.frz (l.map rowC) .unk/\getT st.T 84=.int (l.length:Nat)/\getT st.T 85=.int (i:Nat)/\getT st.T 194=.int (W:Nat)/\getT st.T 195=.int (x.2.2.1.length:Nat)/\st.S=x.1/\st.tk=tk/\st.n=x.2.1) (fun x=>x.2.2.2.1.length) (SZ,n7,([]:List Q),t1.cost,false) ?_ ?_;case refine_2=>exact ⟨aH,rfl,by simpa using hcl,by simp only [Ct,F5]; exact m8,aH,aH,aH,aH,aH,aH,aH,aH,aH,aH,aH,aH,aH,aH,aH,aH,aH,aH,aH,aH⟩
 rintro ⟨SS,n1,p,v,fq⟩ ⟨T,S',tk',n'⟩ ⟨hl,l8,px,ak,e0,e1,e2,e7,e10,e11,e12,e14,e15,e16,e18,e19,e83,e84,e85,e194,e195,eS,eT,eN⟩ IH;simp only at l8 px ak e0 e1 e2 e7 e10 e11 e12 e14 e15 e16 e18 e19 e83 e84 e85 e194 e195 eS eT eN;subst eS eT eN;obtain ⟨g,hg,hT⟩:=Ap hl;rw [hg] at e0 e1 e2 e7 e10 e11 e12 e14 e15 e16 e18 e19 e83 e84 e85 e194 e195;subst hT;clear hg hl;have js:(p++v).length=W:=by simpa using px
 have l9:=ak.T.top;simp only [a8.1,a8.2.1,a8.2.2,js,cq,j8,ig,intA] at l9;by_cases hpW:p.length<W
 ·have c2:decide ((p.length:Int)<(W:Int))=true:=by simpa using hpW
  obtain ⟨a0,v,rfl⟩:∃ a0 v',v=a0 :: v':=by
   cases v with
   | nil=>simp at px; omega
   | cons x v=>exact ⟨x,v,rfl⟩
  obtain ⟨r0,cg⟩:=Ab (show p.length<rowZ.length by omega);have dp:=Ax cg;have oa0:qF.ok a0:=ak.T.okc a0 (by simp);have or0:qF.ok r0:=orowZ r0 (Aj cg);have hw:B8.wrap ((p.length:Int)+1)=(((p++[a0]).length:Nat):Int):=bQ
  have wg:v.length<(a0 :: v).length:=by simp
  have hlp:∀ a:Q,(p++[a]).length=p.length+1:=fun a=>by simp
  rw [dp] at l8;simp only [costL] at l8;by_cases hk1:p.length<c
  ·have c6:decide ((p.length:Int)<(c:Int))=true:=by simpa using hk1
   have ai:Kn qF c W p.length a0 r0=qF.minus a0 r0:=by unfold Kn; rw [if_pos (Or.inl hk1)]
   have c7:=c6;have c7b:=c6;exact Ya5
  ·have c6:decide ((p.length:Int)<(c:Int))=false:=by simpa using hk1
   by_cases bp:p.length=W - 1
   ·have c7:decide ((p.length:Int)=((W - 1:Nat):Int))=true:=by exact decide_eq_true aA
    have c7b:((p.length:Int) == ((W - 1:Nat):Int))=true:=by exact decide_eq_true aA
    have ai:Kn qF c W p.length a0 r0=qF.minus a0 r0:=by unfold Kn; rw [if_pos (Or.inr bp)]
    exact Ya5
   ·have zq:¬ ((p.length:Int)=((W - 1:Nat):Int)):=fun h=>bp aA;have c7:decide ((p.length:Int)=((W - 1:Nat):Int))=false:=by simpa using zq
    have c7b:((p.length:Int) == ((W - 1:Nat):Int))=false:=by simpa using zq
    have ai:Kn qF c W p.length a0 r0=(a0,false):=by unfold Kn; rw [if_neg aA]
    rw [ai] at l8;simp (maxSteps:=10^6)+contextual(disch:=try exact dqd)only[evg1,simprocAttr,Ca,Bo,Cb,ga29,e0,e1,e2,e7,e10,e11,e12,e14,e15,e16,e18,e19,e83,e84,e85,e194,e195,c2,c6,c7,c7b,hw,uf,l9];exact IH (S',n',p++[a0],v,fq) _ aF ⟨rfl,by rw [l8,hlp]; simp only [C6,Co,Ct,Oe],by show (p++[a0]).length+v.length=W; simp only [Cn,Cj,Cv] at px ⊢; omega,by simpa using ak,bZ⟩
 ·have c2:decide ((p.length:Int)<(W:Int))=false:=by simpa using hpW
  have a1m:v=[]:=C5.1 aA;subst a1m;simp only [costL,Fj,F5] at l8 ak js l9;rw [l8] at hR;simp only at hR;clear IH l8;obtain ⟨m7,hm7⟩:∃ m7,m7=n':=⟨_,rfl⟩;subst hm7;obtain ⟨SW,hSW⟩:∃ SW,SW=S':=⟨_,rfl⟩;subst hSW;have hlW:=ak.len;have hSL:=ak.SL;have hqL:=ak.qL;have md:(t1.flip.map Di).length+1<=1048576:=by rw [Fg,ak.T.nf]; simp only; omega
  have hfo:B2 1 (t1.flip.map Di)=true:=by
   unfold B2;rw [Fc];intro e he;obtain ⟨b,-,rfl⟩:=F6.1 he;rfl
  have bh:=apB_one (y:=[.prim (.bool fb)]) ab hfo rfl md;have d9:=Ba ab;have zr:(t1.flip++[fb]).map Di=t1.flip.map Di++[[.prim (.bool fb)]]:=by simp [Di]
  rcases iF i with jt|jt
  ·rw [jt] at l9;simp only [de] at l9;have hlS:S.length<SW.length:=aA
   have hP:∀ e x:Ent,put (SW++[e]) S.length x=put SW S.length x++[e]:=fun e x=>Dq hlS;have hQ:∀ y e x:Ent,put (put SW S.length y++[e]) S.length x=put SW S.length x++[e]:=fun y e x=>by rw [Dq (by rw [Am]; exact hlS),Mi]
   have q9:∀ y e e' x:Ent,put (put SW S.length y++[e]++[e']) S.length x=put SW S.length x++[e]++[e']:=fun y e e' x=>by rw [Dq (by rw [Cn,Am]; omega),hQ]
   have hE:∀ cs,entAt (put SW S.length ⟨k,cs⟩) S.length k=some cs:=fun cs=>Ah hlS;have hEa:∀ cs e,entAt (put SW S.length ⟨k,cs⟩++[e]) S.length k=some cs:=fun cs e=>Ad (hE cs);have hEb:∀ cs e e',entAt (put SW S.length ⟨k,cs⟩++[e]++[e']) S.length k=some cs:=fun cs e e'=>Ad (hEa cs e);have ry:∀ e,entAt (SW++[e]) S.length k=_:=fun e=>Ad l9;have xf:∀ y e:Ent,(put SW S.length y++[e]).length=L+4:=fun y e=>by rw [Cn,Am,hlW]; rfl
   have fg:∀ S n,apO prog ua13 (.frz [] .nilc) (.lit 1 [.sref (L+1) (m0+1) 0 W ua2]) S n=some (.sref S.length n 0 1 1,S++[⟨n,[.sref (L+1) (m0+1) 0 W ua2]⟩],n+1):=fun S n=>Akl aK rfl;have uj:∀ (c:Cap) x S n,apO prog 58 (.frz [] .nilc) (.frz [[.prim (.int .i64 x)]] c) S n=some (.sref S.length n 0 1 1,S++[⟨n,[.prim (.int .i64 x)]⟩],n+1):=fun c x S n=>Akk aK rfl;simp (maxSteps:=10^6)+contextual(disch:=try exact dqd)only[evg1,simprocAttr,Ca,Bo,Cb,ga29,e0,e1,e2,e7,e10,e11,e12,e14,e15,e16,e18,e19,e83,e84,e85,e194,e195,c2,l9,ry,kz,ug,bh,fg,uj,Qj,hP,hQ,q9,hE,hEa,hEb,xf,hlW];have hne:0<i->t1.rows≠[]:=fun h=>aA
   have j7:I.ids=[]:=C5.1 (by rw [ak.T.nids]; simp only; omega);have ue:t1.basis=[]:=C5.1 (by have:=ak.T.nb; simp only at this; omega);obtain ⟨SF,k7⟩:∃ SF,SF=put SW S.length ⟨k,[.ifc ua0 (rcvQ iq eq),.int (vars.length:Nat),.int (c:Nat),.sref (L+3) m7 0 1 1,.sref (S.length+2) I.ec 0 W ua2,.sref (L+4) (m7+1) 0 1 1,.frz (t1.flip.map Di++[[.prim (.bool fb)]]) (Ay tk' cp 1)]⟩++[⟨m7,[.sref (L+1) (m0+1) 0 W ua2]⟩]++[⟨m7+1,[.prim (.int .i64 ((c+i:Nat):Int))]⟩]:=⟨_,rfl⟩;rw [<- k7];have vz:(put SW S.length ⟨k,[.ifc ua0 (rcvQ iq eq),.int (vars.length:Nat),.int (c:Nat),.sref (L+3) m7 0 1 1,.sref (S.length+2) I.ec 0 W ua2,.sref (L+4) (m7+1) 0 1 1,.frz (t1.flip.map Di++[[.prim (.bool fb)]]) (Ay tk' cp 1)]⟩).length=L+3:=by rw [Am,hlW]
   have htF:entAt SF S.length k=some [.ifc ua0 (rcvQ iq eq),.int (vars.length:Nat),.int (c:Nat),.sref (L+3) m7 0 (i+1) 1,.sref (S.length+2) I.ec 0 W ua2,.sref (L+4) (m7+1) 0 (i+1) 1,.frz (t1.flip.map Di++[[.prim (.bool fb)]]) (Ay tk' cp 1)]:=by rw [k7,hEb,jt]
   have hrF:entAt SF (L+3) m7=some ((I.ids++[(L+1,m0+1)]).map (dp W ua2)):=by rw [k7,j7]; exact Ad (An vz)
   have hbF:entAt SF (L+4) (m7+1)=some ((t1.basis++[c+i]).map intA):=by rw [k7,ue]; exact An (by rw [Cn,vz]; rfl)
   have k8:∀ j,j<L+3->j≠S.length->(0<i->j≠I.ir/\j≠I.ib)->nth SF j=nth SW j:=fun j h1 h2 _=>by
    rw [k7,Bj (by rw [Cn,vz]; omega),Bj (by rw [vz]; exact h1),Ae (I8 h2)]
   have hlF:SF.length=L+5:=by rw [k7,Cn,Cn,vz]; rfl
   have hIR:S.length+2<L+3:=aA
   have hIB:S.length+2<L+4:=aA
   have hAp:Apart ⟨I.it,I.et,L+3,m7,I.ic,I.ec,L+4,m7+1,I.ids++[(L+1,m0+1)]⟩ iq:=by
    rw [j7];constructor <;> first|(simp only; omega)|skip
    ·intro q hq;simp only [Ct,Ft] at hq;subst hq;simp only;exact ⟨aA,aA,aA,aA,aA⟩
    ·intro a b x y hx hy hab;have h1:=Bl hx;have h2:=Bl hy;simp only [Ct,Cj,Cv] at h1 h2;omega
   have hRA:Bf SF iq eq ⟨I.it,I.et,(L+3),m7,I.ic,I.ec,(L+4),(m7+1),I.ids++[(L+1,m0+1)]⟩ { t1 with rows:=t1.rows++[rowZ],cost:=p,basis:=t1.basis++[c+i],flip:=t1.flip++[fb],fl:=Cl (Cl t1.fl fr) fq } (Ay tk' cp 1):=by
    exact Yae
   refine Me rfl (back _ ⟨sl2,_,_,Ay tk' cp 1,aA,hR,hRA,by simp [ig],js,cq,j8,ky,d9,?_,?_,fun j h1 h2=>?_,⟨a8.1,a8.2.1,a8.2.2⟩,⟨hIR,hIB,fun q hq=>?_⟩,rfl,rfl,rfl,rfl,rfl,rfl,rfl,rfl,rfl,rfl,rfl⟩)
   ·exact Ya3n
   ·show _<=SF.length;omega
   ·exact Ya3o
   ·rcases Cu.1 hq with hq|hq
    ·exact j9.2.2 q hq
    ·simp only [Ft] at hq; subst hq; simp only; omega
  ·rw [Bu jt,Bu jt] at l9;have hne:0<i->t1.rows≠[]:=fun h h0=>by rw [h0] at ig; simp only [Cv] at ig; omega
   have hlS:S.length<SW.length:=aA
   have bh:=ak.T.ap;have a36:I.ir<L:=ak.low.ir (hne jt);have a37:I.ib<L:=ak.low.ib (hne jt);have hrb:=bh.rb;have i9:entAt SW I.ir I.er=some (I.ids.map (dp W ua2)):=by have h:=ak.T.rowsE (hne jt); simp only [js] at h; exact h
   have qg:entAt SW I.ib I.eb=some (t1.basis.map intA):=ak.T.basisE (hne jt);have i6:(I.ids.map (dp W ua2)).length=i:=by rw [Fg,ak.T.nids]; exact ig
   have xt:(t1.basis.map intA).length=i:=by rw [Fg]; have:=ak.T.nb; simp only at this; omega
   obtain ⟨U1,wa⟩:∃ U1,U1=put SW I.ir ⟨m7,I.ids.map (dp W ua2)++[.sref (L+1) (m0+1) 0 W ua2]⟩:=⟨_,rfl⟩;have hl1:U1.length=L+3:=by rw [wa,Am]; exact hlW
   have dv:entAt U1 S.length k=some [.ifc ua0 (rcvQ iq eq),.int (vars.length:Nat),.int (c:Nat),.sref I.ir I.er 0 i 1,.sref (S.length+2) I.ec 0 W ua2,.sref I.ib I.eb 0 i 1,.frz (t1.flip.map Di) cp]:=by rw [wa,Ai aA]; exact l9
   obtain ⟨U2,xg⟩:∃ U2,U2=put U1 S.length ⟨k,[.ifc ua0 (rcvQ iq eq),.int (vars.length:Nat),.int (c:Nat),.sref I.ir m7 0 (i+1) 1,.sref (S.length+2) I.ec 0 W ua2,.sref I.ib I.eb 0 i 1,.frz (t1.flip.map Di) cp]⟩:=⟨_,rfl⟩;have hl2:U2.length=L+3:=by rw [xg,Am]; exact hl1
   have j6:entAt U2 S.length k=some [.ifc ua0 (rcvQ iq eq),.int (vars.length:Nat),.int (c:Nat),.sref I.ir m7 0 (i+1) 1,.sref (S.length+2) I.ec 0 W ua2,.sref I.ib I.eb 0 i 1,.frz (t1.flip.map Di) cp]:=by rw [xg]; exact Ah aA
   have hb2:entAt U2 I.ib I.eb=some (t1.basis.map intA):=by rw [xg,Ai aA,wa,Ai hrb]; exact qg
   obtain ⟨U3,xh⟩:∃ U3,U3=put U2 I.ib ⟨m7+1,t1.basis.map intA++[.prim (.int .i64 ((c+i:Nat):Int))]⟩:=⟨_,rfl⟩;have fd:U3.length=L+3:=by rw [xh,Am]; exact hl2
   have qd:entAt U3 S.length k=some [.ifc ua0 (rcvQ iq eq),.int (vars.length:Nat),.int (c:Nat),.sref I.ir m7 0 (i+1) 1,.sref (S.length+2) I.ec 0 W ua2,.sref I.ib I.eb 0 i 1,.frz (t1.flip.map Di) cp]:=by rw [xh,Ai aA]; exact j6
   obtain ⟨U4,xi⟩:∃ U4,U4=put U3 S.length ⟨k,[.ifc ua0 (rcvQ iq eq),.int (vars.length:Nat),.int (c:Nat),.sref I.ir m7 0 (i+1) 1,.sref (S.length+2) I.ec 0 W ua2,.sref I.ib (m7+1) 0 (i+1) 1,.frz (t1.flip.map Di) cp]⟩:=⟨_,rfl⟩;have sw:U4.length=L+3:=by rw [xi,Am]; exact fd
   have xe:entAt U4 S.length k=some [.ifc ua0 (rcvQ iq eq),.int (vars.length:Nat),.int (c:Nat),.sref I.ir m7 0 (i+1) 1,.sref (S.length+2) I.ec 0 W ua2,.sref I.ib (m7+1) 0 (i+1) 1,.frz (t1.flip.map Di) cp]:=by rw [xi]; exact Ah aA
   obtain ⟨SF,k7⟩:∃ SF,SF=put U4 S.length ⟨k,[.ifc ua0 (rcvQ iq eq),.int (vars.length:Nat),.int (c:Nat),.sref I.ir m7 0 (i+1) 1,.sref (S.length+2) I.ec 0 W ua2,.sref I.ib (m7+1) 0 (i+1) 1,.frz (t1.flip.map Di++[[.prim (.bool fb)]]) (Ay tk' cp 1)]⟩:=⟨_,rfl⟩;have hlF:SF.length=L+3:=by rw [k7,Am]; exact sw
   have a1n:=apB_one (y:=[.prim (.bool fb)]) ab hfo rfl md;have fg:apO prog ua13 (.sref I.ir I.er 0 i 1) (.lit 1 [.sref (L+1) (m0+1) 0 W ua2]) SW m7=some (.sref I.ir m7 0 (i+1) 1,U1,m7+1):=by rw [wa]; exact Aff aK rfl i9 i6 jt aA
   have uj:∀ cc:Cap,apO prog 58 (.sref I.ib I.eb 0 i 1) (.frz [[.prim (.int .i64 ((c+i:Nat):Int))]] cc) U2 (m7+1)=some (.sref I.ib (m7+1) 0 (i+1) 1,U3,m7+1+1):=fun cc=>by rw [xh]; exact Afe aK rfl hb2 xt jt aA
   have du:=xg.symm;have xj:=xi.symm;have hs5:=k7.symm;simp (maxSteps:=10^6)+contextual(disch:=try exact dqd)only[evg1,simprocAttr,Ca,Bo,Cb,ga29,e0,e1,e2,e7,e10,e11,e12,e14,e15,e16,e18,e19,e83,e84,e85,e194,e195,c2,l9,kz,ug,a1n,fg,uj,Qj,dv,j6,qd,xe,du,xj,hs5];have htF:entAt SF S.length k=some [.ifc ua0 (rcvQ iq eq),.int (vars.length:Nat),.int (c:Nat),.sref I.ir m7 0 (i+1) 1,.sref (S.length+2) I.ec 0 W ua2,.sref I.ib (m7+1) 0 (i+1) 1,.frz (t1.flip.map Di++[[.prim (.bool fb)]]) (Ay tk' cp 1)]:=by rw [k7]; exact Ah aA
   have hrF:entAt SF I.ir m7=some ((I.ids++[(L+1,m0+1)]).map (dp W ua2)):=by
    rw [k7,Ai aA,xi,Ai aA,xh,Ai (I8 hrb),xg,Ai aA,wa,Ah aA];simp [dp]
   have hbF:entAt SF I.ib (m7+1)=some ((t1.basis++[c+i]).map intA):=by
    rw [k7,Ai aA,xi,Ai aA,xh,Ah aA];simp [intA]
   have k8:∀ j,j<L+3->j≠S.length->(0<i->j≠I.ir/\j≠I.ib)->nth SF j=nth SW j:=fun j h1 h2 h3=>by
    have h4:=h3 jt;rw [k7,Ae (I8 h2),xi,Ae (I8 h2),xh,Ae (I8 h4.2),xg,Ae (I8 h2),wa,Ae (I8 h4.1)]
   have hIR:S.length+2<I.ir:=j9.1;have hIB:S.length+2<I.ib:=j9.2.1;have hAp:Apart ⟨I.it,I.et,I.ir,m7,I.ic,I.ec,I.ib,m7+1,I.ids++[(L+1,m0+1)]⟩ iq:=by
    refine ⟨bh.tr,bh.tc,bh.tb,bh.rc,bh.rb,bh.cb,bh.qt,bh.qr,bh.qc,bh.qb,fun q hq=>?_,fun a b x y hx hy hab=>?_⟩
    ·rcases Cu.1 hq with hq|hq
     ·exact bh.row q hq
     ·simp only [Ft] at hq;subst hq;simp only;exact ⟨aA,aA,aA,aA,aA⟩
    ·have h1:=Bl hx;have h2:=Bl hy;rw [Cn] at h1 h2;simp only [Cj,Cv] at h1 h2;rw [Af] at hx hy;by_cases ha:a<I.ids.length
     ·rw [Cy ha,<- Af] at hx;by_cases hb:b<I.ids.length
      ·rw [Cy hb,<- Af] at hy;exact bh.rows a b x y hx hy hab
      ·have hb2:b=I.ids.length:=aA
       rw [hb2,Fi (Ce _),Oj] at hy;simp only [Oa,Bg] at hy;subst hy;have:=ak.low.row x (Aj hx);simp only; omega
     ·have o7:a=I.ids.length:=aA
      have hb:b<I.ids.length:=aA
      rw [o7,Fi (Ce _),Oj] at hx;simp only [Oa,Bg] at hx;subst hx;rw [Cy hb,<- Af] at hy;have:=ak.low.row y (Aj hy);simp only; omega
   have hRA:Bf SF iq eq ⟨I.it,I.et,I.ir,m7,I.ic,I.ec,I.ib,(m7+1),I.ids++[(L+1,m0+1)]⟩ { t1 with rows:=t1.rows++[rowZ],cost:=p,basis:=t1.basis++[c+i],flip:=t1.flip++[fb],fl:=Cl (Cl t1.fl fr) fq } (Ay tk' cp 1):=by
    exact Yae
   refine Me rfl (back _ ⟨sl2,_,_,Ay tk' cp 1,aA,hR,hRA,by simp [ig],js,cq,j8,ky,d9,?_,?_,fun j h1 h2=>?_,⟨a8.1,a8.2.1,a8.2.2⟩,⟨hIR,hIB,fun q hq=>?_⟩,rfl,rfl,rfl,rfl,rfl,rfl,rfl,rfl,rfl,rfl,rfl⟩)
   ·exact Ya3n
   ·show _<=SF.length;omega
   ·exact Ya3o
   ·rcases Cu.1 hq with hq|hq
    ·exact j9.2.2 q hq
    ·simp only [Ft] at hq; subst hq; simp only; omega):p:=h
namespace QQ
theorem Av1:Ax21:=Ma21
end QQ
end
end
section
open Go Tryz
open Go.Proofs.Tryz renaming f115->ga28,results115->ga29
open Go.Proofs.YthelkgdmgihhiaaGreat renaming ceQ->ga0,A3->ga1,B4->ga5,Bb->ga6
set_option maxRecDepth 100000
set_option maxHeartbeats 20000000
set_option maxRecDepth 100000
section
variable (S:List Ent) (l:List RowT) (vars:List ByteArray) (fl:Bool) (k iq eq c W nz:Nat) (z:Q)
abbrev Ax22 (p:Prop:=by exact ∀ (S:List Ent)(l:List RowT)(vars:List ByteArray)(fl:Bool)(k iq eq c W nz:Nat)(z:Q)(hB:BegC S l vars iq c W)(oz:qF.ok z)(Φ:Rs->Prop)(i:Nat)(b6:i<l.length)(r:RowT)(hr:nth l i=some r)(sl:Nat)(o6:sl+neqs (l.drop i)=c)(t1:Tb)(I:TI)(cp:Cap)(tk:List Nat)(ig:t1.rows.length=i)(hcl:t1.cost.length=W)(cq:t1.real=c)(j8:t1.vars=vars.length)(ab:Be tk cp 1=true)(a8:I.it=S.length/\I.et=k/\I.ic=S.length+2)(j9:S.length+2<I.ir/\S.length+2<I.ib/\∀ p ∈ I.ids,S.length+2<p.1)(L m0 nu:Nat)(u:Q × Bool)(hU:Kz qF (Ee r)=u)(ou:qF.ok u.1)(SX:List Ent)(nx lv:Nat)(ii:Hd S SX iq eq I { t1 with fl:=Cl t1.fl u.2 } cp L nz m0 (m0+1) nu z r (Cg W z) u.1)(hR:Bz qF l vars fl=begS qF z vars c W (l.drop i) i sl t1)(back:∀ st,Ajl S l vars fl k iq eq c W nz z (i+1) st->Gd finM Φ (KA prog ga28 18 [] st))(T:List AV)(hT:T.length=270)(e0:getT T 0=.ifc ua0 (rcvQ iq eq))(e1:getT T 1=.frz (l.map rowC) .unk)(e2:getT T 2=.frz (vars.map strC) .unk)(e7:getT T 7=.ref S.length k 0)(e10:getT T 10=.int (sl:Nat))(e11:getT T 11=.int (W:Nat))(e12:getT T 12=.ref (S.length+1) nz 0)(e14:getT T 14=.int (i:Nat))(e15:getT T 15=.ref L m0 0)(e16:getT T 16=.sref (L+1) (m0+1) 0 W ua2)(e18:getT T 18=.prim (.bool (Ee r)))(e19:getT T 19=.ref (L+2) nu 0)(e83:getT T 83=.frz (l.map rowC) .unk)(e84:getT T 84=.int (l.length:Nat))(e85:getT T 85=.int (i:Nat))(e113:getT T 113=.frz (r.1.map Ar) .unk)(e114:getT T 114=.int (r.1.length:Nat))(e115:getT T 115=.int ((0:Nat):Int)),Gd finM Φ (KA prog ga28 31 [lv] ⟨T,SX,tk,nx⟩)):=p
theorem Ma22 {p:Prop} (h:p:=by
 intro S l vars fl k iq eq c W nz z hB oz Φ i b6 r hr sl o6 t1 I cp tk ig hcl cq j8 ab a8 j9 L m0 nu u hU ou SX nx lv ii hR back T hT e0 e1 e2 e7 e10 e11 e12 e14 e15 e16 e18 e19 e83 e84 e85 e113 e114 e115;have hB2:=hB;obtain ⟨hl,ly,hv,hc,gi,py,wj,ql⟩:=hB2;have hnl:=Pc l;have pz:r ∈ l:=Aj hr;have na:i64 r.2.1:=(hc r pz).1;refine Wl rfl (t:=.mk) ?_;refine Ef (P:=prog) (fun x st=>st.T.length=270/\(x.2.2.1<=r.1.length)/\(coefsC qF u.1 z vars r.1 (Cg W z)=((coefsC qF u.1 z vars (r.1.drop x.2.2.1) x.2.2.2.1).1,Cl x.2.2.2.2 (coefsC qF u.1 z vars (r.1.drop x.2.2.1) x.2.2.2.1).2))/\(x.2.2.2.1.length=W)/\(okL qF x.2.2.2.1)/\(Hd S x.1 iq eq I { t1 with fl:=Cl (Cl t1.fl u.2) x.2.2.2.2 } cp L nz m0 (m0+1) nu z r x.2.2.2.1 u.1)/\getT st.T 0=.ifc ua0 (rcvQ iq eq)/\getT st.T 1=.frz (l.map rowC) .unk/\getT st.T 2=.frz (vars.map strC) .unk/\getT st.T 7=.ref S.length k 0/\getT st.T 10=.int (sl:Nat)/\getT st.T 11=.int (W:Nat)/\getT st.T 12=.ref (S.length+1) nz 0/\getT st.T 14=.int (i:Nat)/\getT st.T 15=.ref L m0 0/\getT st.T 16=.sref (L+1) (m0+1) 0 W ua2/\getT st.T 18=.prim (.bool (Ee r))/\getT st.T 19=.ref (L+2) nu 0/\getT st.T 83=.frz (l.map rowC) .unk/\getT st.T 84=.int (l.length:Nat)/\getT st.T 85=.int (i:Nat)/\getT st.T 113=.frz (r.1.map Ar) .unk/\getT st.T 114=.int (r.1.length:Nat)/\getT st.T 115=.int (x.2.2.1:Nat)/\st.S=x.1/\st.tk=tk/\st.n=x.2.1) (fun x=>r.1.length - x.2.2.1) (SX,nx,0,(Cg W z),false) ?_ ?_;case refine_2=>exact ⟨aH,Ci _,rfl,by simp,fun q hq=>by rw [It] at hq; rw [hq.2]; exact oz,by simp only [F5]; exact ii,aH,aH,aH,aH,aH,aH,aH,aH,aH,aH,aH,aH,aH,aH,aH,aH,aH,aH,aH,aH,aH⟩
 rintro ⟨SS,n1,j,row,f1⟩ ⟨T,S',tk',n'⟩ ⟨hl,mw,rz,dk,orow,ii,e0,e1,e2,e7,e10,e11,e12,e14,e15,e16,e18,e19,e83,e84,e85,e113,e114,e115,eS,eT,eN⟩ IH;simp only at mw rz dk orow ii e0 e1 e2 e7 e10 e11 e12 e14 e15 e16 e18 e19 e83 e84 e85 e113 e114 e115 eS eT eN;subst eS eT eN;obtain ⟨g,hg,hT⟩:=Ap hl;rw [hg] at e0 e1 e2 e7 e10 e11 e12 e14 e15 e16 e18 e19 e83 e84 e85 e113 e114 e115;subst hT;clear hg hl;have i8:=gi r pz;by_cases re:j<r.1.length
 ·have c2:decide ((j:Int)<(r.1.length:Int))=true:=dX
  have hw:B8.wrap ((j:Int)+1)=((j+1:Nat):Int):=aS
  obtain ⟨ct,zt⟩:=Ab re;have a1o:nth (r.1.map Ar) j=some [.prim (.string ct.1),.prim (.int .i64 ct.2)]:=by rw [Dd,zt]; rfl
  have zu:ct ∈ r.1:=Aj zt;have om:=P9 (hv r pz ct zu);obtain ⟨x,hx⟩:∃ x,x=idxV vars ct.1:=⟨_,rfl⟩;rw [<- hx] at om;have r6:=fun S tk k=>Xs S tk k vars ct.1 aA;simp only [om.1] at r6;have hb1:2*x<W:=aA
  have hb2:2*x+1<W:=aA
  have a1p:B8.wrap (2*(x:Int))=((2*x:Nat):Int):=aS
  have a1q:B8.wrap (((2*x:Nat):Int)+1)=((2*x+1:Nat):Int):=aS
  have rt:=Ax zt;have hlX:=ii.len;have ff:=ii.T.fa;have zw:i64 ct.2:=(hc r pz).2 ct zu;obtain ⟨w,lz⟩:∃ w,w=qF.whole ct.2:=⟨_,rfl⟩;have ow:qF.ok w.1:=by rw [lz]; exact Gl _ zw
  have j5:=Mw (S'++[(⟨n',[.prim (.string ct.1),.prim (.int .i64 ct.2)]⟩:Ent)]) tk' (n'+1) iq eq _ ct.2 zw ff.app;have hg1:=E5 (c:=w.2) (ff.app (L:=[(⟨n',[.prim (.string ct.1),.prim (.int .i64 ct.2)]⟩:Ent)]));rw [<- lz] at j5;rw [H8 ff] at j5 hg1;obtain ⟨S1a,m9⟩:∃ S1a,S1a=flS S' iq eq w.2:=⟨_,rfl⟩;have ka:=ii.flag (S':=flS S' iq eq w.2) (fun j hj=>ga6 hj) Br ff.fS;rw [<- m9] at j5 hg1 ka;have jb:=ka.T.fa;obtain ⟨y,nd⟩:∃ y,y=qF.times u.1 w.1:=⟨_,rfl⟩;have oy:qF.ok y.1:=Za32
  have ma:=Ahg (S1a++[(⟨n',[.prim (.string ct.1),.prim (.int .i64 ct.2)]⟩:Ent)]) tk' (n'+1+ua3) iq eq _ u.1 w.1 ou ow jb.app;have hg2:=E5 (c:=y.2) (jb.app (L:=[(⟨n',[.prim (.string ct.1),.prim (.int .i64 ct.2)]⟩:Ent)]));rw [<- nd] at ma;rw [H8 jb] at ma hg2;obtain ⟨S2a,a1r⟩:∃ S2a,S2a=flS S1a iq eq y.2:=⟨_,rfl⟩;have fi:=ka.flag (S':=flS S1a iq eq y.2) (fun j hj=>ga6 hj) Br jb.fS;rw [<- a1r] at ma hg2 fi;have jq:=fi.put (put row (2*x) y.1);obtain ⟨S3a,zx⟩:∃ S3a,S3a=put S2a (L+1) ⟨m0+1,flat ga0 (put row (2*x) y.1)⟩:=⟨_,rfl⟩;rw [<- zx] at jq;have a38:=fi.len;have hP3:∀ e:Ent,put (S2a++[e]) (L+1) ⟨m0+1,flat ga0 (put row (2*x) y.1)⟩=S3a++[e]:=fun e=>by rw [Dq aA,zx]
  have ik:=jq.T.fa;obtain ⟨d,jf⟩:∃ d,d=qF.minus z y.1:=⟨_,rfl⟩;have od:qF.ok d.1:=Za33
  have fe:=Nv (S3a++[(⟨n',[.prim (.string ct.1),.prim (.int .i64 ct.2)]⟩:Ent)]) tk' (n'+1+ua3+ua4) iq eq _ z y.1 oz oy ik.app;have hg3:=E5 (c:=d.2) (ik.app (L:=[(⟨n',[.prim (.string ct.1),.prim (.int .i64 ct.2)]⟩:Ent)]));rw [<- jf] at fe;rw [H8 ik] at fe hg3;obtain ⟨S4a,a1s⟩:∃ S4a,S4a=flS S3a iq eq d.2:=⟨_,rfl⟩;have zy:=jq.flag (S':=flS S3a iq eq d.2) (fun j hj=>ga6 hj) Br ik.fS;rw [<- a1s] at fe hg3 zy;have a39:=zy.len;have mb:=zy.put (put (put row (2*x) y.1) (2*x+1) d.1);obtain ⟨S5a,k9⟩:∃ S5a,S5a=put S4a (L+1) ⟨m0+1,flat ga0 (put (put row (2*x) y.1) (2*x+1) d.1)⟩:=⟨_,rfl⟩;rw [<- k9] at mb;have hP5:∀ e:Ent,put (S4a++[e]) (L+1) ⟨m0+1,flat ga0 (put (put row (2*x) y.1) (2*x+1) d.1)⟩=S5a++[e]:=fun e=>by rw [Dq aA,k9]
  have hl5:=mb.len;have mz:∀ e:Ent,Ob S'.length (S5a++[e])=S5a:=fun e=>by rw [hlX,<- hl5]; simp
  have zl:∀ e:Ent,entAt (S'++[e]) (L+2) nu=some (ga0 u.1):=fun e=>Ad ii.E19;have xd:∀ e:Ent,entAt (S2a++[e]) (L+1) (m0+1)=some (flat ga0 row):=fun e=>Ad fi.E16;have hE3:∀ e:Ent,entAt (S3a++[e]) (S.length+1) nz=some (ga0 z):=fun e=>Ad jq.Z;have uc:∀ e:Ent,entAt (S3a++[e]) (L+1) (m0+1)=some (flat ga0 (put row (2*x) y.1)):=fun e=>Ad jq.E16;have ud:∀ e:Ent,entAt (S4a++[e]) (L+1) (m0+1)=some (flat ga0 (put row (2*x) y.1)):=fun e=>Ad zy.E16;have i5:=Bn (ce:=ga0) ga1 (l:=row) (k:=2*x) (q':=y.1) aA;have kn:=Bn (ce:=ga0) ga1 (l:=put row (2*x) y.1) (k:=2*x+1) (q':=d.1) (by rw [Ak]; omega);have htx:=Au (ce:=ga0) ga1 (l:=put row (2*x) y.1) (k:=2*x) (q:=y.1) (Dm aA);simp (maxSteps:=10^6)+contextual(disch:=try exact dqd)only[evg1,simprocAttr,Ca,Bo,Cb,ga29,e0,e1,e2,e7,e10,e11,e12,e14,e15,e16,e18,e19,e83,e84,e85,e113,e114,e115,c2,hw,a1o,r6,a1p,a1q,hb1,hb2,j5,hg1,ma,hg2,hP3,fe,hg3,hP5,mz,zl,xd,hE3,uc,ud,i5,kn,htx,Gq,xfs,puQ,tkQ,ga1,ga5];have hsc:setC qF u.1 z (idxV vars ct.1) row ct.2=(put (put row (2*x) y.1) (2*x+1) d.1,Cl (Cl w.2 y.2) d.2):=by unfold setC; rw [<- hx,<- lz,<- nd,<- jf]
  rw [rt] at rz;simp only [coefsC,hsc] at rz;have orow2:okL qF (put (put row (2*x) y.1) (2*x+1) d.1):=by
   intro q hq;rcases Bx hq with rfl|hq
   ·exact od
   ·rcases Bx hq with rfl|hq
    ·exact oy
    ·exact orow q hq
  exact IH (S5a,n'+1+ua3+ua4+ua4,j+1,put (put row (2*x) y.1) (2*x+1) d.1,Cl f1 (Cl (Cl w.2 y.2) d.2)) _ aF ⟨rfl,aE,by rw [rz]; simp only [Gr],by rw [Ak,Ak]; exact dk,orow2,by simpa only [Gr] using mb,bZ⟩
 ·have c2:decide ((j:Int)<(r.1.length:Int))=false:=dX
  have wd:r.1.drop j=[]:=Fm aA;rw [wd] at rz;simp only [coefsC,F5] at rz;clear IH wd re mw;obtain ⟨n6,hn6⟩:∃ n6,n6=n':=⟨_,rfl⟩;subst hn6;obtain ⟨SU,hSU⟩:∃ SU,SU=S':=⟨_,rfl⟩;subst hSU;have zz:=Qn hr;have ng:=ii.E15;have r7:=ii.E19;have fo:=ii.E16;simp only [rowC,Ag] at ng;have hlU:=ii.len;cases heq:r.2.2
  ·rw [heq,if_neg Iw] at zz;have dy:sl<W:=aA
   have du:=Bn (ce:=ga0) ga1 (l:=row) (k:=sl) (q':=u.1) aA;have pw:B8.wrap ((sl:Int)+1)=((sl+1:Nat):Int):=aS
   have ak:=ii.put (put row sl u.1);obtain ⟨rowY,df⟩:∃ rowY,rowY=put row sl u.1:=⟨_,rfl⟩;have hsF:Q3 r.2.2 row sl u.1=rowY:=by rw [df,heq]; rfl
   have uk:rowY.length=W:=by rw [df,Ak]; exact dk
   have orowY:okL qF rowY:=by
    rw [df];intro q hq;rcases Bx hq with rfl|hq
    ·exact ou
    ·exact orow q hq
   rw [<- df] at du ak;obtain ⟨SY,z6⟩:∃ SY,SY=put SU (L+1) ⟨m0+1,flat ga0 rowY⟩:=⟨_,rfl⟩;rw [<- z6] at ak;have xj:=z6.symm;obtain ⟨sl2,z7⟩:∃ sl2,sl2=sl+1:=⟨_,rfl⟩;have ul:(if r.2.2=true then sl else sl+1)=sl2:=by rw [heq,z7]; rfl
   have ky:sl2+neqs (l.drop (i+1))=c:=aA
   rw [<- z7] at pw;clear z6;have z8:=ak.T.top;simp only [a8.1,a8.2.1,a8.2.2,hcl,cq,j8,ig,intA] at z8;have ww:c+i<W:=aA
   have kz:B8.wrap ((c:Int)+(i:Int))=((c+i:Nat):Int):=aS
   have uf:B8.wrap ((W:Int) - 1)=((W - 1:Nat):Int):=aP
   have gj:W - 1<W:=aA
   have ff:=ak.T.fa;obtain ⟨o,ph⟩:∃ o,o=qF.whole 1:=⟨_,rfl⟩;have oo:qF.ok o.1:=by rw [ph]; exact Gl 1 aD
   have un:=Mw SY tk' n6 iq eq _ 1 aD ff;have kt:=E5 (c:=o.2) ff;rw [<- ph] at un;obtain ⟨S5a,k9⟩:∃ S5a,S5a=flS SY iq eq o.2:=⟨_,rfl⟩;have mb:=ak.flag (S':=flS SY iq eq o.2) (fun j hj=>ga6 hj) Br ff.fS;rw [<- k9] at un kt mb;have ho5:=Bn (ce:=ga0) ga1 (l:=rowY) (k:=c+i) (q':=o.1) aA;have jc:=mb.put (put rowY (c+i) o.1);obtain ⟨row6,dh⟩:∃ row6,row6=put rowY (c+i) o.1:=⟨_,rfl⟩;have uo:row6.length=W:=by rw [dh,Ak]; exact uk
   obtain ⟨S6a,nh⟩:∃ S6a,S6a=put S5a (L+1) ⟨m0+1,flat ga0 row6⟩:=⟨_,rfl⟩;rw [<- dh] at ho5 jc;rw [<- nh] at jc;have ni:=mb.E16;have jb:=jc.T.fa;have hZ6:=jc.Z;have il:=jc.E15;have nj:=jc.E19;simp only [rowC,Ag] at il;obtain ⟨w,lz⟩:∃ w,w=qF.whole r.2.1:=⟨_,rfl⟩;have ow:qF.ok w.1:=by rw [lz]; exact Gl _ na
   have j5:=Mw S6a tk' (n6+ua3) iq eq _ r.2.1 na jb;have hg1:=E5 (c:=w.2) jb;rw [<- lz] at j5;obtain ⟨S7a,up⟩:∃ S7a,S7a=flS S6a iq eq w.2:=⟨_,rfl⟩;have r8:=jc.flag (S':=flS S6a iq eq w.2) (fun j hj=>ga6 hj) Br jb.fS;rw [<- up] at j5 hg1 r8;have ik:=r8.T.fa;obtain ⟨y,nd⟩:∃ y,y=qF.times u.1 w.1:=⟨_,rfl⟩;have oy:qF.ok y.1:=Za32
   have ma:=Ahg S7a tk' (n6+ua3+ua3) iq eq _ u.1 w.1 ou ow ik;have hg2:=E5 (c:=y.2) ik;rw [<- nd] at ma;obtain ⟨S8a,uq⟩:∃ S8a,S8a=flS S7a iq eq y.2:=⟨_,rfl⟩;have r9:=r8.flag (S':=flS S7a iq eq y.2) (fun j hj=>ga6 hj) Br ik.fS;rw [<- uq] at ma hg2 r9;have ur:=r9.T.fa;obtain ⟨d,jf⟩:∃ d,d=qF.minus z y.1:=⟨_,rfl⟩;have od:qF.ok d.1:=Za33
   have fe:=Nv S8a tk' (n6+ua3+ua3+ua4) iq eq _ z y.1 oz oy ur;have hg3:=E5 (c:=d.2) ur;rw [<- jf] at fe;obtain ⟨S9a,uu⟩:∃ S9a,S9a=flS S8a iq eq d.2:=⟨_,rfl⟩;have uv:=r9.flag (S':=flS S8a iq eq d.2) (fun j hj=>ga6 hj) Br ur.fS;rw [<- uu] at fe hg3 uv;have ho9:=Bn (ce:=ga0) ga1 (l:=row6) (k:=W - 1) (q':=d.1) aA;have nk:=uv.E16;have uw:=uv.put (put row6 (W - 1) d.1);obtain ⟨rowZ,di⟩:∃ rowZ,rowZ=put row6 (W - 1) d.1:=⟨_,rfl⟩;have qo:rowZ.length=W:=by rw [di,Ak]; exact uo
   have orowZ:okL qF rowZ:=by
    exact Ya1t
   obtain ⟨SZ,hSZ⟩:∃ SZ,SZ=put S9a (L+1) ⟨m0+1,flat ga0 rowZ⟩:=⟨_,rfl⟩;rw [<- di] at ho9 uw;rw [<- hSZ] at uw;have fk:Vj qF u.1 z r.2.1=(d.1,Cl (Cl w.2 y.2) d.2):=by unfold Vj; rw [<- lz,<- nd,<- jf]
   have io:rowF qF z vars c W i sl r=(rowZ,Cl (Cl (Cl u.2 f1) o.2) (Cl (Cl w.2 y.2) d.2)):=by
    unfold rowF;simp only [hU,rz,fk,hsF,<- ph,<- dh,<- di]
   obtain ⟨fr,np⟩:∃ fr,fr=Cl (Cl (Cl u.2 f1) o.2) (Cl (Cl w.2 y.2) d.2):=⟨_,rfl⟩;rw [<- np] at io;have m8:Hd S SZ iq eq I { t1 with fl:=Cl t1.fl fr } cp L nz m0 (m0+1) nu z r rowZ u.1:=by
    rw [np];simpa only [Gr] using uw
   have uz:=nh.symm;have u3:=hSZ.symm;simp (maxSteps:=10^6)+contextual(disch:=try exact dqd)only[evg1,simprocAttr,Ca,Bo,Cb,ga29,e0,e1,e2,e7,e10,e11,e12,e14,e15,e16,e18,e19,e83,e84,e85,e113,e114,e115,c2,ng,r7,fo,heq,dy,du,pw,xj,z8,ww,kz,uf,gj,un,kt,ho5,ni,uz,hZ6,il,nj,j5,hg1,ma,hg2,fe,hg3,ho9,nk,u3,Gq,xfs,puQ,tkQ,ga1,ga5];have my:begS qF z vars c W (l.drop i) i sl t1=begS qF z vars c W (l.drop (i+1)) (i+1) sl2 { t1 with rows:=t1.rows++[rowZ],cost:=(costL qF c W 0 t1.cost rowZ).1,basis:=t1.basis++[c+i],flip:=t1.flip++[Ee r],fl:=Cl (Cl t1.fl fr) (costL qF c W 0 t1.cost rowZ).2 }:=by
    rw [Ax hr];simp only [begS,cq];rw [io,ul]
   rw [my] at hR;exact Me rfl (Av1 S l vars fl k iq eq c W nz z hB Φ i b6 r hr sl2 ky t1 I cp tk' ig hcl cq j8 ab a8 j9 rowZ fr qo orowZ L m0 nu u (Ee r) rfl SZ _ _ m8 hR back _ rfl rfl rfl rfl rfl rfl rfl rfl rfl rfl rfl rfl rfl rfl rfl rfl rfl rfl)
  ·rw [heq,if_pos rfl] at zz;have dy:0<W:=aA
   have du:=dy;have pw:=dy;have xj:=dy;have ak:=ii;obtain ⟨rowY,df⟩:∃ rowY,rowY=row:=⟨_,rfl⟩;have hsF:Q3 r.2.2 row sl u.1=rowY:=by rw [df,heq]; rfl
   have uk:rowY.length=W:=by rw [df]; exact dk
   have orowY:okL qF rowY:=by rw [df]; exact orow
   rw [<- df] at ak;obtain ⟨SY,z6⟩:∃ SY,SY=SU:=⟨_,rfl⟩;subst z6;have ul:(if r.2.2=true then sl else sl+1)=sl:=by rw [heq]; rfl
   have ky:sl+neqs (l.drop (i+1))=c:=aA
   have z8:=ak.T.top;simp only [a8.1,a8.2.1,a8.2.2,hcl,cq,j8,ig,intA] at z8;have ww:c+i<W:=aA
   have kz:B8.wrap ((c:Int)+(i:Int))=((c+i:Nat):Int):=aS
   have uf:B8.wrap ((W:Int) - 1)=((W - 1:Nat):Int):=aP
   have gj:W - 1<W:=aA
   have ff:=ak.T.fa;obtain ⟨o,ph⟩:∃ o,o=qF.whole 1:=⟨_,rfl⟩;have oo:qF.ok o.1:=by rw [ph]; exact Gl 1 aD
   have un:=Mw SY tk' n6 iq eq _ 1 aD ff;have kt:=E5 (c:=o.2) ff;rw [<- ph] at un;obtain ⟨S5a,k9⟩:∃ S5a,S5a=flS SY iq eq o.2:=⟨_,rfl⟩;have mb:=ak.flag (S':=flS SY iq eq o.2) (fun j hj=>ga6 hj) Br ff.fS;rw [<- k9] at un kt mb;have ho5:=Bn (ce:=ga0) ga1 (l:=rowY) (k:=c+i) (q':=o.1) aA;have jc:=mb.put (put rowY (c+i) o.1);obtain ⟨row6,dh⟩:∃ row6,row6=put rowY (c+i) o.1:=⟨_,rfl⟩;have uo:row6.length=W:=by rw [dh,Ak]; exact uk
   obtain ⟨S6a,nh⟩:∃ S6a,S6a=put S5a (L+1) ⟨m0+1,flat ga0 row6⟩:=⟨_,rfl⟩;rw [<- dh] at ho5 jc;rw [<- nh] at jc;have ni:=mb.E16;have jb:=jc.T.fa;have hZ6:=jc.Z;have il:=jc.E15;have nj:=jc.E19;simp only [rowC,Ag] at il;obtain ⟨w,lz⟩:∃ w,w=qF.whole r.2.1:=⟨_,rfl⟩;have ow:qF.ok w.1:=by rw [lz]; exact Gl _ na
   have j5:=Mw S6a tk' (n6+ua3) iq eq _ r.2.1 na jb;have hg1:=E5 (c:=w.2) jb;rw [<- lz] at j5;obtain ⟨S7a,up⟩:∃ S7a,S7a=flS S6a iq eq w.2:=⟨_,rfl⟩;have r8:=jc.flag (S':=flS S6a iq eq w.2) (fun j hj=>ga6 hj) Br jb.fS;rw [<- up] at j5 hg1 r8;have ik:=r8.T.fa;obtain ⟨y,nd⟩:∃ y,y=qF.times u.1 w.1:=⟨_,rfl⟩;have oy:qF.ok y.1:=Za32
   have ma:=Ahg S7a tk' (n6+ua3+ua3) iq eq _ u.1 w.1 ou ow ik;have hg2:=E5 (c:=y.2) ik;rw [<- nd] at ma;obtain ⟨S8a,uq⟩:∃ S8a,S8a=flS S7a iq eq y.2:=⟨_,rfl⟩;have r9:=r8.flag (S':=flS S7a iq eq y.2) (fun j hj=>ga6 hj) Br ik.fS;rw [<- uq] at ma hg2 r9;have ur:=r9.T.fa;obtain ⟨d,jf⟩:∃ d,d=qF.minus z y.1:=⟨_,rfl⟩;have od:qF.ok d.1:=Za33
   have fe:=Nv S8a tk' (n6+ua3+ua3+ua4) iq eq _ z y.1 oz oy ur;have hg3:=E5 (c:=d.2) ur;rw [<- jf] at fe;obtain ⟨S9a,uu⟩:∃ S9a,S9a=flS S8a iq eq d.2:=⟨_,rfl⟩;have uv:=r9.flag (S':=flS S8a iq eq d.2) (fun j hj=>ga6 hj) Br ur.fS;rw [<- uu] at fe hg3 uv;have ho9:=Bn (ce:=ga0) ga1 (l:=row6) (k:=W - 1) (q':=d.1) aA;have nk:=uv.E16;have uw:=uv.put (put row6 (W - 1) d.1);obtain ⟨rowZ,di⟩:∃ rowZ,rowZ=put row6 (W - 1) d.1:=⟨_,rfl⟩;have qo:rowZ.length=W:=by rw [di,Ak]; exact uo
   have orowZ:okL qF rowZ:=by
    exact Ya1t
   obtain ⟨SZ,hSZ⟩:∃ SZ,SZ=put S9a (L+1) ⟨m0+1,flat ga0 rowZ⟩:=⟨_,rfl⟩;rw [<- di] at ho9 uw;rw [<- hSZ] at uw;have fk:Vj qF u.1 z r.2.1=(d.1,Cl (Cl w.2 y.2) d.2):=by unfold Vj; rw [<- lz,<- nd,<- jf]
   have io:rowF qF z vars c W i sl r=(rowZ,Cl (Cl (Cl u.2 f1) o.2) (Cl (Cl w.2 y.2) d.2)):=by
    unfold rowF;simp only [hU,rz,fk,hsF,<- ph,<- dh,<- di]
   obtain ⟨fr,np⟩:∃ fr,fr=Cl (Cl (Cl u.2 f1) o.2) (Cl (Cl w.2 y.2) d.2):=⟨_,rfl⟩;rw [<- np] at io;have m8:Hd S SZ iq eq I { t1 with fl:=Cl t1.fl fr } cp L nz m0 (m0+1) nu z r rowZ u.1:=by
    rw [np];simpa only [Gr] using uw
   have uz:=nh.symm;have u3:=hSZ.symm;simp (maxSteps:=10^6)+contextual(disch:=try exact dqd)only[evg1,simprocAttr,Ca,Bo,Cb,ga29,e0,e1,e2,e7,e10,e11,e12,e14,e15,e16,e18,e19,e83,e84,e85,e113,e114,e115,c2,ng,r7,fo,heq,dy,du,pw,xj,z8,ww,kz,uf,gj,un,kt,ho5,ni,uz,hZ6,il,nj,j5,hg1,ma,hg2,fe,hg3,ho9,nk,u3,Gq,xfs,puQ,tkQ,ga1,ga5];have my:begS qF z vars c W (l.drop i) i sl t1=begS qF z vars c W (l.drop (i+1)) (i+1) sl { t1 with rows:=t1.rows++[rowZ],cost:=(costL qF c W 0 t1.cost rowZ).1,basis:=t1.basis++[c+i],flip:=t1.flip++[Ee r],fl:=Cl (Cl t1.fl fr) (costL qF c W 0 t1.cost rowZ).2 }:=by
    rw [Ax hr];simp only [begS,cq];rw [io,ul]
   rw [my] at hR;exact Me rfl (Av1 S l vars fl k iq eq c W nz z hB Φ i b6 r hr sl ky t1 I cp tk' ig hcl cq j8 ab a8 j9 rowZ fr qo orowZ L m0 nu u (Ee r) rfl SZ _ _ m8 hR back _ rfl rfl rfl rfl rfl rfl rfl rfl rfl rfl rfl rfl rfl rfl rfl rfl rfl rfl)):p:=h
namespace QQ
theorem Av3:Ax22:=Ma22
end QQ
end
end
section
open Go Tryz
open Go.Proofs.Tryz renaming f115->ga28,results115->ga29,func115->ga30,ntmps115->ga31
open Go.Proofs.YthelkgdmgihhiaaGreat renaming ceQ->ga0,A3->ga1,B4->ga5,Bb->ga6
set_option maxRecDepth 100000
namespace QQ
abbrev ua14:Nat:=115
end QQ
set_option maxHeartbeats 20000000
set_option maxRecDepth 100000
namespace QQ
def Pm (iq eq:Nat) (n real:Nat) (rows cost basis flip:AV):List AV:=[.ifc 118 (rcvQ iq eq),.int (n:Nat),.int (real:Nat),rows,cost,basis,flip]
end QQ
theorem Yw {a z:List AV} {j m:Nat} (h:j<m):nth (Cg j a++Cg (m - j) z) j=some z/\put (Cg j a++Cg (m - j) z) j a=Cg (j+1) a++Cg (m - (j+1)) z:=by
 have e:Cg (m - j) z=z :: Cg (m - (j+1)) z:=by rw [<- Oo]; congr 1; omega
 have hl:(Cg j a).length=j:=by simp
 rw [e];have h1:=Eg (p:=Cg j a) (u:=Cg (m - (j+1)) z) (x:=z);have h2:=Gi (p:=Cg j a) (u:=Cg (m - (j+1)) z) (x:=z) (y:=a);rw [hl] at h1 h2;refine ⟨h1,?_⟩;rw [h2,List.replicate_succ'];simp
theorem U6 {sz:Nat} {a z:List AV} {j m:Nat} (h:j<m) (ha:a.length=sz) (hz:z.length=sz):over (Cg j a++Cg (m - j) z).flatten (j*sz) a=some (Cg (j+1) a++Cg (m - (j+1)) z).flatten:=by
 have h1:=Yw (a:=a) (z:=z) h;rw [<- h1.2];refine P6 (e:=z) (fun e he=>?_) h1.1 ha;rcases Cu.1 he with h|h
 ·rw [It] at h; rw [h.2,ha]
 ·rw [It] at h; rw [h.2,hz]
theorem Yz {ce:Q->List AV} {W:Nat} {z:Q} : (Cg W (ce z)).flatten=flat ce (Cg W z):=by unfold flat; rw [lE]
namespace QQ
theorem mk_Q {W:Nat} (h:W<=1048576):mkA prog 178 (.int (W:Nat)) (.int (W:Nat))=some (W,2,(Cg W zeroQ).flatten):=by
 have hz:(A6 prog 178).bind (A2 prog)=some zeroQ:=aT
 have hs:(A6 prog 178).bind (szOf prog)=some 2:=aT
 obtain ⟨bb,hb,xt⟩:∃ bb,(A6 prog 178).bind (Ey prog)=some bb/\bb<=1048576:=⟨16,aK,aA⟩;exact Ya2o
def Aou (S:List Ent) (iq eq:Nat) (t':Tb) (r:Rs):Prop :=
 ∃ S' k' tk' I cc,r=(.ref I.it I.et 0,S',tk',k')/\S.length<=S'.length/\Bf S' iq eq I t' cc/\(∀ j,j<S.length->j≠iq->nth S' j=nth S j)/\(∀ j,j<S.length->j≠iq->OutQ I iq j)
end QQ
section
variable (S:List Ent) (tk:List Nat) (k iq eq:Nat)
abbrev Ax23 (p:Prop:=by exact ∀ (S:List Ent)(tk:List Nat)(k iq eq:Nat)(l:List RowT)(fl:Bool)(hl:l.length<=1000)(hn:(Dx l).length<=1000)(vars:List ByteArray)(ly:vars.length<=1000)(hv:∀ r ∈ l,∀ c ∈ r.1,c.1 ∈ vars)(hc:∀ r ∈ l,i64 r.2.1/\∀ c ∈ r.1,i64 c.2)(gi:fewC l)(py:iq<S.length)(hf:FAq S iq eq fl),∃ r,cL prog ua14 [.ifc ua0 (rcvQ iq eq),Ao l,Aq vars] S tk k=some r/\Aou S iq eq (Bz qF l vars fl) r):=p
theorem Ma23 {p:Prop} (h:p:=by
 intro S tk k iq eq l fl hl hn vars ly hv hc gi py hf;obtain ⟨Φ,hΦ⟩:∃ Φ,Φ=Aou S iq eq (Bz qF l vars fl):=⟨_,rfl⟩;rw [<- hΦ];have hw2:B8.wrap (2*(vars.length:Int))=((2*vars.length:Nat):Int):=aS
 refine opM ga30 ga31 ?_;simp (maxSteps:=10^6)+contextual(disch:=try exact dqd)only[evg1,simprocAttr,Ca,Bo,Cb,ga29,Ao,Aq,hw2];have a2v:∀ c,[AV.ifc ua0 (rcvQ iq eq),.int (vars.length:Nat),.int (c:Nat),.frz [] .nilc,.frz [] .nilc,.frz [] .nilc,.frz [] .nilc]=Pm iq eq vars.length c (.frz [] .nilc) (.frz [] .nilc) (.frz [] .nilc) (.frz [] .nilc):=fun _=>rfl;refine Ef (P:=prog) (fun x st=>st.T.length=270/\(x.2.2<=l.length)/\(x.2.1+neqs (l.drop x.2.2)=2*vars.length+neqs l)/\getT st.T 0=.ifc ua0 (rcvQ iq eq)/\getT st.T 1=.frz (l.map rowC) .unk/\getT st.T 2=.frz (vars.map strC) .unk/\getT st.T 7=.ref S.length k 0/\getT st.T 32=.frz (l.map rowC) .unk/\getT st.T 33=.int (l.length:Nat)/\getT st.T 34=.int (x.2.2:Nat)/\st.S=S++[⟨k,Pm iq eq vars.length x.2.1 (.frz [] .nilc) (.frz [] .nilc) (.frz [] .nilc) (.frz [] .nilc)⟩]/\st.tk=tk/\st.n=x.1) (fun x=>l.length - x.2.2) ((k+1),(2*vars.length),0) ?_ ?_;case refine_2=>exact ⟨rfl,Ci _,rfl,rfl,rfl,rfl,rfl,rfl,rfl,rfl,rfl,rfl,rfl⟩
 rintro ⟨n1,c,q⟩ ⟨T,S',tk',n'⟩ ⟨hl,hq,xp,e0,e1,e2,e7,e32,e33,e34,eS,eT,eN⟩ IH;simp only at hq xp e0 e1 e2 e7 e32 e33 e34 eS eT eN;subst eS eT eN;obtain ⟨g,hg,hT⟩:=Ap hl;rw [hg] at e0 e1 e2 e7 e32 e33 e34;subst hT;clear hg hl;have hnl:=Pc l;have a1t:∀ x y z:Ent,Ob (S++[x]).length (S++[y]++[z])=S++[y]:=fun x y z=>by
  have e:(S++[x]).length=(S++[y]).length:=by simp
  rw [e,List.take_left]
 by_cases hql:q<l.length
 ·have c1:decide ((q:Int)<(l.length:Int))=true:=by simpa using hql
  have hw:B8.wrap ((q:Int)+1)=((q+1:Nat):Int):=aS
  obtain ⟨r,hr⟩:=Ab hql;have ju:=Lg hr;have xu:=Qn hr;have zl:entAt (S++[⟨k,Pm iq eq vars.length c (.frz [] .nilc) (.frz [] .nilc) (.frz [] .nilc) (.frz [] .nilc)⟩]++[⟨n',rowC r⟩]) S.length k=some (Pm iq eq vars.length c (.frz [] .nilc) (.frz [] .nilc) (.frz [] .nilc) (.frz [] .nilc)):=Ad Bm;cases he:r.2.2 with
  | true =>
   rw [he,if_pos rfl] at xu;simp (maxSteps:=10^6)+contextual(disch:=try exact dqd)only[evg1,simprocAttr,Ca,Bo,Cb,ga29,e0,e1,e2,e7,e32,e33,e34,c1,hw,ju,rowC,Ag,he];exact IH (n'+1,c,q+1) _ aF ⟨rfl,aE,aE,bZ⟩
  | false =>
   rw [he,if_neg Iw] at xu;have hw3:B8.wrap ((c:Int)+1)=((c+1:Nat):Int):=aS
   simp (maxSteps:=10^6)+contextual(disch:=try exact dqd)only[evg1,simprocAttr,Ca,Bo,Cb,ga29,e0,e1,e2,e7,e32,e33,e34,c1,hw,hw3,ju,rowC,Ag,he,Pm,a1t];exact IH (n'+1,c+1,q+1) _ aF ⟨rfl,aE,aE,bZ⟩
 ·have c1:decide ((q:Int)<(l.length:Int))=false:=by simpa using hql
  have wj:c=2*vars.length+neqs l:=by
   have h0:l.drop q=[]:=Fm aA;rw [h0] at xp;have h00:neqs ([]:List RowT)=0:=rfl;omega
  obtain ⟨W,ql⟩:∃ W,W=c+l.length+1:=⟨_,rfl⟩;have a1u:B8.wrap ((c:Int)+(l.length:Int))=((c+l.length:Nat):Int):=aS
  have a1v:B8.wrap (((c+l.length:Nat):Int)+1)=(W:Int):=aP
  obtain ⟨z,hz⟩:∃ z,z=qF.whole 0:=⟨_,rfl⟩;have oz:qF.ok z.1:=by rw [hz]; exact Gl 0 aD
  obtain ⟨T0,aj⟩:∃ T0:Ent,T0=⟨k,Pm iq eq vars.length c (.frz [] .nilc) (.frz [] .nilc) (.frz [] .nilc) (.frz [] .nilc)⟩:=⟨_,rfl⟩;have qf:=Mw (S++[⟨k,Pm iq eq vars.length c (.frz [] .nilc) (.frz [] .nilc) (.frz [] .nilc) (.frz [] .nilc)⟩]) tk' n' iq eq fl 0 aD hf.app;rw [<- hz,H8 hf] at qf;obtain ⟨S1,ci⟩:∃ S1,S1=flS S iq eq z.2:=⟨_,rfl⟩;have o4:FAq S1 iq eq (Cl fl z.2):=by rw [ci]; exact hf.fS
  have hl1:S1.length=S.length:=by rw [ci]; exact Br
  have b7:∀ v,v≠iq->nth S1 v=nth S v:=fun v hv=>by rw [ci]; exact ga6 hv
  rw [<- ci] at qf;obtain ⟨nz,y3⟩:∃ nz,nz=n'+ua3:=⟨_,rfl⟩;rw [<- y3] at qf;have xd:entAt (S1++[⟨k,Pm iq eq vars.length c (.frz [] .nilc) (.frz [] .nilc) (.frz [] .nilc) (.frz [] .nilc)⟩]++[⟨nz,ga0 z.1⟩]++[⟨nz+1,(Cg W zeroQ).flatten⟩]) S.length k=some (Pm iq eq vars.length c (.frz [] .nilc) (.frz [] .nilc) (.frz [] .nilc) (.frz [] .nilc)):=Ad (Ad (An hl1));have hP2:∀ e e' a b:Ent,put (S1++[e]++[a]++[b]) S.length e'=S1++[e']++[a]++[b]:=fun e e' a b=>by
   rw [Dq aC,Dq aC,De hl1]
  have gd:=mk_Q (W:=W) aA;have hE3:=fun cs a b=>Ad (L:=[b]) (Ad (L:=[a]) (An (k:=k) (cs:=cs) hl1));simp only [Pm] at qf xd;simp (maxSteps:=10^6)+contextual(disch:=try exact dqd)only[evg1,simprocAttr,Ca,Bo,Cb,ga29,e0,e1,e2,e7,e32,e33,e34,c1,hw2,a1u,a1v,qf,gd,xd,hE3,hP2,hl1,Pm,Gq,xfs,puQ,ga1,ga5,ovQ];obtain ⟨TP,hTP⟩:∃ TP,TP=Pm iq eq vars.length c (.frz [] .nilc) (.sref (S.length+2) (nz+1) 0 W ua2) (.frz [] .nilc) (.frz [] .nilc):=⟨_,rfl⟩;obtain ⟨S2,bl⟩:∃ S2,S2=S1++[⟨k,TP⟩]++[⟨nz,ga0 z.1⟩]:=⟨_,rfl⟩;have hl2:S2.length=S.length+2:=by rw [bl]; simp [hl1]
  have ah:entAt S2 S.length k=some TP:=by rw [bl]; exact Ad (An hl1)
  have hZ2:entAt S2 (S.length+1) nz=some (ga0 z.1):=by rw [bl]; exact An (by simp [hl1])
  have cz:FAq S2 iq eq (Cl fl z.2):=by rw [bl]; exact o4.app.app
  have bm:∀ j,j<S.length->j≠iq->nth S2 j=nth S j:=fun j h1 h2=>by rw [bl,Bj aC,Bj aA,b7 j h2]
  have a4a:[AV.ifc ua0 (rcvQ iq eq),.int (vars.length:Nat),.int (c:Nat),.frz [] .nilc,.sref (S.length+2) (nz+1) 0 W ua2,.frz [] .nilc,.frz [] .nilc]=TP:=hTP.symm;have xf:∀ x:Ent,(S1++[x]).length=S.length+1:=fun x=>by simp [hl1]
  have hLb:∀ x y:Ent,(S1++[x]++[y]).length=S.length+2:=fun x y=>by simp [hl1]
  rw [hLb,xf];have qp:=bl;rw [hTP] at qp;simp only [Pm] at qp;rw [<- qp];obtain ⟨Fl,hFl⟩:∃ Fl:Nat->List AV,Fl=fun j=>(Cg j (ga0 z.1)++Cg (W - j) (zeroQ:List AV)).flatten:=⟨_,rfl⟩;have hF0:Fl 0=(Cg W (zeroQ:List AV)).flatten:=by rw [hFl]; rfl
  have hFW:Fl W=flat ga0 (Cg W z.1):=by rw [hFl]; simp only [Oj,List.replicate_zero,Fj]; exact Yz
  have hFo:∀ j,j<W->over (Fl j) (j*ua2) (ga0 z.1)=some (Fl (j+1)):=fun j lg=>by rw [hFl]; exact U6 (sz:=ua2) (a:=ga0 z.1) (z:=(zeroQ:List AV)) lg (ga1 _) rfl
  rw [<- hF0];refine Ef (P:=prog) (fun x st=>st.T.length=270/\(x.2<=W)/\getT st.T 0=.ifc ua0 (rcvQ iq eq)/\getT st.T 1=.frz (l.map rowC) .unk/\getT st.T 2=.frz (vars.map strC) .unk/\getT st.T 7=.ref S.length k 0/\getT st.T 10=.int ((2*vars.length:Nat):Int)/\getT st.T 11=.int (W:Nat)/\getT st.T 12=.ref (S.length+1) nz 0/\getT st.T 71=.int (W:Nat)/\getT st.T 72=.int (x.2:Nat)/\st.S=S2++[⟨nz+1,Fl x.2⟩]/\st.tk=tk'/\st.n=x.1) (fun x=>W - x.2) ((nz+2),0) ?_ ?_;case refine_2=>exact ⟨rfl,Ci _,rfl,rfl,rfl,rfl,rfl,rfl,rfl,rfl,rfl,rfl,rfl,rfl⟩
  rintro ⟨n1,j⟩ ⟨T,S',tk',n'⟩ ⟨hl,hj,e0,e1,e2,e7,e10,e11,e12,e71,e72,eS,eT,eN⟩ IH;simp only at hj e0 e1 e2 e7 e10 e11 e12 e71 e72 eS eT eN;subst eS eT eN;obtain ⟨g,hg,hT⟩:=Ap hl;rw [hg] at e0 e1 e2 e7 e10 e11 e12 e71 e72;subst hT;clear hg hl;have hE6:∀ cs,entAt (S2++[⟨nz+1,cs⟩]) (S.length+2) (nz+1)=some cs:=fun cs=>An hl2;have hP6:=fun e e'=>De (e:=e) (e':=e') hl2;have qq:∀ x y:Ent,Ob (S2++[x]).length (S2++[y])=S2++[y]:=fun x y=>by
   have e:(S2++[x]).length=(S2++[y]).length:=by simp
   rw [e,C8]
  by_cases lg:j<W
  ·have c2:decide ((j:Int)<(W:Int))=true:=gX
   have hw:B8.wrap ((j:Int)+1)=((j+1:Nat):Int):=aS
   have c9:=hFo j lg;have uc:∀ e:Ent,entAt (S2++[e]) S.length k=some TP:=fun e=>Ad ah;have ud:∀ e:Ent,entAt (S2++[e]) (S.length+1) nz=some (ga0 z.1):=fun e=>Ad hZ2;rw [hTP] at uc;simp only [Pm] at uc;simp (maxSteps:=10^6)+contextual(disch:=try exact dqd)only[evg1,simprocAttr,Ca,Bo,Cb,ga29,e0,e1,e2,e7,e10,e11,e12,e71,e72,c2,hw,lg,c9,uc,ud,hE6,hP6,qq,puQ,tkQ,ga1,ga5];exact IH (n',j+1) _ aF ⟨rfl,aE,bZ⟩
  ·have c2:decide ((j:Int)<(W:Int))=false:=gX
   have nq:j=W:=aA
   rw [nq] at c2 e72 ⊢;clear lg nq hj;rw [hFW];obtain ⟨S3,cu⟩:∃ S3,S3=S2++[⟨nz+1,flat ga0 (Cg W z.1)⟩]:=⟨_,rfl⟩;have fd:S3.length=S.length+3:=by rw [cu]; simp [hl2]
   have cl:∀ j,j<S.length->j≠iq->nth S3 j=nth S j:=fun j h1 h2=>by rw [cu,Bj aA,bm j h1 h2]
   have hZ3:entAt S3 (S.length+1) nz=some (ga0 z.1):=by rw [cu]; exact Ad hZ2
   obtain ⟨t0,xk⟩:∃ t0:Tb,t0={ vars:=vars.length,real:=c,rows:=[],cost:=Cg W z.1,basis:=[],flip:=[],fl:=Cl fl z.2 }:=⟨_,rfl⟩;obtain ⟨I0,hI0⟩:∃ I0:TI,I0=⟨S.length,k,S.length+3,0,S.length+2,nz+1,S.length+4,0,[]⟩:=⟨_,rfl⟩;have c8:Bf S3 iq eq I0 t0 .nilc:=by
    rw [hI0,xk,cu];refine ⟨?_,rfl,fun h=>absurd rfl h,fun i p r h=>bO,fun r h=>aR,?_,fun h=>absurd rfl h,rfl,rfl,cz.app,?_,fun r h=>aR,fun q hq=>?_,?_,by simp,?_,fun b h=>aR⟩
    ·rw [Ad ah,hTP];simp only [Pm,de,O2,Cv,Cp];rfl
    ·exact An hl2
    ·constructor <;> first|(simp only; omega)|(intro p hp; simp at hp)|(intro i j p q hp; simp [nth] at hp)
    ·rw [It] at hq; rw [hq.2]; exact oz
    ·simp only [O2]; omega
    ·simp only [O2]; omega
   have a1w:Bz qF l vars fl=begS qF z.1 vars c W l 0 (2*vars.length) t0:=by
    unfold Bz;simp only;rw [<- wj,<- ql,<- hz,xk]
   simp (maxSteps:=10^6)+contextual(disch:=try exact dqd)only[evg1,simprocAttr,Ca,Bo,Cb,ga29,e0,e1,e2,e7,e10,e11,e12,e71,e72,c2];rw [<- cu];clear hE6 hP6 qq e0 e1 e2 e7 e10 e11 e12 e71 e72 c1 c2;refine Ef (P:=prog) (fun x st=>st.T.length=270/\(x.2.2.2.2.1<=l.length)/\(Bz qF l vars fl=begS qF z.1 vars c W (l.drop x.2.2.2.2.1) x.2.2.2.2.1 x.2.2.2.2.2.1 x.2.2.2.2.2.2.1)/\(Bf x.1 iq eq x.2.2.2.2.2.2.2 x.2.2.2.2.2.2.1 x.2.2.2.1)/\(x.2.2.2.2.2.2.1.rows.length=x.2.2.2.2.1)/\(x.2.2.2.2.2.2.1.cost.length=W)/\(x.2.2.2.2.2.2.1.real=c)/\(x.2.2.2.2.2.2.1.vars=vars.length)/\(x.2.2.2.2.2.1+neqs (l.drop x.2.2.2.2.1)=c)/\(Be x.2.2.1 x.2.2.2.1 1=true)/\(entAt x.1 (S.length+1) nz=some (ga0 z.1))/\(S.length+3<=x.1.length)/\(∀ j,j<S.length->j≠iq->nth x.1 j=nth S j)/\(x.2.2.2.2.2.2.2.it=S.length/\x.2.2.2.2.2.2.2.et=k/\x.2.2.2.2.2.2.2.ic=S.length+2)/\(S.length+2<x.2.2.2.2.2.2.2.ir/\S.length+2<x.2.2.2.2.2.2.2.ib/\∀ p ∈ x.2.2.2.2.2.2.2.ids,S.length+2<p.1)/\getT st.T 0=.ifc ua0 (rcvQ iq eq)/\getT st.T 1=.frz (l.map rowC) .unk/\getT st.T 2=.frz (vars.map strC) .unk/\getT st.T 7=.ref S.length k 0/\getT st.T 10=.int (x.2.2.2.2.2.1:Nat)/\getT st.T 11=.int (W:Nat)/\getT st.T 12=.ref (S.length+1) nz 0/\getT st.T 83=.frz (l.map rowC) .unk/\getT st.T 84=.int (l.length:Nat)/\getT st.T 85=.int (x.2.2.2.2.1:Nat)/\st.S=x.1/\st.tk=x.2.2.1/\st.n=x.2.1) (fun x=>l.length - x.2.2.2.2.1) (S3,n',tk',Cap.nilc,0,(2*vars.length),t0,I0) ?_ ?_;case refine_2=>exact ⟨rfl,Ci _,a1w,c8,by rw [xk]; rfl,by rw [xk]; simp,by rw [xk],by rw [xk],by rw [wj]; rfl,rfl,hZ3,Nat.le_of_eq fd.symm,cl,by rw [hI0]; exact ⟨rfl,rfl,rfl⟩,by rw [hI0]; exact ⟨bM,bM,fun p hp=>by simp at hp⟩,rfl,rfl,rfl,rfl,rfl,rfl,rfl,rfl,rfl,rfl,rfl,rfl,rfl⟩
   rintro ⟨SS,n1,tk1,cp,i,sl,t1,I⟩ ⟨T,S',tk',n'⟩ ⟨hl,hi,hR,hT,ig,hcl,cq,j8,o6,ab,hZ,hL3,aw,a8,j9,e0,e1,e2,e7,e10,e11,e12,e83,e84,e85,eS,eT,eN⟩ IH;simp only at hi hR hT ig hcl cq j8 o6 ab hZ hL3 aw a8 j9 e0 e1 e2 e7 e10 e11 e12 e83 e84 e85 eS eT eN;subst eS eT eN;obtain ⟨g,hg,hT⟩:=Ap hl;rw [hg] at e0 e1 e2 e7 e10 e11 e12 e83 e84 e85;subst hT;clear hg hl;have IHA:=IH;clear IH;obtain ⟨m0,dc⟩:∃ m0,m0=n':=⟨_,rfl⟩;subst dc;obtain ⟨SA,hSA⟩:∃ SA,SA=S':=⟨_,rfl⟩;subst hSA;obtain ⟨tkA,a1x⟩:∃ tkA,tkA=tk':=⟨_,rfl⟩;subst a1x;obtain ⟨L,hL⟩:∃ L,L=SA.length:=⟨_,rfl⟩;by_cases b6:i<l.length
   ·have c1:decide ((i:Int)<(l.length:Int))=true:=fY
    have ug:B8.wrap ((i:Int)+1)=((i+1:Nat):Int):=aS
    obtain ⟨r,hr⟩:=Ab b6;have ju:=Lg hr;have pz:r ∈ l:=Aj hr;have xf:∀ x:Ent,(SA++[x]).length=L+1:=fun x=>by simp [hL]
    have back:∀ st,Ajl S l vars fl k iq eq c W nz z.1 (i+1) st->Gd finM Φ (KA prog ga28 18 [] st):=fun st h=>by
     obtain ⟨sl',t1',I',cp',h1,h2,h3,h4,h5,h6,h7,h8,h9,h10,h11,h12,h13,h14,a0a,s0,s1,s2,s7,s10,s11,s12,s83,s84,s85⟩:=h;exact Wl rfl (t:=.mk) (IHA (st.S,st.n,st.tk,cp',i+1,sl',t1',I') st (by show l.length - (i+1)<l.length - i; omega) ⟨a0a,h1,h2,h3,h4,h5,h6,h7,h8,h9,h10,h11,h12,h13,h14,s0,s1,s2,s7,s10,s11,s12,s83,s84,s85,rfl,rfl,rfl⟩)
    clear IHA;simp (maxSteps:=10^6)+contextual(disch:=try exact dqd)only[evg1,simprocAttr,Ca,Bo,Cb,ga29,e0,e1,e2,e7,e10,e11,e12,e83,e84,e85,c1,ju,rowC,Ag,gd,Ce];rw [xf,<- hL,<- hF0];obtain ⟨SB,sa⟩:∃ SB,SB=SA++[(⟨m0,rowC r⟩:Ent)]:=⟨_,rfl⟩;have hlB:SB.length=L+1:=by rw [sa]; exact xf _
    have u4:=sa;simp only [rowC,Ag] at u4;rw [<- u4];refine Ef (P:=prog) (fun x st=>st.T.length=270/\(x.2<=W)/\getT st.T 0=.ifc ua0 (rcvQ iq eq)/\getT st.T 1=.frz (l.map rowC) .unk/\getT st.T 2=.frz (vars.map strC) .unk/\getT st.T 7=.ref S.length k 0/\getT st.T 10=.int (sl:Nat)/\getT st.T 11=.int (W:Nat)/\getT st.T 12=.ref (S.length+1) nz 0/\getT st.T 14=.int (i:Nat)/\getT st.T 15=.ref L m0 0/\getT st.T 16=.sref (L+1) (m0+1) 0 W ua2/\getT st.T 83=.frz (l.map rowC) .unk/\getT st.T 84=.int (l.length:Nat)/\getT st.T 85=.int (i:Nat)/\getT st.T 93=.int (W:Nat)/\getT st.T 94=.int (x.2:Nat)/\st.S=SB++[⟨m0+1,Fl x.2⟩]/\st.tk=tkA/\st.n=x.1) (fun x=>W - x.2) ((m0+2),0) ?_ ?_;case refine_2=>exact ⟨rfl,Ci _,rfl,rfl,rfl,rfl,rfl,rfl,rfl,rfl,rfl,rfl,rfl,rfl,rfl,rfl,rfl,rfl,rfl,rfl⟩
    rintro ⟨n1,j⟩ ⟨T,S',tk',n'⟩ ⟨hl,hj,e0,e1,e2,e7,e10,e11,e12,e14,e15,e16,e83,e84,e85,e93,e94,eS,eT,eN⟩ IH;simp only at hj e0 e1 e2 e7 e10 e11 e12 e14 e15 e16 e83 e84 e85 e93 e94 eS eT eN;subst eS eT eN;obtain ⟨g,hg,hT⟩:=Ap hl;rw [hg] at e0 e1 e2 e7 e10 e11 e12 e14 e15 e16 e83 e84 e85 e93 e94;subst hT;clear hg hl;by_cases lg:j<W
    ·have c2:decide ((j:Int)<(W:Int))=true:=gX
     have hw:B8.wrap ((j:Int)+1)=((j+1:Nat):Int):=aS
     have c9:=hFo j lg;have ud:∀ b:Ent,entAt (SB++[b]) (S.length+1) nz=some (ga0 z.1):=fun b=>by rw [sa]; exact Ad (Ad hZ)
     have hE6:∀ cs,entAt (SB++[⟨m0+1,cs⟩]) (L+1) (m0+1)=some cs:=fun cs=>An hlB;have hP6:=fun e e'=>De (e:=e) (e':=e') hlB;have qq:∀ x y:Ent,Ob (SB++[x]).length (SB++[y])=SB++[y]:=fun x y=>by
      have e:(SB++[x]).length=(SB++[y]).length:=by simp
      rw [e,C8]
     simp (maxSteps:=10^6)+contextual(disch:=try exact dqd)only[evg1,simprocAttr,Ca,Bo,Cb,ga29,e0,e1,e2,e7,e10,e11,e12,e14,e15,e16,e83,e84,e85,e93,e94,c2,hw,lg,c9,ud,hE6,hP6,qq,puQ,tkQ,ga1,ga5];exact IH (n',j+1) _ aF ⟨rfl,aE,bZ⟩
    ·have c2:decide ((j:Int)<(W:Int))=false:=gX
     have nq:j=W:=aA
     rw [nq] at c2 e94 ⊢;clear lg nq hj;rw [hFW];obtain ⟨n5,hn5⟩:∃ n5,n5=n':=⟨_,rfl⟩;subst hn5;obtain ⟨SC,sb⟩:∃ SC,SC=SB++[(⟨m0+1,flat ga0 (Cg W z.1)⟩:Ent)]:=⟨_,rfl⟩;rw [<- sb];have hlC:SC.length=L+2:=by rw [sb]; simp [hlB]
     have hTC:Bf SC iq eq I t1 cp:=by rw [sb,sa]; exact (hT.app _).app _
     have bc:LowQ I iq L t1:=by rw [hL]; exact hT.low
     have nv:entAt SC L m0=some (rowC r):=by rw [sb,sa]; exact Ad (An hL.symm)
     have u5:entAt SC (L+1) (m0+1)=some (flat ga0 (Cg W z.1)):=by rw [sb]; exact An hlB
     have hZC:entAt SC (S.length+1) nz=some (ga0 z.1):=by rw [sb,sa]; exact Ad (Ad hZ)
     have hfC:∀ j,j<S.length->j≠iq->nth SC j=nth S j:=fun j h1 h2=>by rw [sb,sa,Bj aC,Bj aA,aw j h1 h2]
     have na:i64 r.2.1:=(hc r pz).1;obtain ⟨one,cr⟩:∃ one,one=qF.whole 1:=⟨_,rfl⟩;have o1:qF.ok one.1:=by rw [cr]; exact Gl 1 aD
     have d6:=Mw SC tk' n5 iq eq t1.fl 1 aD hTC.fa;rw [<- cr] at d6;obtain ⟨SD,xl⟩:∃ SD,SD=flS SC iq eq one.2:=⟨_,rfl⟩;have nw:SD.length=L+2:=by rw [xl,Br]; exact hlC
     have u6:∀ v,v≠iq->nth SD v=nth SC v:=fun v hv=>by rw [xl]; exact ga6 hv
     have hfD:FAq SD iq eq (Cl t1.fl one.2):=by rw [xl]; exact hTC.fa.fS
     rw [<- xl] at d6;obtain ⟨nu,hnu⟩:∃ nu,nu=n5+ua3:=⟨_,rfl⟩;rw [<- hnu] at d6;have hTD:Bf SD iq eq I { t1 with fl:=Cl t1.fl one.2 } cp:=hTC.flag u6 hfD;have hLd:SD.length=L+2:=nw;have ny:Hd S (SD++[⟨nu,ga0 one.1⟩]) iq eq I { t1 with fl:=Cl t1.fl one.2 } cp L nz m0 (m0+1) nu z.1 r (Cg W z.1) one.1 :=
      ⟨hTD.app _,bc.of fun h=>h,by rw [Ad (e:=nz) (by rw [Ac (u6 _ aA)]; exact hZC)],by rw [Ad (by rw [Ac (u6 _ aA)]; exact nv)],by rw [Ad (by rw [Ac (u6 _ aA)]; exact u5)],An nw,by simp [nw],fun j h1 h2=>by rw [Bj aA,u6 j h2]; exact hfC j h1 h2,py,aA,a8.2.2⟩
     have ip:=ny.E15;have sc:=ny.E19;have mr:(SD++[(⟨nu,ga0 one.1⟩:Ent)]).length=L+3:=ny.len;have hLD:∀ x:Ent,(SD++[x]).length=L+3:=fun x=>by simp [nw]
     simp only [rowC] at ip;have hEn:∀ cs,entAt (SD++[⟨nu,cs⟩]) (L+2) nu=some cs:=fun cs=>An nw;have tx:=fun e e'=>De (e:=e) (e':=e') nw;clear sb sa u4;cases hfl:Ee r
     ·have c3:decide (0<r.2.1)=false:=hfl;have hU:Kz qF (Ee r)=one:=by rw [hfl,cr]; rfl
      simp (maxSteps:=10^6)+contextual(disch:=try exact dqd)only[evg1,simprocAttr,Ca,Bo,Cb,ga29,e0,e1,e2,e7,e10,e11,e12,e14,e15,e16,e83,e84,e85,e93,e94,c2,c3,nv,rowC,Ag,d6,ip,hEn,tx,nw,Gq,xfs,puQ,ga1,ga5,ovQ];clear e0 e1 e2 e7 e10 e11 e12 e14 e15 e16 e83 e84 e85 e93 e94 c2 c3 IH tx hEn;obtain ⟨SX,u7⟩:∃ SX,SX=SD++[(⟨nu,ga0 one.1⟩:Ent)]:=⟨_,rfl⟩;obtain ⟨nx,ot⟩:∃ nx,nx=nu+1:=⟨_,rfl⟩;rw [<- u7,<- ot];rw [<- u7] at ny;obtain ⟨u,hu⟩:∃ u:Q × Bool,u=one:=⟨_,rfl⟩;rw [<- hu] at ny hU;have ou:qF.ok u.1:=by rw [hu]; exact o1
      have ii:=ny;clear ny ip sc mr hLD hnu hTD hLd hfD u6 nw d6 xl u7 ot u5 nv hZC hfC hTC hlC hu o1 cr;have h18:AV.prim (.bool false)=.prim (.bool (Ee r)):=by rw [hfl]
      exact Ya0b
     ·have c3:decide (0<r.2.1)=true:=hfl;obtain ⟨neg,hneg⟩:∃ neg,neg=qF.whole (-1):=⟨_,rfl⟩;have on:qF.ok neg.1:=by rw [hneg]; exact Gl (-1) aD
      have hU:Kz qF (Ee r)=(neg.1,Cl one.2 neg.2):=by rw [hfl,cr,hneg]; rfl
      have hw1:=Mw (SD++[⟨nu,ga0 one.1⟩]) tk' (nu+1) iq eq (Cl t1.fl one.2) (-1) aD ny.T.fa;rw [<- hneg,H8 hfD] at hw1;obtain ⟨SE,hSE⟩:∃ SE,SE=flS SD iq eq neg.2:=⟨_,rfl⟩;have mr:SE.length=L+2:=by rw [hSE,Br]; exact nw
      have hRE:=ny.flag (S':=flS (SD++[⟨nu,ga0 one.1⟩]) iq eq neg.2) (fun j hj=>ga6 hj) Br ny.T.fa.fS;rw [H8 hfD,<- hSE] at hRE;rw [<- hSE] at hw1;have hRF:=hRE.unit neg.1;have sd:∀ cs,entAt (SE++[⟨nu,cs⟩]) (L+2) nu=some cs:=fun cs=>An mr;have u9:=fun e e'=>De (e:=e) (e':=e') mr;rw [u9] at hRF;have n9:=hRF.E15;simp only [rowC] at n9;simp (maxSteps:=10^6)+contextual(disch:=try exact dqd)only[evg1,simprocAttr,Ca,Bo,Cb,ga29,e0,e1,e2,e7,e10,e11,e12,e14,e15,e16,e83,e84,e85,e93,e94,c2,c3,nv,rowC,Ag,d6,ip,hEn,tx,nw,hw1,sd,u9,n9,Gq,xfs,puQ,ga1,ga5,ovQ,ovQ2];clear e0 e1 e2 e7 e10 e11 e12 e14 e15 e16 e83 e84 e85 e93 e94 c2 c3 IH tx hEn u9 sd;obtain ⟨SX,u7⟩:∃ SX,SX=SE++[(⟨nu,ga0 neg.1⟩:Ent)]:=⟨_,rfl⟩;obtain ⟨nx,ot⟩:∃ nx,nx=nu+1+ua3:=⟨_,rfl⟩;rw [<- u7,<- ot];rw [<- u7] at hRF;obtain ⟨u,hu⟩:∃ u:Q × Bool,u=(neg.1,Cl one.2 neg.2):=⟨_,rfl⟩;rw [<- hu] at hU;have ou:qF.ok u.1:=by rw [hu]; exact on
      have ii:Hd S SX iq eq I { t1 with fl:=Cl t1.fl u.2 } cp L nz m0 (m0+1) nu z.1 r (Cg W z.1) u.1:=by
       rw [hu];simp only [<- Gr];exact hRF
      clear ny ip sc mr hLD hnu hTD hLd hfD u6 nw d6 xl u7 ot u5 nv hZC hfC hTC hlC hu o1 cr on hneg hw1 hSE hRE hRF n9;have h18:AV.prim (.bool true)=.prim (.bool (Ee r)):=by rw [hfl]
      exact Ya0b
   ·have c1:decide ((i:Int)<(l.length:Int))=false:=fY
    have h0:l.drop i=[]:=Fm aA;rw [h0] at hR;simp only [begS] at hR;simp (maxSteps:=10^6)+contextual(disch:=try exact dqd)only[evg1,simprocAttr,Ca,Bo,Cb,ga29,e0,e1,e2,e7,e10,e11,e12,e83,e84,e85,c1];rw [hΦ,hR];exact ⟨SA,m0,tkA,I,cp,by rw [a8.1,a8.2.1],aA,hT,aw,fun j h1 h2=>⟨h2,aA,aA,fun p hp=>by have:=j9.2.2 p hp; omega⟩⟩):p:=h
namespace QQ
theorem Av5:Ax23:=Ma23
end QQ
end
end
section
open Go
theorem Ael {P:Program} {all:List Oper} {d:Option Tmp} {T:List AV} {S S':List Ent} (hL:loadsB all d=[]) (h2:S.length<=S'.length):reA P all d T S S'=some ():=Ag0 hL h2 (fun q h=>aR)
end
section
open Go
set_option maxRecDepth 100000
def ceW0Q:List AV:=[.prim (.bool false),.frz [] .nilc,.prim (.bool false),.frz [] .nilc]
namespace QQ
structure Ajj (S SS:List Ent) (iq eq:Nat) (I:TI) (t:Tb) (cc:Cap) (k n8:Nat) (z:Q) (cf:AV) (n:Int):Prop where
 T:Bf SS iq eq I t cc
 E4:entAt SS S.length k=some [cf,.prim (.int .i64 n)]
 E6:entAt SS (S.length+1) (k+1)=some ceW0Q
 E8:entAt SS (S.length+2) n8=some (ceQ z)
 len:SS.length=S.length+3
 fr:∀ j,j<S.length->OutQ I iq j->nth SS j=nth S j
end QQ
abbrev Ax24 (p:Prop:=by exact ∀ {S:List Ent}{iq eq:Nat}{I:TI}{t:Tb}{cc:Cap}(hT:Bf S iq eq I t cc)(py:iq<S.length)(hib:I.ib<S.length\/S.length+10<I.ib)(d:Nat)(hd:d<=10),OutQ I iq (S.length+d)):=p
theorem Ma24 {p:Prop} (h:p:=by
 intro hT py hib d hd;have h:=hT.low;have:=h.ic;exact ⟨aA,aA,aA,fun p hp=>by have:=h.row p hp; omega⟩):p:=h
namespace QQ
theorem Auf:Ax24:=fun {S iq eq I t cc}=>Ma24
end QQ
abbrev Ax25 (p:Prop:=by exact ∀ {S SS S':List Ent}{iq eq:Nat}{I:TI}{t t':Tb}{cc:Cap}{k n8:Nat}{z:Q}{cf:AV}{n:Int}(h:Ajj S SS iq eq I t cc k n8 z cf n)(ho:∀ d,d<=10->OutQ I iq (S.length+d))(hT:Bf S' iq eq I t' cc)(hS:∀ j,OutQ I iq j->nth S' j=nth SS j)(hl:S'.length=SS.length),Ajj S S' iq eq I t' cc k n8 z cf n):=p
theorem Ma25 {p:Prop} (h:p:=by
 intro h ho hT hS hl;exact ⟨hT,by rw [Ac (hS S.length (ho 0 aA))]; exact h.E4,by rw [Ac (hS _ (ho 1 aA))]; exact h.E6,by rw [Ac (hS _ (ho 2 aA))]; exact h.E8,by rw [hl]; exact h.len,fun j h1 h2=>by rw [hS j h2]; exact h.fr j h1 h2⟩):p:=h
namespace QQ
theorem Ajj.step:Ax25:=fun {S SS S' iq eq I t t' cc k n8 z cf n}=>Ma25
end QQ
end
section
open Go
set_option maxRecDepth 100000
abbrev Ax26 (p:Prop:=by exact ∀ {S:List Ent}{iq eq:Nat}{I:TI}{t:Tb}{c:Cap}(h:Bf S iq eq I t c)(h0:t.rows=[])(py:iq<S.length){x y:Nat}(hx:S.length<=x)(hy:S.length<=y)(iw:x≠y),Bf S iq eq ⟨I.it,I.et,x,0,I.ic,I.ec,y,0,I.ids⟩ t c):=p
theorem Ma26 {p:Prop} (h:p:=by
 intro h h0 py x y hx hy iw;have hl:=h.low;have h1:=hl.it;have h2:=hl.ic;have j7:I.ids=[]:=C5.1 (by rw [h.nids,h0]; rfl);refine ⟨?_,h.nids,fun hn=>absurd h0 hn,h.rowE,h.rowW,h.costE,fun hn=>absurd h0 hn,h.nb,h.nf,h.fa,?_,h.okr,h.okc,h.bigW,h.bigM,h.real,h.bB⟩
 ·have h3:=h.top;rw [h0] at h3 ⊢;exact h3
 ·have ha:=h.ap;refine ⟨bM,ha.tc,bM,bM,iw,bM,ha.qt,bM,ha.qc,bM,fun p hp=>?_,ha.rows⟩;rw [j7] at hp; simp at hp):p:=h
namespace QQ
theorem Bf.junk:Ax26:=fun {S iq eq I t c}=>Ma26
def BegRQ (S:List Ent) (iq eq:Nat) (t':Tb) (r:Rs):Prop :=
 ∃ S' k' tk' I cc,r=(.ref I.it I.et 0,S',tk',k')/\S.length<=S'.length/\Bf S' iq eq I t' cc/\(∀ j,j<S.length->j≠iq->nth S' j=nth S j)/\(∀ j,j<S.length->j≠iq->OutQ I iq j)/\(I.ib<S'.length\/S'.length+15<I.ib)
end QQ
abbrev Ax27 (p:Prop:=by exact ∀ {S:List Ent}{iq eq:Nat}{t':Tb}{r:Rs}(py:iq<S.length)(h:Aou S iq eq t' r),BegRQ S iq eq t' r):=p
theorem Ma27 {p:Prop} (h:p:=by
 intro py h;obtain ⟨S',k',tk',I,cc,hr,h1,h2,h3,h4⟩:=h;by_cases h0:t'.rows=[]
 ·refine ⟨S',k',tk',⟨I.it,I.et,S'.length+20,0,I.ic,I.ec,S'.length+21,0,I.ids⟩,cc,hr,h1,h2.junk h0 aA aA aA aA,h3,fun j a b=>?_,.inr bM⟩;have h5:=h4 j a b;exact ⟨h5.1,h5.2.1,bM,h5.2.2.2⟩
 ·exact ⟨S',k',tk',I,cc,hr,h1,h2,h3,h4,.inl (h2.low.ib h0)⟩):p:=h
namespace QQ
theorem Aou.far:Ax27:=fun {S iq eq t' r}=>Ma27
end QQ
end
section
open Go
def Lw (t t':Tb):Prop:=t'.real=t.real/\t'.vars=t.vars/\t'.cost.length=t.cost.length/\t'.rows.length=t.rows.length
theorem Lw.refl (t:Tb):Lw t t:=⟨rfl,rfl,rfl,rfl⟩
theorem Lw.trans {a b c:Tb} (h:Lw a b) (h':Lw b c):Lw a c:=⟨h'.1.trans h.1,h'.2.1.trans h.2.1,h'.2.2.1.trans h.2.2.1,h'.2.2.2.trans h.2.2.2⟩
theorem Y5 {F:Fld} {l m:List Q} {c:Nat} : (lessT F l m c).1.length=l.length:=by
 unfold lessT;split
 ·split
  ·rfl
  ·exact Qg
 ·rfl
theorem Lc {F:Fld} {row:List Q} {c i:Nat} : ∀ {l:List (List Q)} {k:Nat},(lessRows F row c i k l).1.length=l.length
 | [],_=>rfl
 | r :: l,k=>by simp only [lessRows,Cj,Lc]
theorem Ang {F:Fld} {t:Tb} {i c:Nat} : Lw t (Eo F t i c):=⟨rfl,rfl,Y5,by simp only [Eo,Lc,Ak]⟩
theorem Yt {F:Fld} : ∀ {K:Nat} {t t':Tb} {b:Bool},J4 F K t=some (b,t')->Lw t t'
 | 0,_,_,_,h=>by simp [J4] at h
 | K+1,t,t',b,h=>by
  unfold J4 at h;split at h
  ·exact Ya2t
  ·split at h
   ·exact Ya2t
   ·split at h
    ·simp only [Bg,Cf] at h; obtain ⟨-,rfl⟩:=h; exact ⟨rfl,rfl,rfl,rfl⟩
    ·have h2:=Yt h;have h3:∀ (u:Tb) (i c:Nat),Lw u (Eo F u i c):=fun u i c=>Ang;have h4:=(h3 _ _ _).trans h2;exact ⟨h4.1,h4.2.1,h4.2.2.1,h4.2.2.2⟩
theorem Ys {F:Fld} {real W:Nat} : ∀ {c r:List Q} {k:Nat},(costL F real W k c r).1.length=c.length
 | [],_,_=>by simp [costL]
 | a :: c,[],_=>rfl
 | a :: c,b :: r,k=>by simp only [costL,Cj,Ys]
theorem Akt {F:Fld} {z:Q} {vars:List ByteArray} {real W:Nat} : ∀ {l:List RowT} {i sl:Nat} {t:Tb},(begS F z vars real W l i sl t).real=t.real/\(begS F z vars real W l i sl t).vars=t.vars/\(begS F z vars real W l i sl t).cost.length=t.cost.length/\(begS F z vars real W l i sl t).rows.length=t.rows.length+l.length
 | [],_,_,_=>⟨rfl,rfl,rfl,rfl⟩
 | r :: l,i,sl,t=>by
  unfold begS;simp only;have h:=Akt (F:=F) (z:=z) (vars:=vars) (real:=real) (W:=W) (l:=l) (i:=i+1) (sl:=if r.2.2=true then sl else sl+1) (t:={ t with rows:=t.rows++[(rowF F z vars real W i sl r).1],cost:=(costL F real W 0 t.cost (rowF F z vars real W i sl r).1).1,basis:=t.basis++[real+i],flip:=t.flip++[Ee r],fl:=(t.fl || (rowF F z vars real W i sl r).2) || (costL F real W 0 t.cost (rowF F z vars real W i sl r).1).2 });simp only [Ys,Cn,Cj,Cv] at h ⊢;exact ⟨h.1,h.2.1,h.2.2.1,aA⟩
theorem Up {F:Fld} {l:List RowT} {vars:List ByteArray} {fl:Bool} : (Bz F l vars fl).real=2*vars.length+neqs l/\(Bz F l vars fl).vars=vars.length/\(Bz F l vars fl).cost.length=2*vars.length+neqs l+l.length+1/\(Bz F l vars fl).rows.length=l.length:=by
 unfold Bz;have h:=Akt (F:=F) (z:=(F.whole 0).1) (vars:=vars) (real:=2*vars.length+neqs l) (W:=2*vars.length+neqs l+l.length+1) (l:=l) (i:=0) (sl:=2*vars.length) (t:={ vars:=vars.length,real:=2*vars.length+neqs l,rows:=[],cost:=Cg (2*vars.length+neqs l+l.length+1) (F.whole 0).1,basis:=[],flip:=[],fl:=fl || (F.whole 0).2 });simp only [O2,Cv,Fk] at h ⊢;exact h
def lsC:Option Q->List AV
 | none=>[.prim (.bool false),.frz [] .nilc,.prim (.bool false),.frz [] .nilc]
 | some q=>ceW q
def ansC (f:Bool) (pt nu:List Q) (c1 c2:Cap) (least:Option Q) (bd:Bool):List AV:=[.prim (.bool f),.frz (pt.map ceW) c1,.frz (nu.map ceW) c2]++lsC least++[.prim (.bool bd)]
def ans0:List AV:=[.prim (.bool false),.frz [] .nilc,.frz [] .nilc,.prim (.bool false),.frz [] .nilc,.prim (.bool false),.frz [] .nilc,.prim (.bool false)]
structure Ans where
 f:Bool
 pt:List Q
 nu:List Q
 least:Option (Q × Bool)
def Kk (F:Fld) (K:Nat) (l:List RowT) (vars:List ByteArray) (fl:Bool):Option (Ans × Bool) :=
 match J4 F K (Bz F l vars fl) with
 | none=>none
 | some (_,t)=>if (F.stop && t.fl)=true then some (⟨false,[],[],none⟩,false) else
  if Jd t=true then some (⟨true,(Gv F t).1.map F.rat,[],none⟩,!(F.stop && (t.fl || (Gv F t).2)))
  else some (⟨false,[],(J6 F t).1.map F.rat,none⟩,!(F.stop && (t.fl || (J6 F t).2)))
end
section
open Go Tryz
open Go.Proofs.Tryz renaming func84->ga32,ntmps84->ga33,results84->ga34
set_option maxRecDepth 100000
namespace QQ
abbrev ua15:Nat:=84
end QQ
set_option maxHeartbeats 20000000
set_option maxRecDepth 100000
def Avu (S:List Ent) (iq:Nat) (a:Ans) (ok:Bool) (r:Rs):Prop :=
 ∃ S' tk' k' c1 c2 q b,r=(.tup [.agg (ansC a.f a.pt a.nu c1 c2 q b),.bool ok],S',tk',k')/\S'.length=S.length/\(∀ j,j<S.length->j≠iq->nth S' j=nth S j)/\(∀ v,a.least=some v->q=some v.1/\b=v.2)/\(a.least=none->q=none/\b=false)
section
variable (S:List Ent) (tk:List Nat) (k iq eq:Nat)
abbrev Ax28 (p:Prop:=by exact ∀ (S:List Ent)(tk:List Nat)(k iq eq:Nat)(l:List RowT)(fl:Bool)(hl:l.length<=1000)(hn:(Dx l).length<=1000)(vars:List ByteArray)(ly:vars.length<=1000)(hv:∀ r ∈ l,∀ c ∈ r.1,c.1 ∈ vars)(hc:∀ r ∈ l,i64 r.2.1/\∀ c ∈ r.1,i64 c.2)(gi:fewC l)(py:iq<S.length)(hf:FAq S iq eq fl)(K:Nat)(a:Ans)(ok:Bool)(hS:Kk qF K l vars fl=some (a,ok)),∃ r,cL prog ua15 [.ifc ua0 (rcvQ iq eq),Ao l,Aq vars,.prim (.pointer none)] S tk k=some r/\Avu S iq a ok r):=p
theorem Ma28 {p:Prop} (h:p:=by
 intro S tk k iq eq l fl hl hn vars ly hv hc gi py hf K a ok hS;obtain ⟨Φ,hΦ⟩:∃ Φ,Φ=Avu S iq a ok:=⟨_,rfl⟩;rw [<- hΦ];obtain ⟨rb,hbc,hbP⟩:=Av5 (S++[(⟨k,ans0⟩:Ent)]) tk (k+1) iq eq l fl hl hn vars ly hv hc gi aC hf.app;obtain ⟨Sb,kb,tkb,I,cc,rfl,hlb,hTb,rh,hob,hib⟩:=hbP.far aC;simp only [ans0,Ao,Aq] at hbc;cases hd:J4 qF K (Bz qF l vars fl) with
 | none=>unfold Kk at hS; rw [hd] at hS; simp at hS
 | some bt =>
  obtain ⟨b,t⟩:=bt;obtain ⟨rd,rt,Sd,kd,rfl,yz,hTd,xu⟩:=Ap2 Sb tkb kb iq eq I _ t cc K b hTb hd;have j0:=Af2 Sd tkb kd iq eq t.fl hTd.fa;unfold Kk at hS;rw [hd] at hS;simp only at hS;have qu:∀ j,j<S.length+1->j≠iq->OutQ I iq j:=fun j h1 h2=>hob j aC h2;have hSb:S.length+1<=Sb.length:=by simpa using hlb
  have ry:entAt Sd S.length k=some ans0:=by
   rw [Ac (xu _ (qu _ aA aA)),Ac (rh _ (by simp) aA)];exact Bm
  have aw:∀ j,j<S.length->j≠iq->nth Sd j=nth S j:=fun j h1 h2=>by
   rw [xu _ (qu _ aA h2),rh _ aC h2,Bj h1]
  have hP0:∀ cs,entAt (put Sd S.length ⟨k,cs⟩) S.length k=some cs:=fun cs=>Ah aA;have a0b:over ans0 0 ans0=some ans0:=rfl;have a1y:=ry;simp only [ans0] at a0b ry;refine opG ga32 ga33 ?_;cases ai:(qF.stop && t.fl) with
  | true =>
   rw [ai] at j0 hS;simp (maxSteps:=10^6)+contextual(disch:=try exact dqd)only[evg1,simprocAttr,Ca,Bo,Cb,ga34,Ao,Aq,hbc,rt,j0,ry,a0b,hP0,Gq,xfs];rw [if_pos rfl] at hS;simp only [Bg,Cf] at hS;obtain ⟨rfl,rfl⟩:=hS;rw [hΦ];refine ⟨_,_,_,.nilc,.nilc,none,false,rfl,by rw [Im,Am]; omega,fun j h1 h2=>?_,fun v hv=>by simp at hv,fun _=>⟨rfl,rfl⟩⟩;rw [G6 h1,Ae aA]; exact aw j h1 h2
  | false =>
   rw [ai] at j0 hS;rw [if_neg Iw] at hS;obtain ⟨rf,ik,Sf,kf,rfl,hlf,xv,hnf⟩:=Alv Sd tkb kd iq eq I t cc hTd;have hsz:=Yt hd;have q6:=Up (F:=qF) (l:=l) (vars:=vars) (fl:=fl);have hoN:∀ d,d<=10->OutQ I iq (Sf.length+d):=fun d hd=>by
    rw [hlf,yz]; exact Auf hTb aA aA d hd
   have hEf:entAt Sf S.length k=some ans0:=by rw [Ac (hnf _ (qu _ aA aA))]; exact a1y
   cases hfe:Jd t with
   | false =>
    rw [hfe] at ik hS;rw [if_neg Iw] at hS;simp only [Bg,Cf] at hS;obtain ⟨rfl,rfl⟩:=hS;obtain ⟨rm,xo,Sm,km,tkm,cm,rfl,hlm,wc,g8⟩:=Aca (Sf++[(⟨kf,ans0⟩:Ent)]) tkb (kf+1) iq eq I t cc (xv.app _) (by rw [hsz.1,hsz.2.2.1,hsz.2.2.2,q6.1,q6.2.2.1,q6.2.2.2]; omega);have a1z:Sm.length=Sf.length+1:=by rw [hlm]; simp
    have sd:entAt Sm Sf.length kf=some ans0:=Za6v
    have oc:entAt Sm S.length k=some ans0:=Za6w
    have hR:Mm (J6 qF t).1=(J6 qF t).1.map fun q=>ceW (qF.rat q):=rfl;have u9:∀ cs,entAt (put Sm Sf.length ⟨kf,cs⟩) Sf.length kf=some cs:=fun cs=>Ah aA;have oe:∀ x,entAt (put Sm Sf.length x) S.length k=some ans0:=fun x=>by rw [Ai aA]; exact oc
    have ve:∀ x,FAq (put Sm Sf.length x) iq eq (Cl t.fl (J6 qF t).2):=fun x=>wc.fa.put aA;have vf:=fun x=>Af2 (put Sm Sf.length x) tkm km iq eq _ (ve x);have hPP:∀ x cs,entAt (put (put Sm Sf.length x) S.length ⟨k,cs⟩) S.length k=some cs:=fun x cs=>Ah dV;simp only [ans0] at sd oc oe xo;simp (maxSteps:=10^6)+contextual(disch:=try exact dqd)only[evg1,simprocAttr,Ca,Bo,Cb,ga34,Ao,Aq,hbc,rt,j0,ik,xo,sd,u9,oe,vf,hPP,Gq,xfs];rw [hΦ];refine ⟨_,_,_,.nilc,cm,none,false,Za3j,by rw [Im,Am,Am]; omega,fun j h1 h2=>?_,fun v hv=>by simp at hv,fun _=>⟨rfl,rfl⟩⟩;rw [G6 h1,Ae aA,Ae aA,g8 _ (qu _ aA h2),Bj aA,hnf _ (qu _ aA h2)];exact aw j h1 h2
   | true =>
    rw [hfe] at ik hS;rw [if_pos rfl] at hS;simp only [Bg,Cf] at hS;obtain ⟨rfl,rfl⟩:=hS;obtain ⟨ans1,a0c⟩:∃ ans1:List AV,ans1=[.prim (.bool true),.frz [] .nilc,.frz [] .nilc,.prim (.bool false),.frz [] .nilc,.prim (.bool false),.frz [] .nilc,.prim (.bool false)]:=⟨_,rfl⟩;obtain ⟨rm,xo,Sm,km,tkm,cm,rfl,hlm,wc,g8⟩:=Aw3 (Sf++[(⟨kf,ans1⟩:Ent)]) tkb (kf+1) iq eq I t cc (xv.app _) (by rw [hsz.1,hsz.2.1,q6.1,q6.2.1]; omega);have a1z:Sm.length=Sf.length+1:=by rw [hlm]; simp
    have sd:entAt Sm Sf.length kf=some ans1:=Za6v
    have oc:entAt Sm S.length k=some ans0:=Za6w
    have hR:Mm (Gv qF t).1=(Gv qF t).1.map fun q=>ceW (qF.rat q):=rfl;have u9:∀ cs,entAt (put Sm Sf.length ⟨kf,cs⟩) Sf.length kf=some cs:=fun cs=>Ah aA;have oe:∀ x,entAt (put Sm Sf.length x) S.length k=some ans0:=fun x=>by rw [Ai aA]; exact oc
    have ve:∀ x,FAq (put Sm Sf.length x) iq eq (Cl t.fl (Gv qF t).2):=fun x=>wc.fa.put aA;have vf:=fun x=>Af2 (put Sm Sf.length x) tkm km iq eq _ (ve x);have hPP:∀ x cs,entAt (put (put Sm Sf.length x) S.length ⟨k,cs⟩) S.length k=some cs:=fun x cs=>Ah dV;rw [a0c] at sd xo;have a10:Lo BinOp.neq (Wu prog 113) true=some (.prim (.bool false)):=aK
    simp only [ans0] at oc oe;simp (maxSteps:=10^6)+contextual(disch:=try exact dqd)only[evg1,simprocAttr,Ca,Bo,Cb,ga34,Ao,Aq,hbc,rt,j0,ik,xo,sd,u9,oe,vf,hPP,a10,Gq,xfs];rw [hΦ];refine ⟨_,_,_,cm,.nilc,none,false,Za3j,by rw [Im,Am,Am]; omega,fun j h1 h2=>?_,fun v hv=>by simp at hv,fun _=>⟨rfl,rfl⟩⟩;rw [G6 h1,Ae aA,Ae aA,g8 _ (qu _ aA h2),Bj aA,hnf _ (qu _ aA h2)];exact aw j h1 h2):p:=h
namespace QQ
theorem Aux:Ax28:=Ma28
end QQ
end
end
section
open Go
theorem K5 {f b:Bool} {p n:List Q} {c1 c2:Cap} {q:Option Q} : (ansC f p n c1 c2 q b).length=8:=gD
theorem Aan {f b:Bool} {p n:List Q} {c1 c2:Cap} {q:Option Q} : (ansC f p n c1 c2 q b).all leafOk=true:=gD
theorem Vv {e e':List AV} (h:e.length=e'.length):over e 0 e'=some e':=by
 have:=T8 (r:=[]) h;exact Ya22
end
section
open Go Tryz
open Go.Proofs.Tryz renaming func153->ga2,ntmps153->ga3,results153->ga4
open Go.Proofs.YthelkgdmgihhiaaGreat renaming ceW->ga0,Al->ga1,Av->ga5,Bv->ga6
set_option maxRecDepth 100000
namespace WW
abbrev ua0:Nat:=123
abbrev ua1:Nat:=153
abbrev ua2:Nat:=4
abbrev ua3:Nat:=0
abbrev ua4:Nat:=0
end WW
set_option maxHeartbeats 4000000
set_option maxRecDepth 100000
namespace WW
def Aro (S:List Ent) (tk:List Nat) (ia ea iq eq:Nat) (l:List Q) (fl:Bool) (r:Rs):Prop :=
 ∃ S' k',r=(.tup [],S',tk,k')/\S'.length=S.length/\entAt S' ia ea=some (flat ceW l)/\FAq S' iq eq fl/\∀ j,j≠ia->j≠iq->nth S' j=nth S j
end WW
section
variable (S:List Ent) (tk:List Nat) (k iq eq:Nat) (fl:Bool)
namespace WW
theorem Awr:Ax0:=Ma0
end WW
end
end
section
open Go
open Go.Proofs.YthelkgdmgihhiaaGreat renaming ceW->ga0
set_option maxRecDepth 100000
namespace WW
structure Bf (S:List Ent) (iq eq:Nat) (I:TI) (t:Tb) (c:Cap):Prop where
 top:entAt S I.it I.et=some [.ifc 123 (rcvQ iq eq),intA t.vars,intA t.real,de I.ir I.er 1 t.rows.length,.sref I.ic I.ec 0 t.cost.length 4,de I.ib I.eb 1 t.rows.length,.frz (t.flip.map Di) c]
 nids:I.ids.length=t.rows.length
 rowsE:t.rows≠[]->entAt S I.ir I.er=some (I.ids.map (dp t.cost.length 4))
 rowE:∀ i p r,nth I.ids i=some p->nth t.rows i=some r->entAt S p.1 p.2=some (flat ceW r)
 rowW:∀ r ∈ t.rows,r.length=t.cost.length
 costE:entAt S I.ic I.ec=some (flat ceW t.cost)
 basisE:t.rows≠[]->entAt S I.ib I.eb=some (t.basis.map intA)
 nb:t.basis.length=t.rows.length
 nf:t.flip.length=t.rows.length
 fa:FAq S iq eq t.fl
 ap:Apart I iq
 okr:∀ r ∈ t.rows,okL qF r
 okc:okL qF t.cost
 bigW:t.cost.length<=1000000
 bigM:t.rows.length<=1000000
 real:t.real<t.cost.length
 bB:∀ b ∈ t.basis,b<t.cost.length
end WW
section
variable {S S':List Ent} {iq eq:Nat} {I:TI} {t:Tb} {c:Cap}
namespace WW
theorem Bf.row:Ax1:=fun {S S' iq eq I t c}=>Ma1
theorem Bf.setCost:Ax2:=fun {S S' iq eq I t c}=>Ma2
theorem Bf.setBasis:Ax3:=fun {S iq eq I t c}=>Ma3
theorem Bf.flag:Ax4:=fun {S S' iq eq I t c}=>Ma4
theorem Bf.app:Ax5:=fun {S iq eq I t c}=>Ma5
structure LowQ (I:TI) (iq n:Nat) (t:Tb):Prop where
 it:I.it<n
 ic:I.ic<n
 ir:t.rows≠[]->I.ir<n
 ib:t.rows≠[]->I.ib<n
 row:∀ p ∈ I.ids,p.1<n
 iq:True
theorem Bf.low (h:Bf S iq eq I t c):LowQ I iq S.length t:=by
 refine ⟨A7 h.top,A7 h.costE,fun hn=>A7 (h.rowsE hn),fun hn=>A7 (h.basisE hn),fun p hp=>?_,trivial⟩;exact Yau
theorem Bf.take:Ax6:=fun {S iq eq I t c}=>Ma6
theorem LowQ.of {n:Nat} {t':Tb} (h:LowQ I iq n t) (hn:t'.rows≠[]->t.rows≠[]):LowQ I iq n t':=⟨h.it,h.ic,fun h'=>h.ir (hn h'),fun h'=>h.ib (hn h'),h.row,h.iq⟩
theorem Bf.frame:Ax7:=fun {S S' iq eq I t c}=>Ma7
def Aai (S:List Ent) (tk:List Nat) (iq eq:Nat) (I:TI) (t':Tb) (cc:Cap) (v:AV) (r:Rs):Prop :=
 ∃ S' k',r=(v,S',tk,k')/\S'.length=S.length/\Bf S' iq eq I t' cc/\∀ j,OutQ I iq j->nth S' j=nth S j
end WW
end
end
section
open Go Tryz
open Go.Proofs.Tryz renaming func150->ga7,ntmps150->ga8,results150->ga9
open Go.Proofs.YthelkgdmgihhiaaGreat renaming ceW->ga0,Al->ga1,Av->ga5,Bv->ga6
set_option maxRecDepth 100000
namespace WW
abbrev ua5:Nat:=150
end WW
set_option maxHeartbeats 8000000
set_option maxRecDepth 100000
section
variable (S:List Ent) (tk:List Nat) (k iq eq:Nat)
namespace WW
theorem Aw1:Ax8:=Ma8
end WW
end
end
section
open Go Tryz
open Go.Proofs.Tryz renaming func149->ga10,ntmps149->ga11,results149->ga12
open Go.Proofs.YthelkgdmgihhiaaGreat renaming ceW->ga0,Al->ga1,Av->ga5,Bv->ga6
set_option maxRecDepth 100000
namespace WW
abbrev ua6:Nat:=149
end WW
set_option maxHeartbeats 8000000
set_option maxRecDepth 100000
section
variable (S:List Ent) (tk:List Nat) (k iq eq:Nat)
namespace WW
theorem Aqm:Ax9:=Ma9
end WW
end
end
section
open Go Tryz
open Go.Proofs.Tryz renaming func122->ga13,ntmps122->ga14,results122->ga15
open Go.Proofs.YthelkgdmgihhiaaGreat renaming ceW->ga0,Al->ga1
set_option maxRecDepth 100000
namespace WW
abbrev ua7:Nat:=122
end WW
set_option maxHeartbeats 8000000
set_option maxRecDepth 100000
section
variable (S:List Ent) (tk:List Nat) (k iq eq:Nat)
namespace WW
theorem Ap2:Ax10:=Ma10
end WW
end
end
section
open Go Tryz
open Go.Proofs.Tryz renaming func123->ga16,ntmps123->ga17,results123->ga18,func151->ga19,ntmps151->ga20,results151->ga21
open Go.Proofs.YthelkgdmgihhiaaGreat renaming ceW->ga0,Al->ga1,Av->ga5
set_option maxRecDepth 100000
namespace WW
abbrev ua8:Nat:=123
abbrev ua9:Nat:=151
end WW
set_option maxHeartbeats 4000000
set_option maxRecDepth 100000
namespace WW
def Ava (S:List Ent) (tk:List Nat) (iq eq:Nat) (y:Q × Bool) (r:Rs):Prop:=∃ k',r=(.agg (ceW y.1),flS S iq eq y.2,tk,k')
end WW
section
variable (S:List Ent) (tk:List Nat) (k iq eq:Nat)
namespace WW
theorem Alv:Ax11:=Ma11
theorem Ald:Ax12:=Ma12
end WW
end
end
section
open Go
set_option maxRecDepth 100000
namespace WW
theorem Gl (n:Int) (hn:i64 n):qF.ok (qF.whole n).1:=Du.whole n hn
theorem Alb:Ax13:=fun {S iq eq I t cc c}=>Ma13
end WW
end
section
open Go Tryz
open Go.Proofs.Tryz renaming func125->ga22,ntmps125->ga23,results125->ga24,func124->ga25,ntmps124->ga26,results124->ga27
open Go.Proofs.YthelkgdmgihhiaaGreat renaming ceW->ga0,Al->ga1,Av->ga5,Bv->ga6
set_option maxRecDepth 100000
namespace WW
abbrev ua10:Nat:=125
abbrev ua11:Nat:=0
abbrev ua12:Nat:=124
end WW
set_option maxHeartbeats 8000000
set_option maxRecDepth 100000
namespace WW
def Mm (l:List Q):List (List AV):=l.map fun q=>ceW (qF.rat q)
theorem Agx (l:List Q):B2 4 (Mm l)=true:=Za1v
def Aoz (S:List Ent) (iq eq:Nat) (I:TI) (t':Tb) (cc:Cap) (l:List Q) (r:Rs):Prop :=
 ∃ S' k' tk' c,r=(.frz (Mm l) c,S',tk',k')/\S'.length=S.length/\Bf S' iq eq I t' cc/\∀ j,OutQ I iq j->nth S' j=nth S j
end WW
section
variable (S:List Ent) (tk:List Nat) (k iq eq:Nat)
namespace WW
theorem Aw3:Ax14:=Ma14
theorem Aca:Ax15:=Ma15
end WW
end
end
section
open Go
open Go.Proofs.YthelkgdmgihhiaaGreat renaming ceW->ga0
set_option maxRecDepth 100000
namespace WW
theorem Bf.add:Ax16:=fun {S S' iq eq I t c c' ir er ib eb id nr b f fl' row}=>Ma16
structure Hd (S SS:List Ent) (iq eq:Nat) (I:TI) (t:Tb) (cp:Cap) (L nz n15 n16 n19:Nat) (z:Q) (r:RowT) (row:List Q) (u:Q):Prop where
 T:Bf SS iq eq I t cp
 low:LowQ I iq L t
 Z:entAt SS (S.length+1) nz=some (ceW z)
 E15:entAt SS L n15=some (rowC r)
 E16:entAt SS (L+1) n16=some (flat ceW row)
 E19:entAt SS (L+2) n19=some (ceW u)
 len:SS.length=L+3
 fr:∀ j,j<S.length->j≠iq->nth SS j=nth S j
 qL:iq<S.length
 SL:S.length+3<=L
 ic:I.ic=S.length+2
end WW
section
variable {S SS S':List Ent} {iq eq:Nat} {I:TI} {t:Tb} {cp:Cap} {L nz n15 n16 n19:Nat} {z u:Q} {r:RowT} {row:List Q}
namespace WW
theorem Hd.flag:Ax17:=fun {S SS S' iq eq I t cp L nz n15 n16 n19 z u r row fl'}=>Ma17
theorem Hd.put:Ax18:=fun {S SS iq eq I t cp L nz n15 n16 n19 z u r row}=>Ma18
theorem Hd.unit:Ax19:=fun {S SS iq eq I t cp L nz n15 n16 n19 z u r row}=>Ma19
theorem Hd.cost:Ax20:=fun {S SS iq eq I t cp L nz n15 n16 n19 z u r row k'}=>Ma20
end WW
end
end
section
open Go
namespace WW
def Ajl (S:List Ent) (l:List RowT) (vars:List ByteArray) (fl:Bool) (k iq eq c W nz:Nat) (z:Q) (i:Nat) (st:St):Prop :=
 ∃ sl t1 I cp,i<=l.length/\Bz qF l vars fl=begS qF z vars c W (l.drop i) i sl t1/\Bf st.S iq eq I t1 cp/\t1.rows.length=i/\t1.cost.length=W/\t1.real=c/\t1.vars=vars.length/\sl+neqs (l.drop i)=c/\Be st.tk cp 1=true/\entAt st.S (S.length+1) nz=some (ceW z)/\S.length+3<=st.S.length/\(∀ j,j<S.length->j≠iq->nth st.S j=nth S j)/\(I.it=S.length/\I.et=k/\I.ic=S.length+2)/\(S.length+2<I.ir/\S.length+2<I.ib/\∀ p ∈ I.ids,S.length+2<p.1) /\
  st.T.length=270/\getT st.T 0=.ifc 123 (rcvQ iq eq)/\getT st.T 1=.frz (l.map rowC) .unk/\getT st.T 2=.frz (vars.map strC) .unk/\getT st.T 7=.ref S.length k 0/\getT st.T 10=.int (sl:Nat)/\getT st.T 11=.int (W:Nat)/\getT st.T 12=.ref (S.length+1) nz 0/\getT st.T 83=.frz (l.map rowC) .unk/\getT st.T 84=.int (l.length:Nat)/\getT st.T 85=.int (i:Nat)
end WW
end
end Go.Proofs.YthelkgdmgihhiaaGreat
