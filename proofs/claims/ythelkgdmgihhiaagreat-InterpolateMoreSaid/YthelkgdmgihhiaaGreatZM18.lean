/- Part 18. -/
import Derived.Test.YthelkgdmgihhiaaGreatZM17
open Bool renaming or->Cj,or_false->Fk,or_assoc->Fx,false_ne_true->K2,false_or->Mf
open Go.IntKind renaming i64->Ce
open Go.Proofs.YthelkgdmgihhiaaGreat.AV renaming bool->Ca,int->Cg,str->Ch
open List renaming replicate->Cd,length_cons->Ck,map_cons->Cm,length_append->Cn,cons_append->Co,getElem?_append_left->Cp,mem_append->Cr,nil_append->Ct,map_nil->Cw,mem_cons->Cy,all_eq_true->Cz,length_nil->C3,length_eq_zero_iff->C5,append_assoc->C7,getElem?_append_right->C8,getElem?_eq_none->E9,take_of_length_le->Fa,drop_eq_nil_of_le->Ff,mem_singleton->Fj,getElem?_eq_some_iff->Fq,map_append->Ft,append_nil->Fu,getElem?_map->Fw,mem_map->Fy,length_map->Ib,mem_replicate->Ih,mem_of_getElem?->Il,take_length->Ir,getElem?_cons_zero->Iv,length_take->Iy,replicate_succ->I4,length_pos_iff->I5,take->Lv,length_replicate->Oa,singleton_append->Sk,map_map->iH,drop->iK,map_replicate->iN
open Nat renaming le_refl->Cb,zero_le->Cs,zero_add->Fo,mul_one->Ia,add_zero->I1,sub_self->I3,eq_zero_or_pos->fN
open Ne renaming symm->Od
open Option renaming bind_some->Lg
open Option.some renaming injEq->A0
open Prod.mk renaming injEq->Cc
namespace Go.Proofs.YthelkgdmgihhiaaGreat
section
open Go Tryz
open Go.Proofs.Tryz renaming f115->ga28,results115->ga29
open Go.Proofs.YthelkgdmgihhiaaGreat renaming ceQ->ga0,Ap->ga1,Bs->ga5,Ay->ga6
set_option maxRecDepth 100000
namespace QQ
abbrev ua13:Nat:=177
end QQ
set_option maxHeartbeats 20000000
set_option maxRecDepth 100000
section
variable (S:List Ent) (l:List RowT) (vars:List ByteArray) (fl:Bool) (k iq eq c W nz:Nat) (z:Q)
abbrev Ar21 (p:Prop:=by exact ∀ (S:List Ent)(l:List RowT)(vars:List ByteArray)(fl:Bool)(k iq eq c W nz:Nat)(z:Q)(hB:BegC S l vars iq c W)(Φ:Rs->Prop)(i:Nat)(bj:i<l.length)(r:RowT)(hr:nth l i=some r)(sl2:Nat)(jc:sl2+neqs (l.drop (i+1))=c)(t1:Tb)(I:TI)(cp:Cap)(tk:List Nat)(fk:t1.rows.length=i)(hcl:t1.cost.length=W)(df:t1.real=c)(ii:t1.vars=vars.length)(ae:Ba tk cp 1=true)(az:I.it=S.length/\I.et=k/\I.ic=S.length+2)(ik:S.length+2<I.ir/\S.length+2<I.ib/\∀ p ∈ I.ids,S.length+2<p.1)(rowZ:List Q)(fr:Bool)(na:rowZ.length=W)(orowZ:okL qF rowZ)(L m0 nu:Nat)(u:Q × Bool)(fb:Bool)(il:fb=Dt r)(SZ:List Ent)(n7 lv:Nat)(kt:E7 S SZ iq eq I { t1 with fl:=Cj t1.fl fr } cp L nz m0 (m0+1) nu z r rowZ u.1)(hR:Bp qF l vars fl=begS qF z vars c W (l.drop (i+1)) (i+1) sl2 { t1 with rows:=t1.rows++[rowZ],cost:=(costL qF c W 0 t1.cost rowZ).1,basis:=t1.basis++[c+i],flip:=t1.flip++[fb],fl:=Cj (Cj t1.fl fr) (costL qF c W 0 t1.cost rowZ).2 })(back:∀ st,Aet S l vars fl k iq eq c W nz z (i+1) st->Gd finM Φ (KA prog ga28 18 [] st))(T:List AV)(hT:T.length=270)(e0:getT T 0=.ifc ua0 (rcvQ iq eq))(e1:getT T 1=.frz (l.map rowC) .unk)(e2:getT T 2=.frz (vars.map strC) .unk)(e7:getT T 7=.ref S.length k 0)(e10:getT T 10=.int (sl2:Nat))(e11:getT T 11=.int (W:Nat))(e12:getT T 12=.ref (S.length+1) nz 0)(e14:getT T 14=.int (i:Nat))(e15:getT T 15=.ref L m0 0)(e16:getT T 16=.sref (L+1) (m0+1) 0 W ua2)(e18:getT T 18=.prim (.bool fb))(e19:getT T 19=.ref (L+2) nu 0)(e83:getT T 83=.frz (l.map rowC) .unk)(e84:getT T 84=.int (l.length:Nat))(e85:getT T 85=.int (i:Nat))(e194:getT T 194=.int (W:Nat))(e195:getT T 195=.int ((0:Nat):Int)),Gd finM Φ (KA prog ga28 43 [lv] ⟨T,SZ,tk,n7⟩)):=p
theorem Ma21 {p:Prop} (h:p:=by
 intro S l vars fl k iq eq c W nz z hB Φ i bj r hr sl2 jc t1 I cp tk fk hcl df ii ae az ik rowZ fr na orowZ L m0 nu u fb il SZ n7 lv kt hR back T hT e0 e1 e2 e7 e10 e11 e12 e14 e15 e16 e18 e19 e83 e84 e85 e194 e195;obtain ⟨hl,mf,hv,hc,ei,mh,sj,t7⟩:=hB;have sa:=L4 l;have qk:Ce.wrap ((W:Int) - 1)=((W - 1:Nat):Int):=aT
 have g9:W - 1<W:=aA
 have jd:Ce.wrap ((c:Int)+(i:Int))=((c+i:Nat):Int):=aR
 have xp:Ce.wrap ((i:Int)+1)=((i+1:Nat):Int):=aR
 have s5:c+i<W:=aA
 refine Acz rfl (t:=.mk) ?_;refine Eu (P:=prog) (fun x st=>st.T.length=270/\(costL qF c W 0 t1.cost rowZ=(x.2.2.1++(costL qF c W x.2.2.1.length x.2.2.2.1 (rowZ.drop x.2.2.1.length)).1,Cj x.2.2.2.2 (costL qF c W x.2.2.1.length x.2.2.2.1 (rowZ.drop x.2.2.1.length)).2))/\(x.2.2.1.length+x.2.2.2.1.length=W)/\(E7 S x.1 iq eq I { t1 with cost:=x.2.2.1++x.2.2.2.1,fl:=Cj (Cj t1.fl fr) x.2.2.2.2 } cp L nz m0 (m0+1) nu z r rowZ u.1)/\getT st.T 0=.ifc ua0 (rcvQ iq eq)/\getT st.T 1=.frz (l.map rowC) .unk/\getT st.T 2=.frz (vars.map strC) .unk/\getT st.T 7=.ref S.length k 0/\getT st.T 10=.int (sl2:Nat)/\getT st.T 11=.int (W:Nat)/\getT st.T 12=.ref (S.length+1) nz 0/\getT st.T 14=.int (i:Nat)/\getT st.T 15=.ref L m0 0/\getT st.T 16=.sref (L+1) (m0+1) 0 W ua2/\getT st.T 18=.prim (.bool fb)/\getT st.T 19=.ref (L+2) nu 0/\getT st.T 83=.frz (l.map rowC) .unk/\getT st.T 84=.int (l.length:Nat)/\getT st.T 85=.int (i:Nat)/\getT st.T 194=.int (W:Nat)/\getT st.T 195=.int (x.2.2.1.length:Nat)/\st.S=x.1/\st.tk=tk/\st.n=x.2.1) (fun x=>x.2.2.2.1.length) (SZ,n7,([]:List Q),t1.cost,false) ?_ ?_;case refine_2=>exact ⟨aG,rfl,by simpa using hcl,by simp only [Ct,Fk]; exact kt,aG,aG,aG,aG,aG,aG,aG,aG,aG,aG,aG,aG,aG,aG,aG,aG,aG,aG,aG,aG⟩
 rintro ⟨SS,n1,p,v,fq⟩ ⟨T,S',tk',n'⟩ ⟨hl,jt,oh,ag,e0,e1,e2,e7,e10,e11,e12,e14,e15,e16,e18,e19,e83,e84,e85,e194,e195,eS,eT,eN⟩ IH;simp only at jt oh ag e0 e1 e2 e7 e10 e11 e12 e14 e15 e16 e18 e19 e83 e84 e85 e194 e195 eS eT eN;subst eS eT eN;obtain ⟨g,hg,hT⟩:=Aw hl;rw [hg] at e0 e1 e2 e7 e10 e11 e12 e14 e15 e16 e18 e19 e83 e84 e85 e194 e195;subst hT;clear hg hl;have gj:(p++v).length=W:=by simpa using oh
 have ju:=ag.T.top;simp only [az.1,az.2.1,az.2.2,gj,df,ii,fk,intA] at ju;by_cases yk:p.length<W
 ·have c2:decide ((p.length:Int)<(W:Int))=true:=by simpa using yk
  obtain ⟨a0,v,rfl⟩:∃ a0 v',v=a0 :: v':=by
   cases v with
   | nil=>simp at oh; omega
   | cons x v=>exact ⟨x,v,rfl⟩
  obtain ⟨r0,b9⟩:=Ah (show p.length<rowZ.length by omega);have f7:=Av b9;have oa0:qF.ok a0:=ag.T.okc a0 (by simp);have or0:qF.ok r0:=orowZ r0 (Aj b9);have hw:Ce.wrap ((p.length:Int)+1)=(((p++[a0]).length:Nat):Int):=bR
  have vg:v.length<(a0 :: v).length:=by simp
  have hlp:∀ a:Q,(p++[a]).length=p.length+1:=fun a=>by simp
  rw [f7] at jt;simp only [costL] at jt;by_cases xr:p.length<c
  ·have c6:decide ((p.length:Int)<(c:Int))=true:=by simpa using xr
   have ah:H6 qF c W p.length a0 r0=qF.minus a0 r0:=by unfold H6; rw [if_pos (Or.inl xr)]
   have c7:=c6;have c7b:=c6;exact Ya4
  ·have c6:decide ((p.length:Int)<(c:Int))=false:=by simpa using xr
   by_cases ca:p.length=W - 1
   ·have c7:decide ((p.length:Int)=((W - 1:Nat):Int))=true:=by exact decide_eq_true aA
    have c7b:((p.length:Int) == ((W - 1:Nat):Int))=true:=by exact decide_eq_true aA
    have ah:H6 qF c W p.length a0 r0=qF.minus a0 r0:=by unfold H6; rw [if_pos (Or.inr ca)]
    exact Ya4
   ·have wl:¬ ((p.length:Int)=((W - 1:Nat):Int)):=fun h=>ca aA;have c7:decide ((p.length:Int)=((W - 1:Nat):Int))=false:=by simpa using wl
    have c7b:((p.length:Int) == ((W - 1:Nat):Int))=false:=by simpa using wl
    have ah:H6 qF c W p.length a0 r0=(a0,false):=by unfold H6; rw [if_neg aA]
    rw [ah] at jt;simp (maxSteps:=10^6)+contextual(disch:=try exact dqd)only[evg1,simprocAttr,Cg,Ca,Ch,ga29,e0,e1,e2,e7,e10,e11,e12,e14,e15,e16,e18,e19,e83,e84,e85,e194,e195,c2,c6,c7,c7b,hw,qk,ju];exact IH (S',n',p++[a0],v,fq) _ aF ⟨rfl,by rw [jt,hlp]; simp only [C7,Co,Ct,Mf],by show (p++[a0]).length+v.length=W; simp only [Cn,Ck,C3] at oh ⊢; omega,by simpa using ag,bW⟩
 ·have c2:decide ((p.length:Int)<(W:Int))=false:=by simpa using yk
  have a0l:v=[]:=C5.1 aA;subst a0l;simp only [costL,Fu,Fk] at jt ag gj ju;rw [jt] at hR;simp only at hR;clear IH jt;obtain ⟨m7,hm7⟩:∃ m7,m7=n':=⟨_,rfl⟩;subst hm7;obtain ⟨SW,hSW⟩:∃ SW,SW=S':=⟨_,rfl⟩;subst hSW;have yl:=ag.len;have hSL:=ag.SL;have hqL:=ag.qL;have pb:(t1.flip.map Dn).length+1<=1048576:=by rw [Ib,ag.T.nf]; simp only; omega
  have hfo:Dv 1 (t1.flip.map Dn)=true:=by
   unfold Dv;rw [Cz];intro e he;obtain ⟨b,-,rfl⟩:=Fy.1 he;rfl
  have bp:=apB_one (y:=[.prim (.bool fb)]) ae hfo rfl pb;have ee:=B0 ae;have wm:(t1.flip++[fb]).map Dn=t1.flip.map Dn++[[.prim (.bool fb)]]:=by simp [Dn]
  rcases fN i with jv|jv
  ·rw [jv] at ju;simp only [cw] at ju;have ym:S.length<SW.length:=aA
   have hP:∀ e x:Ent,put (SW++[e]) S.length x=put SW S.length x++[e]:=fun e x=>Dj ym;have hQ:∀ y e x:Ent,put (put SW S.length y++[e]) S.length x=put SW S.length x++[e]:=fun y e x=>by rw [Dj (by rw [Am]; exact ym),M6]
   have yd:∀ y e e' x:Ent,put (put SW S.length y++[e]++[e']) S.length x=put SW S.length x++[e]++[e']:=fun y e e' x=>by rw [Dj (by rw [Cn,Am]; omega),hQ]
   have hE:∀ cs,entAt (put SW S.length ⟨k,cs⟩) S.length k=some cs:=fun cs=>Ag ym;have hEa:∀ cs e,entAt (put SW S.length ⟨k,cs⟩++[e]) S.length k=some cs:=fun cs e=>Ab (hE cs);have hEb:∀ cs e e',entAt (put SW S.length ⟨k,cs⟩++[e]++[e']) S.length k=some cs:=fun cs e e'=>Ab (hEa cs e);have si:∀ e,entAt (SW++[e]) S.length k=_:=fun e=>Ab ju;have tj:∀ y e:Ent,(put SW S.length y++[e]).length=L+4:=fun y e=>by rw [Cn,Am,yl]; rfl
   have qp:∀ S n,apO prog ua13 (.frz [] .nilc) (.lit 1 [.sref (L+1) (m0+1) 0 W ua2]) S n=some (.sref S.length n 0 1 1,S++[⟨n,[.sref (L+1) (m0+1) 0 W ua2]⟩],n+1):=fun S n=>Afc aK rfl;have qq:∀ (c:Cap) x S n,apO prog 58 (.frz [] .nilc) (.frz [[.prim (.int .i64 x)]] c) S n=some (.sref S.length n 0 1 1,S++[⟨n,[.prim (.int .i64 x)]⟩],n+1):=fun c x S n=>Afb aK rfl;simp (maxSteps:=10^6)+contextual(disch:=try exact dqd)only[evg1,simprocAttr,Cg,Ca,Ch,ga29,e0,e1,e2,e7,e10,e11,e12,e14,e15,e16,e18,e19,e83,e84,e85,e194,e195,c2,ju,si,jd,xp,bp,qp,qq,P2,hP,hQ,yd,hE,hEa,hEb,tj,yl];have hne:0<i->t1.rows≠[]:=fun h=>aA
   have ig:I.ids=[]:=C5.1 (by rw [ag.T.nids]; simp only; omega);have qj:t1.basis=[]:=C5.1 (by have:=ag.T.nb; simp only at this; omega);obtain ⟨SF,jf⟩:∃ SF,SF=put SW S.length ⟨k,[.ifc ua0 (rcvQ iq eq),.int (vars.length:Nat),.int (c:Nat),.sref (L+3) m7 0 1 1,.sref (S.length+2) I.ec 0 W ua2,.sref (L+4) (m7+1) 0 1 1,.frz (t1.flip.map Dn++[[.prim (.bool fb)]]) (A4 tk' cp 1)]⟩++[⟨m7,[.sref (L+1) (m0+1) 0 W ua2]⟩]++[⟨m7+1,[.prim (.int .i64 ((c+i:Nat):Int))]⟩]:=⟨_,rfl⟩;rw [<- jf];have s8:(put SW S.length ⟨k,[.ifc ua0 (rcvQ iq eq),.int (vars.length:Nat),.int (c:Nat),.sref (L+3) m7 0 1 1,.sref (S.length+2) I.ec 0 W ua2,.sref (L+4) (m7+1) 0 1 1,.frz (t1.flip.map Dn++[[.prim (.bool fb)]]) (A4 tk' cp 1)]⟩).length=L+3:=by rw [Am,yl]
   have htF:entAt SF S.length k=some [.ifc ua0 (rcvQ iq eq),.int (vars.length:Nat),.int (c:Nat),.sref (L+3) m7 0 (i+1) 1,.sref (S.length+2) I.ec 0 W ua2,.sref (L+4) (m7+1) 0 (i+1) 1,.frz (t1.flip.map Dn++[[.prim (.bool fb)]]) (A4 tk' cp 1)]:=by rw [jf,hEb,jv]
   have hrF:entAt SF (L+3) m7=some ((I.ids++[(L+1,m0+1)]).map (f7 W ua2)):=by rw [jf,ig]; exact Ab (Al s8)
   have hbF:entAt SF (L+4) (m7+1)=some ((t1.basis++[c+i]).map intA):=by rw [jf,qj]; exact Al (by rw [Cn,s8]; rfl)
   have jg:∀ j,j<L+3->j≠S.length->(0<i->j≠I.ir/\j≠I.ib)->nth SF j=nth SW j:=fun j h1 h2 _=>by
    rw [jf,Bq (by rw [Cn,s8]; omega),Bq (by rw [s8]; exact h1),Ad (Od h2)]
   have hlF:SF.length=L+5:=by rw [jf,Cn,Cn,s8]; rfl
   have hIR:S.length+2<L+3:=aA
   have hIB:S.length+2<L+4:=aA
   have hAp:Apart ⟨I.it,I.et,L+3,m7,I.ic,I.ec,L+4,m7+1,I.ids++[(L+1,m0+1)]⟩ iq:=by
    rw [ig];constructor <;> first|(simp only; omega)|skip
    ·intro q hq;simp only [Ct,Fj] at hq;subst hq;simp only;exact ⟨aA,aA,aA,aA,aA⟩
    ·intro a b x y hx hy hab;have h1:=Bb hx;have h2:=Bb hy;simp only [Ct,Ck,C3] at h1 h2;omega
   have hRA:Az SF iq eq ⟨I.it,I.et,(L+3),m7,I.ic,I.ec,(L+4),(m7+1),I.ids++[(L+1,m0+1)]⟩ { t1 with rows:=t1.rows++[rowZ],cost:=p,basis:=t1.basis++[c+i],flip:=t1.flip++[fb],fl:=Cj (Cj t1.fl fr) fq } (A4 tk' cp 1):=by
    exact Ya9
   refine Pp rfl (back _ ⟨sl2,_,_,A4 tk' cp 1,aA,hR,hRA,by simp [fk],gj,df,ii,jc,ee,?_,?_,fun j h1 h2=>?_,⟨az.1,az.2.1,az.2.2⟩,⟨hIR,hIB,fun q hq=>?_⟩,rfl,rfl,rfl,rfl,rfl,rfl,rfl,rfl,rfl,rfl,rfl⟩)
   ·exact Ya2i
   ·show _<=SF.length;omega
   ·exact Ya2j
   ·rcases Cr.1 hq with hq|hq
    ·exact ik.2.2 q hq
    ·simp only [Fj] at hq; subst hq; simp only; omega
  ·rw [Bh jv,Bh jv] at ju;have hne:0<i->t1.rows≠[]:=fun h h0=>by rw [h0] at fk; simp only [C3] at fk; omega
   have ym:S.length<SW.length:=aA
   have bp:=ag.T.ap;have a2c:I.ir<L:=ag.low.ir (hne jv);have a2d:I.ib<L:=ag.low.ib (hne jv);have hrb:=bp.rb;have l7:entAt SW I.ir I.er=some (I.ids.map (f7 W ua2)):=by have h:=ag.T.rowsE (hne jv); simp only [gj] at h; exact h
   have te:entAt SW I.ib I.eb=some (t1.basis.map intA):=ag.T.basisE (hne jv);have jr:(I.ids.map (f7 W ua2)).length=i:=by rw [Ib,ag.T.nids]; exact fk
   have yn:(t1.basis.map intA).length=i:=by rw [Ib]; have:=ag.T.nb; simp only at this; omega
   obtain ⟨U1,tl⟩:∃ U1,U1=put SW I.ir ⟨m7,I.ids.map (f7 W ua2)++[.sref (L+1) (m0+1) 0 W ua2]⟩:=⟨_,rfl⟩;have hl1:U1.length=L+3:=by rw [tl,Am]; exact yl
   have cr:entAt U1 S.length k=some [.ifc ua0 (rcvQ iq eq),.int (vars.length:Nat),.int (c:Nat),.sref I.ir I.er 0 i 1,.sref (S.length+2) I.ec 0 W ua2,.sref I.ib I.eb 0 i 1,.frz (t1.flip.map Dn) cp]:=by rw [tl,Af aA]; exact ju
   obtain ⟨U2,tm⟩:∃ U2,U2=put U1 S.length ⟨k,[.ifc ua0 (rcvQ iq eq),.int (vars.length:Nat),.int (c:Nat),.sref I.ir m7 0 (i+1) 1,.sref (S.length+2) I.ec 0 W ua2,.sref I.ib I.eb 0 i 1,.frz (t1.flip.map Dn) cp]⟩:=⟨_,rfl⟩;have hl2:U2.length=L+3:=by rw [tm,Am]; exact hl1
   have ko:entAt U2 S.length k=some [.ifc ua0 (rcvQ iq eq),.int (vars.length:Nat),.int (c:Nat),.sref I.ir m7 0 (i+1) 1,.sref (S.length+2) I.ec 0 W ua2,.sref I.ib I.eb 0 i 1,.frz (t1.flip.map Dn) cp]:=by rw [tm]; exact Ag aA
   have hb2:entAt U2 I.ib I.eb=some (t1.basis.map intA):=by rw [tm,Af aA,tl,Af hrb]; exact te
   obtain ⟨U3,tn⟩:∃ U3,U3=put U2 I.ib ⟨m7+1,t1.basis.map intA++[.prim (.int .i64 ((c+i:Nat):Int))]⟩:=⟨_,rfl⟩;have ef:U3.length=L+3:=by rw [tn,Am]; exact hl2
   have n9:entAt U3 S.length k=some [.ifc ua0 (rcvQ iq eq),.int (vars.length:Nat),.int (c:Nat),.sref I.ir m7 0 (i+1) 1,.sref (S.length+2) I.ec 0 W ua2,.sref I.ib I.eb 0 i 1,.frz (t1.flip.map Dn) cp]:=by rw [tn,Af aA]; exact ko
   obtain ⟨U4,tp⟩:∃ U4,U4=put U3 S.length ⟨k,[.ifc ua0 (rcvQ iq eq),.int (vars.length:Nat),.int (c:Nat),.sref I.ir m7 0 (i+1) 1,.sref (S.length+2) I.ec 0 W ua2,.sref I.ib (m7+1) 0 (i+1) 1,.frz (t1.flip.map Dn) cp]⟩:=⟨_,rfl⟩;have pf:U4.length=L+3:=by rw [tp,Am]; exact ef
   have yj:entAt U4 S.length k=some [.ifc ua0 (rcvQ iq eq),.int (vars.length:Nat),.int (c:Nat),.sref I.ir m7 0 (i+1) 1,.sref (S.length+2) I.ec 0 W ua2,.sref I.ib (m7+1) 0 (i+1) 1,.frz (t1.flip.map Dn) cp]:=by rw [tp]; exact Ag aA
   obtain ⟨SF,jf⟩:∃ SF,SF=put U4 S.length ⟨k,[.ifc ua0 (rcvQ iq eq),.int (vars.length:Nat),.int (c:Nat),.sref I.ir m7 0 (i+1) 1,.sref (S.length+2) I.ec 0 W ua2,.sref I.ib (m7+1) 0 (i+1) 1,.frz (t1.flip.map Dn++[[.prim (.bool fb)]]) (A4 tk' cp 1)]⟩:=⟨_,rfl⟩;have hlF:SF.length=L+3:=by rw [jf,Am]; exact pf
   have a0m:=apB_one (y:=[.prim (.bool fb)]) ae hfo rfl pb;have qp:apO prog ua13 (.sref I.ir I.er 0 i 1) (.lit 1 [.sref (L+1) (m0+1) 0 W ua2]) SW m7=some (.sref I.ir m7 0 (i+1) 1,U1,m7+1):=by rw [tl]; exact Aa6 aK rfl l7 jr jv aA
   have qq:∀ cc:Cap,apO prog 58 (.sref I.ib I.eb 0 i 1) (.frz [[.prim (.int .i64 ((c+i:Nat):Int))]] cc) U2 (m7+1)=some (.sref I.ib (m7+1) 0 (i+1) 1,U3,m7+1+1):=fun cc=>by rw [tn]; exact Aa5 aK rfl hb2 yn jv aA
   have fh:=tm.symm;have tq:=tp.symm;have hs5:=jf.symm;simp (maxSteps:=10^6)+contextual(disch:=try exact dqd)only[evg1,simprocAttr,Cg,Ca,Ch,ga29,e0,e1,e2,e7,e10,e11,e12,e14,e15,e16,e18,e19,e83,e84,e85,e194,e195,c2,ju,jd,xp,a0m,qp,qq,P2,cr,ko,n9,yj,fh,tq,hs5];have htF:entAt SF S.length k=some [.ifc ua0 (rcvQ iq eq),.int (vars.length:Nat),.int (c:Nat),.sref I.ir m7 0 (i+1) 1,.sref (S.length+2) I.ec 0 W ua2,.sref I.ib (m7+1) 0 (i+1) 1,.frz (t1.flip.map Dn++[[.prim (.bool fb)]]) (A4 tk' cp 1)]:=by rw [jf]; exact Ag aA
   have hrF:entAt SF I.ir m7=some ((I.ids++[(L+1,m0+1)]).map (f7 W ua2)):=by
    rw [jf,Af aA,tp,Af aA,tn,Af (Od hrb),tm,Af aA,tl,Ag aA];simp [f7]
   have hbF:entAt SF I.ib (m7+1)=some ((t1.basis++[c+i]).map intA):=by
    rw [jf,Af aA,tp,Af aA,tn,Ag aA];simp [intA]
   have jg:∀ j,j<L+3->j≠S.length->(0<i->j≠I.ir/\j≠I.ib)->nth SF j=nth SW j:=fun j h1 h2 h3=>by
    have h4:=h3 jv;rw [jf,Ad (Od h2),tp,Ad (Od h2),tn,Ad (Od h4.2),tm,Ad (Od h2),tl,Ad (Od h4.1)]
   have hIR:S.length+2<I.ir:=ik.1;have hIB:S.length+2<I.ib:=ik.2.1;have hAp:Apart ⟨I.it,I.et,I.ir,m7,I.ic,I.ec,I.ib,m7+1,I.ids++[(L+1,m0+1)]⟩ iq:=by
    refine ⟨bp.tr,bp.tc,bp.tb,bp.rc,bp.rb,bp.cb,bp.qt,bp.qr,bp.qc,bp.qb,fun q hq=>?_,fun a b x y hx hy hab=>?_⟩
    ·rcases Cr.1 hq with hq|hq
     ·exact bp.row q hq
     ·simp only [Fj] at hq;subst hq;simp only;exact ⟨aA,aA,aA,aA,aA⟩
    ·have h1:=Bb hx;have h2:=Bb hy;rw [Cn] at h1 h2;simp only [Ck,C3] at h1 h2;rw [Ae] at hx hy;by_cases ha:a<I.ids.length
     ·rw [Cp ha,<- Ae] at hx;by_cases hb:b<I.ids.length
      ·rw [Cp hb,<- Ae] at hy;exact bp.rows a b x y hx hy hab
      ·have hb2:b=I.ids.length:=aA
       rw [hb2,C8 (Cb _),I3] at hy;simp only [Iv,A0] at hy;subst hy;have:=ag.low.row x (Aj hx);simp only; omega
     ·have l6:a=I.ids.length:=aA
      have hb:b<I.ids.length:=aA
      rw [l6,C8 (Cb _),I3] at hx;simp only [Iv,A0] at hx;subst hx;rw [Cp hb,<- Ae] at hy;have:=ag.low.row y (Aj hy);simp only; omega
   have hRA:Az SF iq eq ⟨I.it,I.et,I.ir,m7,I.ic,I.ec,I.ib,(m7+1),I.ids++[(L+1,m0+1)]⟩ { t1 with rows:=t1.rows++[rowZ],cost:=p,basis:=t1.basis++[c+i],flip:=t1.flip++[fb],fl:=Cj (Cj t1.fl fr) fq } (A4 tk' cp 1):=by
    exact Ya9
   refine Pp rfl (back _ ⟨sl2,_,_,A4 tk' cp 1,aA,hR,hRA,by simp [fk],gj,df,ii,jc,ee,?_,?_,fun j h1 h2=>?_,⟨az.1,az.2.1,az.2.2⟩,⟨hIR,hIB,fun q hq=>?_⟩,rfl,rfl,rfl,rfl,rfl,rfl,rfl,rfl,rfl,rfl,rfl⟩)
   ·exact Ya2i
   ·show _<=SF.length;omega
   ·exact Ya2j
   ·rcases Cr.1 hq with hq|hq
    ·exact ik.2.2 q hq
    ·simp only [Fj] at hq; subst hq; simp only; omega):p:=h
namespace QQ
theorem Apf:Ar21:=Ma21
end QQ
end
end
section
open Go Tryz
open Go.Proofs.Tryz renaming f115->ga28,results115->ga29
open Go.Proofs.YthelkgdmgihhiaaGreat renaming ceQ->ga0,Ap->ga1,Bs->ga5,Ay->ga6
set_option maxRecDepth 100000
set_option maxHeartbeats 20000000
set_option maxRecDepth 100000
section
variable (S:List Ent) (l:List RowT) (vars:List ByteArray) (fl:Bool) (k iq eq c W nz:Nat) (z:Q)
abbrev Ar22 (p:Prop:=by exact ∀ (S:List Ent)(l:List RowT)(vars:List ByteArray)(fl:Bool)(k iq eq c W nz:Nat)(z:Q)(hB:BegC S l vars iq c W)(oz:qF.ok z)(Φ:Rs->Prop)(i:Nat)(bj:i<l.length)(r:RowT)(hr:nth l i=some r)(sl:Nat)(r7:sl+neqs (l.drop i)=c)(t1:Tb)(I:TI)(cp:Cap)(tk:List Nat)(fk:t1.rows.length=i)(hcl:t1.cost.length=W)(df:t1.real=c)(ii:t1.vars=vars.length)(ae:Ba tk cp 1=true)(az:I.it=S.length/\I.et=k/\I.ic=S.length+2)(ik:S.length+2<I.ir/\S.length+2<I.ib/\∀ p ∈ I.ids,S.length+2<p.1)(L m0 nu:Nat)(u:Q × Bool)(hU:Jj qF (Dt r)=u)(ou:qF.ok u.1)(SX:List Ent)(nx lv:Nat)(fm:E7 S SX iq eq I { t1 with fl:=Cj t1.fl u.2 } cp L nz m0 (m0+1) nu z r (Cd W z) u.1)(hR:Bp qF l vars fl=begS qF z vars c W (l.drop i) i sl t1)(back:∀ st,Aet S l vars fl k iq eq c W nz z (i+1) st->Gd finM Φ (KA prog ga28 18 [] st))(T:List AV)(hT:T.length=270)(e0:getT T 0=.ifc ua0 (rcvQ iq eq))(e1:getT T 1=.frz (l.map rowC) .unk)(e2:getT T 2=.frz (vars.map strC) .unk)(e7:getT T 7=.ref S.length k 0)(e10:getT T 10=.int (sl:Nat))(e11:getT T 11=.int (W:Nat))(e12:getT T 12=.ref (S.length+1) nz 0)(e14:getT T 14=.int (i:Nat))(e15:getT T 15=.ref L m0 0)(e16:getT T 16=.sref (L+1) (m0+1) 0 W ua2)(e18:getT T 18=.prim (.bool (Dt r)))(e19:getT T 19=.ref (L+2) nu 0)(e83:getT T 83=.frz (l.map rowC) .unk)(e84:getT T 84=.int (l.length:Nat))(e85:getT T 85=.int (i:Nat))(e113:getT T 113=.frz (r.1.map A2) .unk)(e114:getT T 114=.int (r.1.length:Nat))(e115:getT T 115=.int ((0:Nat):Int)),Gd finM Φ (KA prog ga28 31 [lv] ⟨T,SX,tk,nx⟩)):=p
theorem Ma22 {p:Prop} (h:p:=by
 intro S l vars fl k iq eq c W nz z hB oz Φ i bj r hr sl r7 t1 I cp tk fk hcl df ii ae az ik L m0 nu u hU ou SX nx lv fm hR back T hT e0 e1 e2 e7 e10 e11 e12 e14 e15 e16 e18 e19 e83 e84 e85 e113 e114 e115;have hB2:=hB;obtain ⟨hl,mf,hv,hc,ei,mh,sj,t7⟩:=hB2;have sa:=L4 l;have tu:r ∈ l:=Aj hr;have kv:i64 r.2.1:=(hc r tu).1;refine Acz rfl (t:=.mk) ?_;refine Eu (P:=prog) (fun x st=>st.T.length=270/\(x.2.2.1<=r.1.length)/\(coefsC qF u.1 z vars r.1 (Cd W z)=((coefsC qF u.1 z vars (r.1.drop x.2.2.1) x.2.2.2.1).1,Cj x.2.2.2.2 (coefsC qF u.1 z vars (r.1.drop x.2.2.1) x.2.2.2.1).2))/\(x.2.2.2.1.length=W)/\(okL qF x.2.2.2.1)/\(E7 S x.1 iq eq I { t1 with fl:=Cj (Cj t1.fl u.2) x.2.2.2.2 } cp L nz m0 (m0+1) nu z r x.2.2.2.1 u.1)/\getT st.T 0=.ifc ua0 (rcvQ iq eq)/\getT st.T 1=.frz (l.map rowC) .unk/\getT st.T 2=.frz (vars.map strC) .unk/\getT st.T 7=.ref S.length k 0/\getT st.T 10=.int (sl:Nat)/\getT st.T 11=.int (W:Nat)/\getT st.T 12=.ref (S.length+1) nz 0/\getT st.T 14=.int (i:Nat)/\getT st.T 15=.ref L m0 0/\getT st.T 16=.sref (L+1) (m0+1) 0 W ua2/\getT st.T 18=.prim (.bool (Dt r))/\getT st.T 19=.ref (L+2) nu 0/\getT st.T 83=.frz (l.map rowC) .unk/\getT st.T 84=.int (l.length:Nat)/\getT st.T 85=.int (i:Nat)/\getT st.T 113=.frz (r.1.map A2) .unk/\getT st.T 114=.int (r.1.length:Nat)/\getT st.T 115=.int (x.2.2.1:Nat)/\st.S=x.1/\st.tk=tk/\st.n=x.2.1) (fun x=>r.1.length - x.2.2.1) (SX,nx,0,(Cd W z),false) ?_ ?_;case refine_2=>exact ⟨aG,Cs _,rfl,by simp,fun q hq=>by rw [Ih] at hq; rw [hq.2]; exact oz,by simp only [Fk]; exact fm,aG,aG,aG,aG,aG,aG,aG,aG,aG,aG,aG,aG,aG,aG,aG,aG,aG,aG,aG,aG,aG⟩
 rintro ⟨SS,n1,j,row,f1⟩ ⟨T,S',tk',n'⟩ ⟨hl,m6,oi,dp,orow,fm,e0,e1,e2,e7,e10,e11,e12,e14,e15,e16,e18,e19,e83,e84,e85,e113,e114,e115,eS,eT,eN⟩ IH;simp only at m6 oi dp orow fm e0 e1 e2 e7 e10 e11 e12 e14 e15 e16 e18 e19 e83 e84 e85 e113 e114 e115 eS eT eN;subst eS eT eN;obtain ⟨g,hg,hT⟩:=Aw hl;rw [hg] at e0 e1 e2 e7 e10 e11 e12 e14 e15 e16 e18 e19 e83 e84 e85 e113 e114 e115;subst hT;clear hg hl;have ka:=ei r tu;by_cases qg:j<r.1.length
 ·have c2:decide ((j:Int)<(r.1.length:Int))=true:=fF
  have hw:Ce.wrap ((j:Int)+1)=((j+1:Nat):Int):=aR
  obtain ⟨ct,hct⟩:=Ah qg;have a0n:nth (r.1.map A2) j=some [.prim (.string ct.1),.prim (.int .i64 ct.2)]:=by rw [Er,hct]; rfl
  have wo:ct ∈ r.1:=Aj hct;have nv:=Mt (hv r tu ct wo);obtain ⟨x,hx⟩:∃ x,x=idxV vars ct.1:=⟨_,rfl⟩;rw [<- hx] at nv;have oj S tk k:=Ub S tk k vars ct.1 aA;simp only [nv.1] at oj;have hb1:2*x<W:=aA
  have hb2:2*x+1<W:=aA
  have a0o:Ce.wrap (2*(x:Int))=((2*x:Nat):Int):=aR
  have a0p:Ce.wrap (((2*x:Nat):Int)+1)=((2*x+1:Nat):Int):=aR
  have oc:=Av hct;have hlX:=fm.len;have dn:=fm.T.fa;have ws:i64 ct.2:=(hc r tu).2 ct wo;obtain ⟨w,jq⟩:∃ w,w=qF.whole ct.2:=⟨_,rfl⟩;have ow:qF.ok w.1:=by rw [jq]; exact Eh _ ws
  have iy:=K0 (S'++[(⟨n',[.prim (.string ct.1),.prim (.int .i64 ct.2)]⟩:Ent)]) tk' (n'+1) iq eq _ ct.2 ws dn.app;have hg1:=D9 (c:=w.2) (dn.app (L:=[(⟨n',[.prim (.string ct.1),.prim (.int .i64 ct.2)]⟩:Ent)]));rw [<- jq] at iy;rw [G3 dn] at iy hg1;obtain ⟨S1a,ku⟩:∃ S1a,S1a=flS S' iq eq w.2:=⟨_,rfl⟩;have je:=fm.flag (S':=flS S' iq eq w.2) (fun j hj=>ga6 hj) Be dn.fS;rw [<- ku] at iy hg1 je;have il:=je.T.fa;obtain ⟨y,kw⟩:∃ y,y=qF.times u.1 w.1:=⟨_,rfl⟩;have oy:qF.ok y.1:=Za21
  have jw:=Aco (S1a++[(⟨n',[.prim (.string ct.1),.prim (.int .i64 ct.2)]⟩:Ent)]) tk' (n'+1+ua3) iq eq _ u.1 w.1 ou ow il.app;have hg2:=D9 (c:=y.2) (il.app (L:=[(⟨n',[.prim (.string ct.1),.prim (.int .i64 ct.2)]⟩:Ent)]));rw [<- kw] at jw;rw [G3 il] at jw hg2;obtain ⟨S2a,a0q⟩:∃ S2a,S2a=flS S1a iq eq y.2:=⟨_,rfl⟩;have fj:=je.flag (S':=flS S1a iq eq y.2) (fun j hj=>ga6 hj) Be il.fS;rw [<- a0q] at jw hg2 fj;have ie:=fj.put (put row (2*x) y.1);obtain ⟨S3a,wt⟩:∃ S3a,S3a=put S2a (L+1) ⟨m0+1,flat ga0 (put row (2*x) y.1)⟩:=⟨_,rfl⟩;rw [<- wt] at ie;have a2e:=fj.len;have hP3:∀ e:Ent,put (S2a++[e]) (L+1) ⟨m0+1,flat ga0 (put row (2*x) y.1)⟩=S3a++[e]:=fun e=>by rw [Dj aA,wt]
  have fo:=ie.T.fa;obtain ⟨d,gn⟩:∃ d,d=qF.minus z y.1:=⟨_,rfl⟩;have od:qF.ok d.1:=Za22
  have dj:=Lu (S3a++[(⟨n',[.prim (.string ct.1),.prim (.int .i64 ct.2)]⟩:Ent)]) tk' (n'+1+ua3+ua4) iq eq _ z y.1 oz oy fo.app;have hg3:=D9 (c:=d.2) (fo.app (L:=[(⟨n',[.prim (.string ct.1),.prim (.int .i64 ct.2)]⟩:Ent)]));rw [<- gn] at dj;rw [G3 fo] at dj hg3;obtain ⟨S4a,a0r⟩:∃ S4a,S4a=flS S3a iq eq d.2:=⟨_,rfl⟩;have yo:=ie.flag (S':=flS S3a iq eq d.2) (fun j hj=>ga6 hj) Be fo.fS;rw [<- a0r] at dj hg3 yo;have a2f:=yo.len;have kx:=yo.put (put (put row (2*x) y.1) (2*x+1) d.1);obtain ⟨S5a,jh⟩:∃ S5a,S5a=put S4a (L+1) ⟨m0+1,flat ga0 (put (put row (2*x) y.1) (2*x+1) d.1)⟩:=⟨_,rfl⟩;rw [<- jh] at kx;have hP5:∀ e:Ent,put (S4a++[e]) (L+1) ⟨m0+1,flat ga0 (put (put row (2*x) y.1) (2*x+1) d.1)⟩=S5a++[e]:=fun e=>by rw [Dj aA,jh]
  have hl5:=kx.len;have kr:∀ e:Ent,Lv S'.length (S5a++[e])=S5a:=fun e=>by rw [hlX,<- hl5]; simp
  have we:∀ e:Ent,entAt (S'++[e]) (L+2) nu=some (ga0 u.1):=fun e=>Ab fm.E19;have th:∀ e:Ent,entAt (S2a++[e]) (L+1) (m0+1)=some (flat ga0 row):=fun e=>Ab fj.E16;have hE3:∀ e:Ent,entAt (S3a++[e]) (S.length+1) nz=some (ga0 z):=fun e=>Ab ie.Z;have qh:∀ e:Ent,entAt (S3a++[e]) (L+1) (m0+1)=some (flat ga0 (put row (2*x) y.1)):=fun e=>Ab ie.E16;have qi:∀ e:Ent,entAt (S4a++[e]) (L+1) (m0+1)=some (flat ga0 (put row (2*x) y.1)):=fun e=>Ab yo.E16;have fw:=A9 (ce:=ga0) ga1 (l:=row) (k:=2*x) (q':=y.1) aA;have l9:=A9 (ce:=ga0) ga1 (l:=put row (2*x) y.1) (k:=2*x+1) (q':=d.1) (by rw [Ai]; omega);have htx:=Aq (ce:=ga0) ga1 (l:=put row (2*x) y.1) (k:=2*x) (q:=y.1) (Di aA);simp (maxSteps:=10^6)+contextual(disch:=try exact dqd)only[evg1,simprocAttr,Cg,Ca,Ch,ga29,e0,e1,e2,e7,e10,e11,e12,e14,e15,e16,e18,e19,e83,e84,e85,e113,e114,e115,c2,hw,a0n,oj,a0o,a0p,hb1,hb2,iy,hg1,jw,hg2,hP3,dj,hg3,hP5,kr,we,th,hE3,qh,qi,fw,l9,htx,Ek,xfs,puQ,tkQ,ga1,ga5];have hsc:setC qF u.1 z (idxV vars ct.1) row ct.2=(put (put row (2*x) y.1) (2*x+1) d.1,Cj (Cj w.2 y.2) d.2):=by unfold setC; rw [<- hx,<- jq,<- kw,<- gn]
  rw [oc] at oi;simp only [coefsC,hsc] at oi;have orow2:okL qF (put (put row (2*x) y.1) (2*x+1) d.1):=by
   intro q hq;rcases Bo hq with rfl|hq
   ·exact od
   ·rcases Bo hq with rfl|hq
    ·exact oy
    ·exact orow q hq
  exact IH (S5a,n'+1+ua3+ua4+ua4,j+1,put (put row (2*x) y.1) (2*x+1) d.1,Cj f1 (Cj (Cj w.2 y.2) d.2)) _ aF ⟨rfl,aE,by rw [oi]; simp only [Fx],by rw [Ai,Ai]; exact dp,orow2,by simpa only [Fx] using kx,bW⟩
 ·have c2:decide ((j:Int)<(r.1.length:Int))=false:=fF
  have hj0:r.1.drop j=[]:=Ff aA;rw [hj0] at oi;simp only [coefsC,Fk] at oi;clear IH hj0 qg m6;obtain ⟨n6,hn6⟩:∃ n6,n6=n':=⟨_,rfl⟩;subst hn6;obtain ⟨SU,hSU⟩:∃ SU,SU=S':=⟨_,rfl⟩;subst hSU;have wu:=M2 hr;have ky:=fm.E15;have om:=fm.E19;have dw:=fm.E16;simp only [rowC,Ak] at ky;have hlU:=fm.len;cases heq:r.2.2
  ·rw [heq,if_neg K2] at wu;have j1:sl<W:=aA
   have fh:=A9 (ce:=ga0) ga1 (l:=row) (k:=sl) (q':=u.1) aA;have mg:Ce.wrap ((sl:Int)+1)=((sl+1:Nat):Int):=aR
   have ag:=fm.put (put row sl u.1);obtain ⟨rowY,b6⟩:∃ rowY,rowY=put row sl u.1:=⟨_,rfl⟩;have hsF:Ng r.2.2 row sl u.1=rowY:=by rw [b6,heq]; rfl
   have qu:rowY.length=W:=by rw [b6,Ai]; exact dp
   have orowY:okL qF rowY:=by
    rw [b6];intro q hq;rcases Bo hq with rfl|hq
    ·exact ou
    ·exact orow q hq
   rw [<- b6] at fh ag;obtain ⟨SY,wv⟩:∃ SY,SY=put SU (L+1) ⟨m0+1,flat ga0 rowY⟩:=⟨_,rfl⟩;rw [<- wv] at ag;have tq:=wv.symm;obtain ⟨sl2,ww⟩:∃ sl2,sl2=sl+1:=⟨_,rfl⟩;have qw:(if r.2.2=true then sl else sl+1)=sl2:=by rw [heq,ww]; rfl
   have jc:sl2+neqs (l.drop (i+1))=c:=aA
   rw [<- ww] at mg;clear wv;have wx:=ag.T.top;simp only [az.1,az.2.1,az.2.2,hcl,df,ii,fk,intA] at wx;have s5:c+i<W:=aA
   have jd:Ce.wrap ((c:Int)+(i:Int))=((c+i:Nat):Int):=aR
   have qk:Ce.wrap ((W:Int) - 1)=((W - 1:Nat):Int):=aT
   have g9:W - 1<W:=aA
   have dn:=ag.T.fa;obtain ⟨o,l8⟩:∃ o,o=qF.whole 1:=⟨_,rfl⟩;have oo:qF.ok o.1:=by rw [l8]; exact Eh 1 aD
   have qx:=K0 SY tk' n6 iq eq _ 1 aD dn;have lz:=D9 (c:=o.2) dn;rw [<- l8] at qx;obtain ⟨S5a,jh⟩:∃ S5a,S5a=flS SY iq eq o.2:=⟨_,rfl⟩;have kx:=ag.flag (S':=flS SY iq eq o.2) (fun j hj=>ga6 hj) Be dn.fS;rw [<- jh] at qx lz kx;have wy:=A9 (ce:=ga0) ga1 (l:=rowY) (k:=c+i) (q':=o.1) aA;have gm:=kx.put (put rowY (c+i) o.1);obtain ⟨row6,b7⟩:∃ row6,row6=put rowY (c+i) o.1:=⟨_,rfl⟩;have qy:row6.length=W:=by rw [b7,Ai]; exact qu
   obtain ⟨S6a,kz⟩:∃ S6a,S6a=put S5a (L+1) ⟨m0+1,flat ga0 row6⟩:=⟨_,rfl⟩;rw [<- b7] at wy gm;rw [<- kz] at gm;have k7:=kx.E16;have il:=gm.T.fa;have hZ6:=gm.Z;have ft:=gm.E15;have k8:=gm.E19;simp only [rowC,Ak] at ft;obtain ⟨w,jq⟩:∃ w,w=qF.whole r.2.1:=⟨_,rfl⟩;have ow:qF.ok w.1:=by rw [jq]; exact Eh _ kv
   have iy:=K0 S6a tk' (n6+ua3) iq eq _ r.2.1 kv il;have hg1:=D9 (c:=w.2) il;rw [<- jq] at iy;obtain ⟨S7a,q6⟩:∃ S7a,S7a=flS S6a iq eq w.2:=⟨_,rfl⟩;have q7:=gm.flag (S':=flS S6a iq eq w.2) (fun j hj=>ga6 hj) Be il.fS;rw [<- q6] at iy hg1 q7;have fo:=q7.T.fa;obtain ⟨y,kw⟩:∃ y,y=qF.times u.1 w.1:=⟨_,rfl⟩;have oy:qF.ok y.1:=Za21
   have jw:=Aco S7a tk' (n6+ua3+ua3) iq eq _ u.1 w.1 ou ow fo;have hg2:=D9 (c:=y.2) fo;rw [<- kw] at jw;obtain ⟨S8a,q8⟩:∃ S8a,S8a=flS S7a iq eq y.2:=⟨_,rfl⟩;have q9:=q7.flag (S':=flS S7a iq eq y.2) (fun j hj=>ga6 hj) Be fo.fS;rw [<- q8] at jw hg2 q9;have ra:=q9.T.fa;obtain ⟨d,gn⟩:∃ d,d=qF.minus z y.1:=⟨_,rfl⟩;have od:qF.ok d.1:=Za22
   have dj:=Lu S8a tk' (n6+ua3+ua3+ua4) iq eq _ z y.1 oz oy ra;have hg3:=D9 (c:=d.2) ra;rw [<- gn] at dj;obtain ⟨S9a,re⟩:∃ S9a,S9a=flS S8a iq eq d.2:=⟨_,rfl⟩;have rg:=q9.flag (S':=flS S8a iq eq d.2) (fun j hj=>ga6 hj) Be ra.fS;rw [<- re] at dj hg3 rg;have wz:=A9 (ce:=ga0) ga1 (l:=row6) (k:=W - 1) (q':=d.1) aA;have k9:=rg.E16;have rh:=rg.put (put row6 (W - 1) d.1);obtain ⟨rowZ,b8⟩:∃ rowZ,rowZ=put row6 (W - 1) d.1:=⟨_,rfl⟩;have na:rowZ.length=W:=by rw [b8,Ai]; exact qy
   have orowZ:okL qF rowZ:=by
    exact Ya0y
   obtain ⟨SZ,w7⟩:∃ SZ,SZ=put S9a (L+1) ⟨m0+1,flat ga0 rowZ⟩:=⟨_,rfl⟩;rw [<- b8] at wz rh;rw [<- w7] at rh;have dv:Rb qF u.1 z r.2.1=(d.1,Cj (Cj w.2 y.2) d.2):=by unfold Rb; rw [<- jq,<- kw,<- gn]
   have fu:rowF qF z vars c W i sl r=(rowZ,Cj (Cj (Cj u.2 f1) o.2) (Cj (Cj w.2 y.2) d.2)):=by
    unfold rowF;simp only [hU,oi,dv,hsF,<- l8,<- b7,<- b8]
   obtain ⟨fr,lg⟩:∃ fr,fr=Cj (Cj (Cj u.2 f1) o.2) (Cj (Cj w.2 y.2) d.2):=⟨_,rfl⟩;rw [<- lg] at fu;have kt:E7 S SZ iq eq I { t1 with fl:=Cj t1.fl fr } cp L nz m0 (m0+1) nu z r rowZ u.1:=by
    rw [lg];simpa only [Fx] using rh
   have ri:=kz.symm;have rj:=w7.symm;simp (maxSteps:=10^6)+contextual(disch:=try exact dqd)only[evg1,simprocAttr,Cg,Ca,Ch,ga29,e0,e1,e2,e7,e10,e11,e12,e14,e15,e16,e18,e19,e83,e84,e85,e113,e114,e115,c2,ky,om,dw,heq,j1,fh,mg,tq,wx,s5,jd,qk,g9,qx,lz,wy,k7,ri,hZ6,ft,k8,iy,hg1,jw,hg2,dj,hg3,wz,k9,rj,Ek,xfs,puQ,tkQ,ga1,ga5];have kq:begS qF z vars c W (l.drop i) i sl t1=begS qF z vars c W (l.drop (i+1)) (i+1) sl2 { t1 with rows:=t1.rows++[rowZ],cost:=(costL qF c W 0 t1.cost rowZ).1,basis:=t1.basis++[c+i],flip:=t1.flip++[Dt r],fl:=Cj (Cj t1.fl fr) (costL qF c W 0 t1.cost rowZ).2 }:=by
    rw [Av hr];simp only [begS,df];rw [fu,qw]
   rw [kq] at hR;exact Pp rfl (Apf S l vars fl k iq eq c W nz z hB Φ i bj r hr sl2 jc t1 I cp tk' fk hcl df ii ae az ik rowZ fr na orowZ L m0 nu u (Dt r) rfl SZ _ _ kt hR back _ rfl rfl rfl rfl rfl rfl rfl rfl rfl rfl rfl rfl rfl rfl rfl rfl rfl rfl)
  ·rw [heq,if_pos rfl] at wu;have j1:0<W:=aA
   have fh:=j1;have mg:=j1;have tq:=j1;have ag:=fm;obtain ⟨rowY,b6⟩:∃ rowY,rowY=row:=⟨_,rfl⟩;have hsF:Ng r.2.2 row sl u.1=rowY:=by rw [b6,heq]; rfl
   have qu:rowY.length=W:=by rw [b6]; exact dp
   have orowY:okL qF rowY:=by rw [b6]; exact orow
   rw [<- b6] at ag;obtain ⟨SY,wv⟩:∃ SY,SY=SU:=⟨_,rfl⟩;subst wv;have qw:(if r.2.2=true then sl else sl+1)=sl:=by rw [heq]; rfl
   have jc:sl+neqs (l.drop (i+1))=c:=aA
   have wx:=ag.T.top;simp only [az.1,az.2.1,az.2.2,hcl,df,ii,fk,intA] at wx;have s5:c+i<W:=aA
   have jd:Ce.wrap ((c:Int)+(i:Int))=((c+i:Nat):Int):=aR
   have qk:Ce.wrap ((W:Int) - 1)=((W - 1:Nat):Int):=aT
   have g9:W - 1<W:=aA
   have dn:=ag.T.fa;obtain ⟨o,l8⟩:∃ o,o=qF.whole 1:=⟨_,rfl⟩;have oo:qF.ok o.1:=by rw [l8]; exact Eh 1 aD
   have qx:=K0 SY tk' n6 iq eq _ 1 aD dn;have lz:=D9 (c:=o.2) dn;rw [<- l8] at qx;obtain ⟨S5a,jh⟩:∃ S5a,S5a=flS SY iq eq o.2:=⟨_,rfl⟩;have kx:=ag.flag (S':=flS SY iq eq o.2) (fun j hj=>ga6 hj) Be dn.fS;rw [<- jh] at qx lz kx;have wy:=A9 (ce:=ga0) ga1 (l:=rowY) (k:=c+i) (q':=o.1) aA;have gm:=kx.put (put rowY (c+i) o.1);obtain ⟨row6,b7⟩:∃ row6,row6=put rowY (c+i) o.1:=⟨_,rfl⟩;have qy:row6.length=W:=by rw [b7,Ai]; exact qu
   obtain ⟨S6a,kz⟩:∃ S6a,S6a=put S5a (L+1) ⟨m0+1,flat ga0 row6⟩:=⟨_,rfl⟩;rw [<- b7] at wy gm;rw [<- kz] at gm;have k7:=kx.E16;have il:=gm.T.fa;have hZ6:=gm.Z;have ft:=gm.E15;have k8:=gm.E19;simp only [rowC,Ak] at ft;obtain ⟨w,jq⟩:∃ w,w=qF.whole r.2.1:=⟨_,rfl⟩;have ow:qF.ok w.1:=by rw [jq]; exact Eh _ kv
   have iy:=K0 S6a tk' (n6+ua3) iq eq _ r.2.1 kv il;have hg1:=D9 (c:=w.2) il;rw [<- jq] at iy;obtain ⟨S7a,q6⟩:∃ S7a,S7a=flS S6a iq eq w.2:=⟨_,rfl⟩;have q7:=gm.flag (S':=flS S6a iq eq w.2) (fun j hj=>ga6 hj) Be il.fS;rw [<- q6] at iy hg1 q7;have fo:=q7.T.fa;obtain ⟨y,kw⟩:∃ y,y=qF.times u.1 w.1:=⟨_,rfl⟩;have oy:qF.ok y.1:=Za21
   have jw:=Aco S7a tk' (n6+ua3+ua3) iq eq _ u.1 w.1 ou ow fo;have hg2:=D9 (c:=y.2) fo;rw [<- kw] at jw;obtain ⟨S8a,q8⟩:∃ S8a,S8a=flS S7a iq eq y.2:=⟨_,rfl⟩;have q9:=q7.flag (S':=flS S7a iq eq y.2) (fun j hj=>ga6 hj) Be fo.fS;rw [<- q8] at jw hg2 q9;have ra:=q9.T.fa;obtain ⟨d,gn⟩:∃ d,d=qF.minus z y.1:=⟨_,rfl⟩;have od:qF.ok d.1:=Za22
   have dj:=Lu S8a tk' (n6+ua3+ua3+ua4) iq eq _ z y.1 oz oy ra;have hg3:=D9 (c:=d.2) ra;rw [<- gn] at dj;obtain ⟨S9a,re⟩:∃ S9a,S9a=flS S8a iq eq d.2:=⟨_,rfl⟩;have rg:=q9.flag (S':=flS S8a iq eq d.2) (fun j hj=>ga6 hj) Be ra.fS;rw [<- re] at dj hg3 rg;have wz:=A9 (ce:=ga0) ga1 (l:=row6) (k:=W - 1) (q':=d.1) aA;have k9:=rg.E16;have rh:=rg.put (put row6 (W - 1) d.1);obtain ⟨rowZ,b8⟩:∃ rowZ,rowZ=put row6 (W - 1) d.1:=⟨_,rfl⟩;have na:rowZ.length=W:=by rw [b8,Ai]; exact qy
   have orowZ:okL qF rowZ:=by
    exact Ya0y
   obtain ⟨SZ,w7⟩:∃ SZ,SZ=put S9a (L+1) ⟨m0+1,flat ga0 rowZ⟩:=⟨_,rfl⟩;rw [<- b8] at wz rh;rw [<- w7] at rh;have dv:Rb qF u.1 z r.2.1=(d.1,Cj (Cj w.2 y.2) d.2):=by unfold Rb; rw [<- jq,<- kw,<- gn]
   have fu:rowF qF z vars c W i sl r=(rowZ,Cj (Cj (Cj u.2 f1) o.2) (Cj (Cj w.2 y.2) d.2)):=by
    unfold rowF;simp only [hU,oi,dv,hsF,<- l8,<- b7,<- b8]
   obtain ⟨fr,lg⟩:∃ fr,fr=Cj (Cj (Cj u.2 f1) o.2) (Cj (Cj w.2 y.2) d.2):=⟨_,rfl⟩;rw [<- lg] at fu;have kt:E7 S SZ iq eq I { t1 with fl:=Cj t1.fl fr } cp L nz m0 (m0+1) nu z r rowZ u.1:=by
    rw [lg];simpa only [Fx] using rh
   have ri:=kz.symm;have rj:=w7.symm;simp (maxSteps:=10^6)+contextual(disch:=try exact dqd)only[evg1,simprocAttr,Cg,Ca,Ch,ga29,e0,e1,e2,e7,e10,e11,e12,e14,e15,e16,e18,e19,e83,e84,e85,e113,e114,e115,c2,ky,om,dw,heq,j1,fh,mg,tq,wx,s5,jd,qk,g9,qx,lz,wy,k7,ri,hZ6,ft,k8,iy,hg1,jw,hg2,dj,hg3,wz,k9,rj,Ek,xfs,puQ,tkQ,ga1,ga5];have kq:begS qF z vars c W (l.drop i) i sl t1=begS qF z vars c W (l.drop (i+1)) (i+1) sl { t1 with rows:=t1.rows++[rowZ],cost:=(costL qF c W 0 t1.cost rowZ).1,basis:=t1.basis++[c+i],flip:=t1.flip++[Dt r],fl:=Cj (Cj t1.fl fr) (costL qF c W 0 t1.cost rowZ).2 }:=by
    rw [Av hr];simp only [begS,df];rw [fu,qw]
   rw [kq] at hR;exact Pp rfl (Apf S l vars fl k iq eq c W nz z hB Φ i bj r hr sl jc t1 I cp tk' fk hcl df ii ae az ik rowZ fr na orowZ L m0 nu u (Dt r) rfl SZ _ _ kt hR back _ rfl rfl rfl rfl rfl rfl rfl rfl rfl rfl rfl rfl rfl rfl rfl rfl rfl rfl)):p:=h
namespace QQ
theorem Aph:Ar22:=Ma22
end QQ
end
end
section
open Go Tryz
open Go.Proofs.Tryz renaming f115->ga28,results115->ga29,func115->ga30,ntmps115->ga31
open Go.Proofs.YthelkgdmgihhiaaGreat renaming ceQ->ga0,Ap->ga1,Bs->ga5,Ay->ga6
set_option maxRecDepth 100000
namespace QQ
abbrev ua14:Nat:=115
end QQ
set_option maxHeartbeats 20000000
set_option maxRecDepth 100000
namespace QQ
def Me (iq eq:Nat) (n real:Nat) (rows cost basis flip:AV):List AV:=[.ifc 118 (rcvQ iq eq),.int (n:Nat),.int (real:Nat),rows,cost,basis,flip]
end QQ
theorem Vc {a z:List AV} {j m:Nat} (h:j<m):nth (Cd j a++Cd (m - j) z) j=some z/\put (Cd j a++Cd (m - j) z) j a=Cd (j+1) a++Cd (m - (j+1)) z:=by
 have e:Cd (m - j) z=z :: Cd (m - (j+1)) z:=by rw [<- I4]; congr 1; omega
 have hl:(Cd j a).length=j:=by simp
 rw [e];have h1:=D8 (p:=Cd j a) (u:=Cd (m - (j+1)) z) (x:=z);have h2:=Gh (p:=Cd j a) (u:=Cd (m - (j+1)) z) (x:=z) (y:=a);rw [hl] at h1 h2;refine ⟨h1,?_⟩;rw [h2,List.replicate_succ'];simp
theorem Qw {sz:Nat} {a z:List AV} {j m:Nat} (h:j<m) (ha:a.length=sz) (hz:z.length=sz):over (Cd j a++Cd (m - j) z).flatten (j*sz) a=some (Cd (j+1) a++Cd (m - (j+1)) z).flatten:=by
 have h1:=Vc (a:=a) (z:=z) h;rw [<- h1.2];refine Mr (e:=z) (fun e he=>?_) h1.1 ha;rcases Cr.1 he with h|h
 ·rw [Ih] at h; rw [h.2,ha]
 ·rw [Ih] at h; rw [h.2,hz]
theorem Vg {ce:Q->List AV} {W:Nat} {z:Q} : (Cd W (ce z)).flatten=flat ce (Cd W z):=by unfold flat; rw [iN]
namespace QQ
theorem mk_Q {W:Nat} (h:W<=1048576):mkA prog 178 (.int (W:Nat)) (.int (W:Nat))=some (W,2,(Cd W zeroQ).flatten):=by
 have hz:(A7 prog 178).bind (Ar prog)=some zeroQ:=bH
 have hs:(A7 prog 178).bind (szOf prog)=some 2:=bH
 obtain ⟨bb,hb,yn⟩:∃ bb,(A7 prog 178).bind (H5 prog)=some bb/\bb<=1048576:=⟨16,aK,aA⟩;exact Ya1s
def Ai9 (S:List Ent) (iq eq:Nat) (t':Tb) (r:Rs):Prop :=
 ∃ S' k' tk' I cc,r=(.ref I.it I.et 0,S',tk',k')/\S.length<=S'.length/\Az S' iq eq I t' cc/\(∀ j,j<S.length->j≠iq->nth S' j=nth S j)/\(∀ j,j<S.length->j≠iq->OutQ I iq j)
end QQ
section
variable (S:List Ent) (tk:List Nat) (k iq eq:Nat)
abbrev Ar23 (p:Prop:=by exact ∀ (S:List Ent)(tk:List Nat)(k iq eq:Nat)(l:List RowT)(fl:Bool)(hl:l.length<=1000)(hn:(Hv l).length<=1000)(vars:List ByteArray)(mf:vars.length<=1000)(hv:∀ r ∈ l,∀ c ∈ r.1,c.1 ∈ vars)(hc:∀ r ∈ l,i64 r.2.1/\∀ c ∈ r.1,i64 c.2)(ei:fewC l)(mh:iq<S.length)(hf:FAq S iq eq fl),∃ r,cL prog ua14 [.ifc ua0 (rcvQ iq eq),Au l,B2 vars] S tk k=some r/\Ai9 S iq eq (Bp qF l vars fl) r):=p
theorem Ma23 {p:Prop} (h:p:=by
 intro S tk k iq eq l fl hl hn vars mf hv hc ei mh hf;obtain ⟨Φ,hΦ⟩:∃ Φ,Φ=Ai9 S iq eq (Bp qF l vars fl):=⟨_,rfl⟩;rw [<- hΦ];have hw2:Ce.wrap (2*(vars.length:Int))=((2*vars.length:Nat):Int):=aR
 refine opM ga30 ga31 ?_;simp (maxSteps:=10^6)+contextual(disch:=try exact dqd)only[evg1,simprocAttr,Cg,Ca,Ch,ga29,Au,B2,hw2];have a1c:∀ c,[AV.ifc ua0 (rcvQ iq eq),.int (vars.length:Nat),.int (c:Nat),.frz [] .nilc,.frz [] .nilc,.frz [] .nilc,.frz [] .nilc]=Me iq eq vars.length c (.frz [] .nilc) (.frz [] .nilc) (.frz [] .nilc) (.frz [] .nilc):=fun _=>rfl;refine Eu (P:=prog) (fun x st=>st.T.length=270/\(x.2.2<=l.length)/\(x.2.1+neqs (l.drop x.2.2)=2*vars.length+neqs l)/\getT st.T 0=.ifc ua0 (rcvQ iq eq)/\getT st.T 1=.frz (l.map rowC) .unk/\getT st.T 2=.frz (vars.map strC) .unk/\getT st.T 7=.ref S.length k 0/\getT st.T 32=.frz (l.map rowC) .unk/\getT st.T 33=.int (l.length:Nat)/\getT st.T 34=.int (x.2.2:Nat)/\st.S=S++[⟨k,Me iq eq vars.length x.2.1 (.frz [] .nilc) (.frz [] .nilc) (.frz [] .nilc) (.frz [] .nilc)⟩]/\st.tk=tk/\st.n=x.1) (fun x=>l.length - x.2.2) ((k+1),(2*vars.length),0) ?_ ?_;case refine_2=>exact ⟨rfl,Cs _,rfl,rfl,rfl,rfl,rfl,rfl,rfl,rfl,rfl,rfl,rfl⟩
 rintro ⟨n1,c,q⟩ ⟨T,S',tk',n'⟩ ⟨hl,hq,y4,e0,e1,e2,e7,e32,e33,e34,eS,eT,eN⟩ IH;simp only at hq y4 e0 e1 e2 e7 e32 e33 e34 eS eT eN;subst eS eT eN;obtain ⟨g,hg,hT⟩:=Aw hl;rw [hg] at e0 e1 e2 e7 e32 e33 e34;subst hT;clear hg hl;have sa:=L4 l;have a0s:∀ x y z:Ent,Lv (S++[x]).length (S++[y]++[z])=S++[y]:=fun x y z=>by
  have e:(S++[x]).length=(S++[y]).length:=by simp
  rw [e,List.take_left]
 by_cases hql:q<l.length
 ·have c1:decide ((q:Int)<(l.length:Int))=true:=by simpa using hql
  have hw:Ce.wrap ((q:Int)+1)=((q+1:Nat):Int):=aR
  obtain ⟨r,hr⟩:=Ah hql;have dc:=Km hr;have t8:=M2 hr;have we:entAt (S++[⟨k,Me iq eq vars.length c (.frz [] .nilc) (.frz [] .nilc) (.frz [] .nilc) (.frz [] .nilc)⟩]++[⟨n',rowC r⟩]) S.length k=some (Me iq eq vars.length c (.frz [] .nilc) (.frz [] .nilc) (.frz [] .nilc) (.frz [] .nilc)):=Ab Bz;cases he:r.2.2 with
  | true =>
   rw [he,if_pos rfl] at t8;simp (maxSteps:=10^6)+contextual(disch:=try exact dqd)only[evg1,simprocAttr,Cg,Ca,Ch,ga29,e0,e1,e2,e7,e32,e33,e34,c1,hw,dc,rowC,Ak,he];exact IH (n'+1,c,q+1) _ aF ⟨rfl,aE,aE,bW⟩
  | false =>
   rw [he,if_neg K2] at t8;have hw3:Ce.wrap ((c:Int)+1)=((c+1:Nat):Int):=aR
   simp (maxSteps:=10^6)+contextual(disch:=try exact dqd)only[evg1,simprocAttr,Cg,Ca,Ch,ga29,e0,e1,e2,e7,e32,e33,e34,c1,hw,hw3,dc,rowC,Ak,he,Me,a0s];exact IH (n'+1,c+1,q+1) _ aF ⟨rfl,aE,aE,bW⟩
 ·have c1:decide ((q:Int)<(l.length:Int))=false:=by simpa using hql
  have sj:c=2*vars.length+neqs l:=by
   have h0:l.drop q=[]:=Ff aA;rw [h0] at y4;have x8:neqs ([]:List RowT)=0:=rfl;omega
  obtain ⟨W,t7⟩:∃ W,W=c+l.length+1:=⟨_,rfl⟩;have a0t:Ce.wrap ((c:Int)+(l.length:Int))=((c+l.length:Nat):Int):=aR
  have a0u:Ce.wrap (((c+l.length:Nat):Int)+1)=(W:Int):=aT
  obtain ⟨z,hz⟩:∃ z,z=qF.whole 0:=⟨_,rfl⟩;have oz:qF.ok z.1:=by rw [hz]; exact Eh 0 aD
  obtain ⟨T0,ai⟩:∃ T0:Ent,T0=⟨k,Me iq eq vars.length c (.frz [] .nilc) (.frz [] .nilc) (.frz [] .nilc) (.frz [] .nilc)⟩:=⟨_,rfl⟩;have p6:=K0 (S++[⟨k,Me iq eq vars.length c (.frz [] .nilc) (.frz [] .nilc) (.frz [] .nilc) (.frz [] .nilc)⟩]) tk' n' iq eq fl 0 aD hf.app;rw [<- hz,G3 hf] at p6;obtain ⟨S1,de⟩:∃ S1,S1=flS S iq eq z.2:=⟨_,rfl⟩;have lx:FAq S1 iq eq (Cj fl z.2):=by rw [de]; exact hf.fS
  have hl1:S1.length=S.length:=by rw [de]; exact Be
  have cj:∀ v,v≠iq->nth S1 v=nth S v:=fun v hv=>by rw [de]; exact ga6 hv
  rw [<- de] at p6;obtain ⟨nz,ye⟩:∃ nz,nz=n'+ua3:=⟨_,rfl⟩;rw [<- ye] at p6;have th:entAt (S1++[⟨k,Me iq eq vars.length c (.frz [] .nilc) (.frz [] .nilc) (.frz [] .nilc) (.frz [] .nilc)⟩]++[⟨nz,ga0 z.1⟩]++[⟨nz+1,(Cd W zeroQ).flatten⟩]) S.length k=some (Me iq eq vars.length c (.frz [] .nilc) (.frz [] .nilc) (.frz [] .nilc) (.frz [] .nilc)):=Ab (Ab (Al hl1));have hP2:∀ e e' a b:Ent,put (S1++[e]++[a]++[b]) S.length e'=S1++[e']++[a]++[b]:=fun e e' a b=>by
   rw [Dj aB,Dj aB,De hl1]
  have j2:=mk_Q (W:=W) aA;have hE3 cs a b:=Ab (L:=[b]) (Ab (L:=[a]) (Al (k:=k) (cs:=cs) hl1));simp only [Me] at p6 th;simp (maxSteps:=10^6)+contextual(disch:=try exact dqd)only[evg1,simprocAttr,Cg,Ca,Ch,ga29,e0,e1,e2,e7,e32,e33,e34,c1,hw2,a0t,a0u,p6,j2,th,hE3,hP2,hl1,Me,Ek,xfs,puQ,ga1,ga5,ovQ];obtain ⟨TP,yp⟩:∃ TP,TP=Me iq eq vars.length c (.frz [] .nilc) (.sref (S.length+2) (nz+1) 0 W ua2) (.frz [] .nilc) (.frz [] .nilc):=⟨_,rfl⟩;obtain ⟨S2,bh⟩:∃ S2,S2=S1++[⟨k,TP⟩]++[⟨nz,ga0 z.1⟩]:=⟨_,rfl⟩;have hl2:S2.length=S.length+2:=by rw [bh]; simp [hl1]
  have aw:entAt S2 S.length k=some TP:=by rw [bh]; exact Ab (Al hl1)
  have hZ2:entAt S2 (S.length+1) nz=some (ga0 z.1):=by rw [bh]; exact Al (by simp [hl1])
  have bv:FAq S2 iq eq (Cj fl z.2):=by rw [bh]; exact lx.app.app
  have bc:∀ j,j<S.length->j≠iq->nth S2 j=nth S j:=fun j h1 h2=>by rw [bh,Bq aB,Bq aA,cj j h2]
  have a2g:[AV.ifc ua0 (rcvQ iq eq),.int (vars.length:Nat),.int (c:Nat),.frz [] .nilc,.sref (S.length+2) (nz+1) 0 W ua2,.frz [] .nilc,.frz [] .nilc]=TP:=yp.symm;have tj:∀ x:Ent,(S1++[x]).length=S.length+1:=fun x=>by simp [hl1]
  have hLb:∀ x y:Ent,(S1++[x]++[y]).length=S.length+2:=fun x y=>by simp [hl1]
  rw [hLb,tj];have rk:=bh;rw [yp] at rk;simp only [Me] at rk;rw [<- rk];obtain ⟨Fl,hFl⟩:∃ Fl:Nat->List AV,Fl=fun j=>(Cd j (ga0 z.1)++Cd (W - j) (zeroQ:List AV)).flatten:=⟨_,rfl⟩;have hF0:Fl 0=(Cd W (zeroQ:List AV)).flatten:=by rw [hFl]; rfl
  have hFW:Fl W=flat ga0 (Cd W z.1):=by rw [hFl]; simp only [I3,List.replicate_zero,Fu]; exact Vg
  have hFo:∀ j,j<W->over (Fl j) (j*ua2) (ga0 z.1)=some (Fl (j+1)):=fun j ji=>by rw [hFl]; exact Qw (sz:=ua2) (a:=ga0 z.1) (z:=(zeroQ:List AV)) ji (ga1 _) rfl
  rw [<- hF0];refine Eu (P:=prog) (fun x st=>st.T.length=270/\(x.2<=W)/\getT st.T 0=.ifc ua0 (rcvQ iq eq)/\getT st.T 1=.frz (l.map rowC) .unk/\getT st.T 2=.frz (vars.map strC) .unk/\getT st.T 7=.ref S.length k 0/\getT st.T 10=.int ((2*vars.length:Nat):Int)/\getT st.T 11=.int (W:Nat)/\getT st.T 12=.ref (S.length+1) nz 0/\getT st.T 71=.int (W:Nat)/\getT st.T 72=.int (x.2:Nat)/\st.S=S2++[⟨nz+1,Fl x.2⟩]/\st.tk=tk'/\st.n=x.1) (fun x=>W - x.2) ((nz+2),0) ?_ ?_;case refine_2=>exact ⟨rfl,Cs _,rfl,rfl,rfl,rfl,rfl,rfl,rfl,rfl,rfl,rfl,rfl,rfl⟩
  rintro ⟨n1,j⟩ ⟨T,S',tk',n'⟩ ⟨hl,hj,e0,e1,e2,e7,e10,e11,e12,e71,e72,eS,eT,eN⟩ IH;simp only at hj e0 e1 e2 e7 e10 e11 e12 e71 e72 eS eT eN;subst eS eT eN;obtain ⟨g,hg,hT⟩:=Aw hl;rw [hg] at e0 e1 e2 e7 e10 e11 e12 e71 e72;subst hT;clear hg hl;have yq:∀ cs,entAt (S2++[⟨nz+1,cs⟩]) (S.length+2) (nz+1)=some cs:=fun cs=>Al hl2;have yr e e':=De (e:=e) (e':=e') hl2;have nd:∀ x y:Ent,Lv (S2++[x]).length (S2++[y])=S2++[y]:=fun x y=>by
   have e:(S2++[x]).length=(S2++[y]).length:=by simp
   rw [e,Ir]
  by_cases ji:j<W
  ·have c2:decide ((j:Int)<(W:Int))=true:=fG
   have hw:Ce.wrap ((j:Int)+1)=((j+1:Nat):Int):=aR
   have jy:=hFo j ji;have qh:∀ e:Ent,entAt (S2++[e]) S.length k=some TP:=fun e=>Ab aw;have qi:∀ e:Ent,entAt (S2++[e]) (S.length+1) nz=some (ga0 z.1):=fun e=>Ab hZ2;rw [yp] at qh;simp only [Me] at qh;simp (maxSteps:=10^6)+contextual(disch:=try exact dqd)only[evg1,simprocAttr,Cg,Ca,Ch,ga29,e0,e1,e2,e7,e10,e11,e12,e71,e72,c2,hw,ji,jy,qh,qi,yq,yr,nd,puQ,tkQ,ga1,ga5];exact IH (n',j+1) _ aF ⟨rfl,aE,bW⟩
  ·have c2:decide ((j:Int)<(W:Int))=false:=fG
   have lh:j=W:=aA
   rw [lh] at c2 e72 ⊢;clear ji lh hj;rw [hFW];obtain ⟨S3,cz⟩:∃ S3,S3=S2++[⟨nz+1,flat ga0 (Cd W z.1)⟩]:=⟨_,rfl⟩;have ef:S3.length=S.length+3:=by rw [cz]; simp [hl2]
   have cd:∀ j,j<S.length->j≠iq->nth S3 j=nth S j:=fun j h1 h2=>by rw [cz,Bq aA,bc j h1 h2]
   have hZ3:entAt S3 (S.length+1) nz=some (ga0 z.1):=by rw [cz]; exact Ab hZ2
   obtain ⟨t0,pz⟩:∃ t0:Tb,t0={ vars:=vars.length,real:=c,rows:=[],cost:=Cd W z.1,basis:=[],flip:=[],fl:=Cj fl z.2 }:=⟨_,rfl⟩;obtain ⟨I0,hI0⟩:∃ I0:TI,I0=⟨S.length,k,S.length+3,0,S.length+2,nz+1,S.length+4,0,[]⟩:=⟨_,rfl⟩;have dq:Az S3 iq eq I0 t0 .nilc:=by
    rw [hI0,pz,cz];refine ⟨?_,rfl,fun h=>absurd rfl h,fun i p r h=>bU,fun r h=>aM,?_,fun h=>absurd rfl h,rfl,rfl,bv.app,?_,fun r h=>aM,fun q hq=>?_,?_,by simp,?_,fun b h=>aM⟩
    ·rw [Ab aw,yp];simp only [Me,cw,Oa,C3,Cw];rfl
    ·exact Al hl2
    ·constructor <;> first|(simp only; omega)|(intro p hp; simp at hp)|(intro i j p q hp; simp [nth] at hp)
    ·rw [Ih] at hq; rw [hq.2]; exact oz
    ·simp only [Oa]; omega
    ·simp only [Oa]; omega
   have a0v:Bp qF l vars fl=begS qF z.1 vars c W l 0 (2*vars.length) t0:=by
    unfold Bp;simp only;rw [<- sj,<- t7,<- hz,pz]
   simp (maxSteps:=10^6)+contextual(disch:=try exact dqd)only[evg1,simprocAttr,Cg,Ca,Ch,ga29,e0,e1,e2,e7,e10,e11,e12,e71,e72,c2];rw [<- cz];clear yq yr nd e0 e1 e2 e7 e10 e11 e12 e71 e72 c1 c2;refine Eu (P:=prog) (fun x st=>st.T.length=270/\(x.2.2.2.2.1<=l.length)/\(Bp qF l vars fl=begS qF z.1 vars c W (l.drop x.2.2.2.2.1) x.2.2.2.2.1 x.2.2.2.2.2.1 x.2.2.2.2.2.2.1)/\(Az x.1 iq eq x.2.2.2.2.2.2.2 x.2.2.2.2.2.2.1 x.2.2.2.1)/\(x.2.2.2.2.2.2.1.rows.length=x.2.2.2.2.1)/\(x.2.2.2.2.2.2.1.cost.length=W)/\(x.2.2.2.2.2.2.1.real=c)/\(x.2.2.2.2.2.2.1.vars=vars.length)/\(x.2.2.2.2.2.1+neqs (l.drop x.2.2.2.2.1)=c)/\(Ba x.2.2.1 x.2.2.2.1 1=true)/\(entAt x.1 (S.length+1) nz=some (ga0 z.1))/\(S.length+3<=x.1.length)/\(∀ j,j<S.length->j≠iq->nth x.1 j=nth S j)/\(x.2.2.2.2.2.2.2.it=S.length/\x.2.2.2.2.2.2.2.et=k/\x.2.2.2.2.2.2.2.ic=S.length+2)/\(S.length+2<x.2.2.2.2.2.2.2.ir/\S.length+2<x.2.2.2.2.2.2.2.ib/\∀ p ∈ x.2.2.2.2.2.2.2.ids,S.length+2<p.1)/\getT st.T 0=.ifc ua0 (rcvQ iq eq)/\getT st.T 1=.frz (l.map rowC) .unk/\getT st.T 2=.frz (vars.map strC) .unk/\getT st.T 7=.ref S.length k 0/\getT st.T 10=.int (x.2.2.2.2.2.1:Nat)/\getT st.T 11=.int (W:Nat)/\getT st.T 12=.ref (S.length+1) nz 0/\getT st.T 83=.frz (l.map rowC) .unk/\getT st.T 84=.int (l.length:Nat)/\getT st.T 85=.int (x.2.2.2.2.1:Nat)/\st.S=x.1/\st.tk=x.2.2.1/\st.n=x.2.1) (fun x=>l.length - x.2.2.2.2.1) (S3,n',tk',Cap.nilc,0,(2*vars.length),t0,I0) ?_ ?_;case refine_2=>exact ⟨rfl,Cs _,a0v,dq,by rw [pz]; rfl,by rw [pz]; simp,by rw [pz],by rw [pz],by rw [sj]; rfl,rfl,hZ3,Nat.le_of_eq ef.symm,cd,by rw [hI0]; exact ⟨rfl,rfl,rfl⟩,by rw [hI0]; exact ⟨bM,bM,fun p hp=>by simp at hp⟩,rfl,rfl,rfl,rfl,rfl,rfl,rfl,rfl,rfl,rfl,rfl,rfl,rfl⟩
   rintro ⟨SS,n1,tk1,cp,i,sl,t1,I⟩ ⟨T,S',tk',n'⟩ ⟨hl,hi,hR,hT,fk,hcl,df,ii,r7,ae,hZ,ua,ba,az,ik,e0,e1,e2,e7,e10,e11,e12,e83,e84,e85,eS,eT,eN⟩ IH;simp only at hi hR hT fk hcl df ii r7 ae hZ ua ba az ik e0 e1 e2 e7 e10 e11 e12 e83 e84 e85 eS eT eN;subst eS eT eN;obtain ⟨g,hg,hT⟩:=Aw hl;rw [hg] at e0 e1 e2 e7 e10 e11 e12 e83 e84 e85;subst hT;clear hg hl;have IHA:=IH;clear IH;obtain ⟨m0,cu⟩:∃ m0,m0=n':=⟨_,rfl⟩;subst cu;obtain ⟨SA,hSA⟩:∃ SA,SA=S':=⟨_,rfl⟩;subst hSA;obtain ⟨tkA,a0w⟩:∃ tkA,tkA=tk':=⟨_,rfl⟩;subst a0w;obtain ⟨L,hL⟩:∃ L,L=SA.length:=⟨_,rfl⟩;by_cases bj:i<l.length
   ·have c1:decide ((i:Int)<(l.length:Int))=true:=eV
    have xp:Ce.wrap ((i:Int)+1)=((i+1:Nat):Int):=aR
    obtain ⟨r,hr⟩:=Ah bj;have dc:=Km hr;have tu:r ∈ l:=Aj hr;have tj:∀ x:Ent,(SA++[x]).length=L+1:=fun x=>by simp [hL]
    have back:∀ st,Aet S l vars fl k iq eq c W nz z.1 (i+1) st->Gd finM Φ (KA prog ga28 18 [] st):=fun st h=>by
     obtain ⟨sl',t1',I',cp',h1,h2,h3,h4,h5,h6,h7,h8,h9,h10,h11,h12,h13,h14,xa,s0,s1,s2,s7,s10,s11,s12,s83,s84,s85⟩:=h;exact Acz rfl (t:=.mk) (IHA (st.S,st.n,st.tk,cp',i+1,sl',t1',I') st (by show l.length - (i+1)<l.length - i; omega) ⟨xa,h1,h2,h3,h4,h5,h6,h7,h8,h9,h10,h11,h12,h13,h14,s0,s1,s2,s7,s10,s11,s12,s83,s84,s85,rfl,rfl,rfl⟩)
    clear IHA;simp (maxSteps:=10^6)+contextual(disch:=try exact dqd)only[evg1,simprocAttr,Cg,Ca,Ch,ga29,e0,e1,e2,e7,e10,e11,e12,e83,e84,e85,c1,dc,rowC,Ak,j2,Cb];rw [tj,<- hL,<- hF0];obtain ⟨SB,oq⟩:∃ SB,SB=SA++[(⟨m0,rowC r⟩:Ent)]:=⟨_,rfl⟩;have xl:SB.length=L+1:=by rw [oq]; exact tj _
    have rn:=oq;simp only [rowC,Ak] at rn;rw [<- rn];refine Eu (P:=prog) (fun x st=>st.T.length=270/\(x.2<=W)/\getT st.T 0=.ifc ua0 (rcvQ iq eq)/\getT st.T 1=.frz (l.map rowC) .unk/\getT st.T 2=.frz (vars.map strC) .unk/\getT st.T 7=.ref S.length k 0/\getT st.T 10=.int (sl:Nat)/\getT st.T 11=.int (W:Nat)/\getT st.T 12=.ref (S.length+1) nz 0/\getT st.T 14=.int (i:Nat)/\getT st.T 15=.ref L m0 0/\getT st.T 16=.sref (L+1) (m0+1) 0 W ua2/\getT st.T 83=.frz (l.map rowC) .unk/\getT st.T 84=.int (l.length:Nat)/\getT st.T 85=.int (i:Nat)/\getT st.T 93=.int (W:Nat)/\getT st.T 94=.int (x.2:Nat)/\st.S=SB++[⟨m0+1,Fl x.2⟩]/\st.tk=tkA/\st.n=x.1) (fun x=>W - x.2) ((m0+2),0) ?_ ?_;case refine_2=>exact ⟨rfl,Cs _,rfl,rfl,rfl,rfl,rfl,rfl,rfl,rfl,rfl,rfl,rfl,rfl,rfl,rfl,rfl,rfl,rfl,rfl⟩
    rintro ⟨n1,j⟩ ⟨T,S',tk',n'⟩ ⟨hl,hj,e0,e1,e2,e7,e10,e11,e12,e14,e15,e16,e83,e84,e85,e93,e94,eS,eT,eN⟩ IH;simp only at hj e0 e1 e2 e7 e10 e11 e12 e14 e15 e16 e83 e84 e85 e93 e94 eS eT eN;subst eS eT eN;obtain ⟨g,hg,hT⟩:=Aw hl;rw [hg] at e0 e1 e2 e7 e10 e11 e12 e14 e15 e16 e83 e84 e85 e93 e94;subst hT;clear hg hl;by_cases ji:j<W
    ·have c2:decide ((j:Int)<(W:Int))=true:=fG
     have hw:Ce.wrap ((j:Int)+1)=((j+1:Nat):Int):=aR
     have jy:=hFo j ji;have qi:∀ b:Ent,entAt (SB++[b]) (S.length+1) nz=some (ga0 z.1):=fun b=>by rw [oq]; exact Ab (Ab hZ)
     have yq:∀ cs,entAt (SB++[⟨m0+1,cs⟩]) (L+1) (m0+1)=some cs:=fun cs=>Al xl;have yr e e':=De (e:=e) (e':=e') xl;have nd:∀ x y:Ent,Lv (SB++[x]).length (SB++[y])=SB++[y]:=fun x y=>by
      have e:(SB++[x]).length=(SB++[y]).length:=by simp
      rw [e,Ir]
     simp (maxSteps:=10^6)+contextual(disch:=try exact dqd)only[evg1,simprocAttr,Cg,Ca,Ch,ga29,e0,e1,e2,e7,e10,e11,e12,e14,e15,e16,e83,e84,e85,e93,e94,c2,hw,ji,jy,qi,yq,yr,nd,puQ,tkQ,ga1,ga5];exact IH (n',j+1) _ aF ⟨rfl,aE,bW⟩
    ·have c2:decide ((j:Int)<(W:Int))=false:=fG
     have lh:j=W:=aA
     rw [lh] at c2 e94 ⊢;clear ji lh hj;rw [hFW];obtain ⟨n5,hn5⟩:∃ n5,n5=n':=⟨_,rfl⟩;subst hn5;obtain ⟨SC,ot⟩:∃ SC,SC=SB++[(⟨m0+1,flat ga0 (Cd W z.1)⟩:Ent)]:=⟨_,rfl⟩;rw [<- ot];have hlC:SC.length=L+2:=by rw [ot]; simp [xl]
     have xb:Az SC iq eq I t1 cp:=by rw [ot,oq]; exact (hT.app _).app _
     have au:LowQ I iq L t1:=by rw [hL]; exact hT.low
     have li:entAt SC L m0=some (rowC r):=by rw [ot,oq]; exact Ab (Al hL.symm)
     have ro:entAt SC (L+1) (m0+1)=some (flat ga0 (Cd W z.1)):=by rw [ot]; exact Al xl
     have hZC:entAt SC (S.length+1) nz=some (ga0 z.1):=by rw [ot,oq]; exact Ab (Ab hZ)
     have hfC:∀ j,j<S.length->j≠iq->nth SC j=nth S j:=fun j h1 h2=>by rw [ot,oq,Bq aB,Bq aA,ba j h1 h2]
     have kv:i64 r.2.1:=(hc r tu).1;obtain ⟨one,bu⟩:∃ one,one=qF.whole 1:=⟨_,rfl⟩;have o1:qF.ok one.1:=by rw [bu]; exact Eh 1 aD
     have cn:=K0 SC tk' n5 iq eq t1.fl 1 aD xb.fa;rw [<- bu] at cn;obtain ⟨SD,tv⟩:∃ SD,SD=flS SC iq eq one.2:=⟨_,rfl⟩;have lj:SD.length=L+2:=by rw [tv,Be]; exact hlC
     have rp:∀ v,v≠iq->nth SD v=nth SC v:=fun v hv=>by rw [tv]; exact ga6 hv
     have xc:FAq SD iq eq (Cj t1.fl one.2):=by rw [tv]; exact xb.fa.fS
     rw [<- tv] at cn;obtain ⟨nu,hnu⟩:∃ nu,nu=n5+ua3:=⟨_,rfl⟩;rw [<- hnu] at cn;have hTD:Az SD iq eq I { t1 with fl:=Cj t1.fl one.2 } cp:=xb.flag rp xc;have hLd:SD.length=L+2:=lj;have ll:E7 S (SD++[⟨nu,ga0 one.1⟩]) iq eq I { t1 with fl:=Cj t1.fl one.2 } cp L nz m0 (m0+1) nu z.1 r (Cd W z.1) one.1 :=
      ⟨hTD.app _,au.of fun h=>h,by rw [Ab (e:=nz) (by rw [Aa (rp _ aA)]; exact hZC)],by rw [Ab (by rw [Aa (rp _ aA)]; exact li)],by rw [Ab (by rw [Aa (rp _ aA)]; exact ro)],Al lj,by simp [lj],fun j h1 h2=>by rw [Bq aA,rp j h2]; exact hfC j h1 h2,mh,aA,az.2.2⟩
     have fv:=ll.E15;have ov:=ll.E19;have kk:(SD++[(⟨nu,ga0 one.1⟩:Ent)]).length=L+3:=ll.len;have hLD:∀ x:Ent,(SD++[x]).length=L+3:=fun x=>by simp [lj]
     simp only [rowC] at fv;have yt:∀ cs,entAt (SD++[⟨nu,cs⟩]) (L+2) nu=some cs:=fun cs=>Al lj;have qa e e':=De (e:=e) (e':=e') lj;clear ot oq rn;cases ez:Dt r
     ·have c3:decide (0<r.2.1)=false:=ez;have hU:Jj qF (Dt r)=one:=by rw [ez,bu]; rfl
      simp (maxSteps:=10^6)+contextual(disch:=try exact dqd)only[evg1,simprocAttr,Cg,Ca,Ch,ga29,e0,e1,e2,e7,e10,e11,e12,e14,e15,e16,e83,e84,e85,e93,e94,c2,c3,li,rowC,Ak,cn,fv,yt,qa,lj,Ek,xfs,puQ,ga1,ga5,ovQ];clear e0 e1 e2 e7 e10 e11 e12 e14 e15 e16 e83 e84 e85 e93 e94 c2 c3 IH qa yt;obtain ⟨SX,rq⟩:∃ SX,SX=SD++[(⟨nu,ga0 one.1⟩:Ent)]:=⟨_,rfl⟩;obtain ⟨nx,s9⟩:∃ nx,nx=nu+1:=⟨_,rfl⟩;rw [<- rq,<- s9];rw [<- rq] at ll;obtain ⟨u,hu⟩:∃ u:Q × Bool,u=one:=⟨_,rfl⟩;rw [<- hu] at ll hU;have ou:qF.ok u.1:=by rw [hu]; exact o1
      have fm:=ll;clear ll fv ov kk hLD hnu hTD hLd xc rp lj cn tv rq s9 ro li hZC hfC xb hlC hu o1 bu;have h18:AV.prim (.bool false)=.prim (.bool (Dt r)):=by rw [ez]
      exact Yau
     ·have c3:decide (0<r.2.1)=true:=ez;obtain ⟨neg,hneg⟩:∃ neg,neg=qF.whole (-1):=⟨_,rfl⟩;have on:qF.ok neg.1:=by rw [hneg]; exact Eh (-1) aD
      have hU:Jj qF (Dt r)=(neg.1,Cj one.2 neg.2):=by rw [ez,bu,hneg]; rfl
      have hw1:=K0 (SD++[⟨nu,ga0 one.1⟩]) tk' (nu+1) iq eq (Cj t1.fl one.2) (-1) aD ll.T.fa;rw [<- hneg,G3 xc] at hw1;obtain ⟨SE,yu⟩:∃ SE,SE=flS SD iq eq neg.2:=⟨_,rfl⟩;have kk:SE.length=L+2:=by rw [yu,Be]; exact lj
      have hRE:=ll.flag (S':=flS (SD++[⟨nu,ga0 one.1⟩]) iq eq neg.2) (fun j hj=>ga6 hj) Be ll.T.fa.fS;rw [G3 xc,<- yu] at hRE;rw [<- yu] at hw1;have xd:=hRE.unit neg.1;have o3:∀ cs,entAt (SE++[⟨nu,cs⟩]) (L+2) nu=some cs:=fun cs=>Al kk;have rr e e':=De (e:=e) (e':=e') kk;rw [rr] at xd;have lm:=xd.E15;simp only [rowC] at lm;simp (maxSteps:=10^6)+contextual(disch:=try exact dqd)only[evg1,simprocAttr,Cg,Ca,Ch,ga29,e0,e1,e2,e7,e10,e11,e12,e14,e15,e16,e83,e84,e85,e93,e94,c2,c3,li,rowC,Ak,cn,fv,yt,qa,lj,hw1,o3,rr,lm,Ek,xfs,puQ,ga1,ga5,ovQ,ovQ2];clear e0 e1 e2 e7 e10 e11 e12 e14 e15 e16 e83 e84 e85 e93 e94 c2 c3 IH qa yt rr o3;obtain ⟨SX,rq⟩:∃ SX,SX=SE++[(⟨nu,ga0 neg.1⟩:Ent)]:=⟨_,rfl⟩;obtain ⟨nx,s9⟩:∃ nx,nx=nu+1+ua3:=⟨_,rfl⟩;rw [<- rq,<- s9];rw [<- rq] at xd;obtain ⟨u,hu⟩:∃ u:Q × Bool,u=(neg.1,Cj one.2 neg.2):=⟨_,rfl⟩;rw [<- hu] at hU;have ou:qF.ok u.1:=by rw [hu]; exact on
      have fm:E7 S SX iq eq I { t1 with fl:=Cj t1.fl u.2 } cp L nz m0 (m0+1) nu z.1 r (Cd W z.1) u.1:=by
       rw [hu];simp only [<- Fx];exact xd
      clear ll fv ov kk hLD hnu hTD hLd xc rp lj cn tv rq s9 ro li hZC hfC xb hlC hu o1 bu on hneg hw1 yu hRE xd lm;have h18:AV.prim (.bool true)=.prim (.bool (Dt r)):=by rw [ez]
      exact Yau
   ·have c1:decide ((i:Int)<(l.length:Int))=false:=eV
    have h0:l.drop i=[]:=Ff aA;rw [h0] at hR;simp only [begS] at hR;simp (maxSteps:=10^6)+contextual(disch:=try exact dqd)only[evg1,simprocAttr,Cg,Ca,Ch,ga29,e0,e1,e2,e7,e10,e11,e12,e83,e84,e85,c1];rw [hΦ,hR];exact ⟨SA,m0,tkA,I,cp,by rw [az.1,az.2.1],aA,hT,ba,fun j h1 h2=>⟨h2,aA,aA,fun p hp=>by have:=ik.2.2 p hp; omega⟩⟩):p:=h
namespace QQ
theorem Apj:Ar23:=Ma23
end QQ
end
end
section
open Go
end
section
open Go
set_option maxRecDepth 100000
def ceW0Q:List AV:=[.prim (.bool false),.frz [] .nilc,.prim (.bool false),.frz [] .nilc]
namespace QQ
structure Aer (S SS:List Ent) (iq eq:Nat) (I:TI) (t:Tb) (cc:Cap) (k n8:Nat) (z:Q) (cf:AV) (n:Int):Prop where
 T:Az SS iq eq I t cc
 E4:entAt SS S.length k=some [cf,.prim (.int .i64 n)]
 E6:entAt SS (S.length+1) (k+1)=some ceW0Q
 E8:entAt SS (S.length+2) n8=some (ceQ z)
 len:SS.length=S.length+3
 fr:∀ j,j<S.length->OutQ I iq j->nth SS j=nth S j
end QQ
abbrev Ar24 (p:Prop:=by exact ∀ {S:List Ent}{iq eq:Nat}{I:TI}{t:Tb}{cc:Cap}(hT:Az S iq eq I t cc)(mh:iq<S.length)(hib:I.ib<S.length\/S.length+10<I.ib)(d:Nat)(hd:d<=10),OutQ I iq (S.length+d)):=p
theorem Ma24 {p:Prop} (h:p:=by
 intro hT mh hib d hd;have h:=hT.low;have:=h.ic;exact ⟨aA,aA,aA,fun p hp=>by have:=h.row p hp; omega⟩):p:=h
namespace QQ
theorem An1:Ar24:=fun {S iq eq I t cc}=>Ma24
end QQ
abbrev Ar25 (p:Prop:=by exact ∀ {S SS S':List Ent}{iq eq:Nat}{I:TI}{t t':Tb}{cc:Cap}{k n8:Nat}{z:Q}{cf:AV}{n:Int}(h:Aer S SS iq eq I t cc k n8 z cf n)(ho:∀ d,d<=10->OutQ I iq (S.length+d))(hT:Az S' iq eq I t' cc)(hS:∀ j,OutQ I iq j->nth S' j=nth SS j)(hl:S'.length=SS.length),Aer S S' iq eq I t' cc k n8 z cf n):=p
theorem Ma25 {p:Prop} (h:p:=by
 intro h ho hT hS hl;exact ⟨hT,by rw [Aa (hS S.length (ho 0 aA))]; exact h.E4,by rw [Aa (hS _ (ho 1 aA))]; exact h.E6,by rw [Aa (hS _ (ho 2 aA))]; exact h.E8,by rw [hl]; exact h.len,fun j h1 h2=>by rw [hS j h2]; exact h.fr j h1 h2⟩):p:=h
namespace QQ
theorem Aer.step:Ar25:=fun {S SS S' iq eq I t t' cc k n8 z cf n}=>Ma25
end QQ
end
section
open Go
set_option maxRecDepth 100000
abbrev Ar26 (p:Prop:=by exact ∀ {S:List Ent}{iq eq:Nat}{I:TI}{t:Tb}{c:Cap}(h:Az S iq eq I t c)(h0:t.rows=[])(mh:iq<S.length){x y:Nat}(hx:S.length<=x)(hy:S.length<=y)(iu:x≠y),Az S iq eq ⟨I.it,I.et,x,0,I.ic,I.ec,y,0,I.ids⟩ t c):=p
theorem Ma26 {p:Prop} (h:p:=by
 intro h h0 mh x y hx hy iu;have hl:=h.low;have h1:=hl.it;have h2:=hl.ic;have ig:I.ids=[]:=C5.1 (by rw [h.nids,h0]; rfl);refine ⟨?_,h.nids,fun hn=>absurd h0 hn,h.rowE,h.rowW,h.costE,fun hn=>absurd h0 hn,h.nb,h.nf,h.fa,?_,h.okr,h.okc,h.bigW,h.bigM,h.real,h.bB⟩
 ·have h3:=h.top;rw [h0] at h3 ⊢;exact h3
 ·have ha:=h.ap;refine ⟨bM,ha.tc,bM,bM,iu,bM,ha.qt,bM,ha.qc,bM,fun p hp=>?_,ha.rows⟩;rw [ig] at hp; simp at hp):p:=h
namespace QQ
theorem Az.junk:Ar26:=fun {S iq eq I t c}=>Ma26
def BegRQ (S:List Ent) (iq eq:Nat) (t':Tb) (r:Rs):Prop :=
 ∃ S' k' tk' I cc,r=(.ref I.it I.et 0,S',tk',k')/\S.length<=S'.length/\Az S' iq eq I t' cc/\(∀ j,j<S.length->j≠iq->nth S' j=nth S j)/\(∀ j,j<S.length->j≠iq->OutQ I iq j)/\(I.ib<S'.length\/S'.length+15<I.ib)
end QQ
abbrev Ar27 (p:Prop:=by exact ∀ {S:List Ent}{iq eq:Nat}{t':Tb}{r:Rs}(mh:iq<S.length)(h:Ai9 S iq eq t' r),BegRQ S iq eq t' r):=p
theorem Ma27 {p:Prop} (h:p:=by
 intro mh h;obtain ⟨S',k',tk',I,cc,hr,h1,h2,h3,h4⟩:=h;by_cases h0:t'.rows=[]
 ·refine ⟨S',k',tk',⟨I.it,I.et,S'.length+20,0,I.ic,I.ec,S'.length+21,0,I.ids⟩,cc,hr,h1,h2.junk h0 aA aA aA aA,h3,fun j a b=>?_,.inr bM⟩;have h5:=h4 j a b;exact ⟨h5.1,h5.2.1,bM,h5.2.2.2⟩
 ·exact ⟨S',k',tk',I,cc,hr,h1,h2,h3,h4,.inl (h2.low.ib h0)⟩):p:=h
namespace QQ
theorem Ai9.far:Ar27:=fun {S iq eq t' r}=>Ma27
end QQ
end
section
open Go
def J9 (t t':Tb):Prop:=t'.real=t.real/\t'.vars=t.vars/\t'.cost.length=t.cost.length/\t'.rows.length=t.rows.length
theorem J9.refl (t:Tb):J9 t t:=⟨rfl,rfl,rfl,rfl⟩
theorem J9.trans {a b c:Tb} (h:J9 a b) (h':J9 b c):J9 a c:=⟨h'.1.trans h.1,h'.2.1.trans h.2.1,h'.2.2.1.trans h.2.2.1,h'.2.2.2.trans h.2.2.2⟩
theorem Vk {F:Fld} {l m:List Q} {c:Nat} : (lessT F l m c).1.length=l.length:=by
 unfold lessT;split
 ·split
  ·rfl
  ·exact My
 ·rfl
theorem Jt {F:Fld} {row:List Q} {c i:Nat} : ∀ {l:List (List Q)} {k:Nat},(lessRows F row c i k l).1.length=l.length
 | [],_=>rfl
 | r :: l,k=>by simp only [lessRows,Ck,Jt]
theorem Ah1 {F:Fld} {t:Tb} {i c:Nat} : J9 t (Dz F t i c):=⟨rfl,rfl,Vk,by simp only [Dz,Jt,Ai]⟩
theorem U6 {F:Fld} : ∀ {K:Nat} {t t':Tb} {b:Bool},Ht F K t=some (b,t')->J9 t t'
 | 0,_,_,_,h=>by simp [Ht] at h
 | K+1,t,t',b,h=>by
  unfold Ht at h;split at h
  ·exact Ya1v
  ·split at h
   ·exact Ya1v
   ·split at h
    ·simp only [A0,Cc] at h; obtain ⟨-,rfl⟩:=h; exact ⟨rfl,rfl,rfl,rfl⟩
    ·have h2:=U6 h;have h3:∀ (u:Tb) (i c:Nat),J9 u (Dz F u i c):=fun u i c=>Ah1;have h4:=(h3 _ _ _).trans h2;exact ⟨h4.1,h4.2.1,h4.2.2.1,h4.2.2.2⟩
theorem U5 {F:Fld} {real W:Nat} : ∀ {c r:List Q} {k:Nat},(costL F real W k c r).1.length=c.length
 | [],_,_=>by simp [costL]
 | a :: c,[],_=>rfl
 | a :: c,b :: r,k=>by simp only [costL,Ck,U5]
theorem Afj {F:Fld} {z:Q} {vars:List ByteArray} {real W:Nat} : ∀ {l:List RowT} {i sl:Nat} {t:Tb},(begS F z vars real W l i sl t).real=t.real/\(begS F z vars real W l i sl t).vars=t.vars/\(begS F z vars real W l i sl t).cost.length=t.cost.length/\(begS F z vars real W l i sl t).rows.length=t.rows.length+l.length
 | [],_,_,_=>⟨rfl,rfl,rfl,rfl⟩
 | r :: l,i,sl,t=>by
  unfold begS;simp only;have h:=Afj (F:=F) (z:=z) (vars:=vars) (real:=real) (W:=W) (l:=l) (i:=i+1) (sl:=if r.2.2=true then sl else sl+1) (t:={ t with rows:=t.rows++[(rowF F z vars real W i sl r).1],cost:=(costL F real W 0 t.cost (rowF F z vars real W i sl r).1).1,basis:=t.basis++[real+i],flip:=t.flip++[Dt r],fl:=(t.fl || (rowF F z vars real W i sl r).2) || (costL F real W 0 t.cost (rowF F z vars real W i sl r).1).2 });simp only [U5,Cn,Ck,C3] at h ⊢;exact ⟨h.1,h.2.1,h.2.2.1,aA⟩
theorem Qj {F:Fld} {l:List RowT} {vars:List ByteArray} {fl:Bool} : (Bp F l vars fl).real=2*vars.length+neqs l/\(Bp F l vars fl).vars=vars.length/\(Bp F l vars fl).cost.length=2*vars.length+neqs l+l.length+1/\(Bp F l vars fl).rows.length=l.length:=by
 unfold Bp;have h:=Afj (F:=F) (z:=(F.whole 0).1) (vars:=vars) (real:=2*vars.length+neqs l) (W:=2*vars.length+neqs l+l.length+1) (l:=l) (i:=0) (sl:=2*vars.length) (t:={ vars:=vars.length,real:=2*vars.length+neqs l,rows:=[],cost:=Cd (2*vars.length+neqs l+l.length+1) (F.whole 0).1,basis:=[],flip:=[],fl:=fl || (F.whole 0).2 });simp only [Oa,C3,Fo] at h ⊢;exact h
def lsC:Option Q->List AV
 | none=>[.prim (.bool false),.frz [] .nilc,.prim (.bool false),.frz [] .nilc]
 | some q=>ceW q
def ansC (f:Bool) (pt nu:List Q) (c1 c2:Cap) (least:Option Q) (bd:Bool):List AV:=[.prim (.bool f),.frz (pt.map ceW) c1,.frz (nu.map ceW) c2]++lsC least++[.prim (.bool bd)]
def ans0:List AV:=[.prim (.bool false),.frz [] .nilc,.frz [] .nilc,.prim (.bool false),.frz [] .nilc,.prim (.bool false),.frz [] .nilc,.prim (.bool false)]
structure Ans where
 f:Bool
 pt:List Q
 nu:List Q
 least:Option (Q × Bool)
def J6 (F:Fld) (K:Nat) (l:List RowT) (vars:List ByteArray) (fl:Bool):Option (Ans × Bool) :=
 match Ht F K (Bp F l vars fl) with
 | none=>none
 | some (_,t)=>if (F.stop && t.fl)=true then some (⟨false,[],[],none⟩,false) else
  if Jq t=true then some (⟨true,(Ep F t).1.map F.rat,[],none⟩,!(F.stop && (t.fl || (Ep F t).2)))
  else some (⟨false,[],(Hu F t).1.map F.rat,none⟩,!(F.stop && (t.fl || (Hu F t).2)))
end
section
open Go Tryz
open Go.Proofs.Tryz renaming func84->ga32,ntmps84->ga33,results84->ga34
set_option maxRecDepth 100000
namespace QQ
abbrev ua15:Nat:=84
end QQ
set_option maxHeartbeats 20000000
set_option maxRecDepth 100000
def Ao6 (S:List Ent) (iq:Nat) (a:Ans) (ok:Bool) (r:Rs):Prop :=
 ∃ S' tk' k' c1 c2 q b,r=(.tup [.agg (ansC a.f a.pt a.nu c1 c2 q b),.bool ok],S',tk',k')/\S'.length=S.length/\(∀ j,j<S.length->j≠iq->nth S' j=nth S j)/\(∀ v,a.least=some v->q=some v.1/\b=v.2)/\(a.least=none->q=none/\b=false)
section
variable (S:List Ent) (tk:List Nat) (k iq eq:Nat)
abbrev Ar28 (p:Prop:=by exact ∀ (S:List Ent)(tk:List Nat)(k iq eq:Nat)(l:List RowT)(fl:Bool)(hl:l.length<=1000)(hn:(Hv l).length<=1000)(vars:List ByteArray)(mf:vars.length<=1000)(hv:∀ r ∈ l,∀ c ∈ r.1,c.1 ∈ vars)(hc:∀ r ∈ l,i64 r.2.1/\∀ c ∈ r.1,i64 c.2)(ei:fewC l)(mh:iq<S.length)(hf:FAq S iq eq fl)(K:Nat)(a:Ans)(ok:Bool)(hS:J6 qF K l vars fl=some (a,ok)),∃ r,cL prog ua15 [.ifc ua0 (rcvQ iq eq),Au l,B2 vars,.prim (.pointer none)] S tk k=some r/\Ao6 S iq a ok r):=p
theorem Ma28 {p:Prop} (h:p:=by
 intro S tk k iq eq l fl hl hn vars mf hv hc ei mh hf K a ok hS;obtain ⟨Φ,hΦ⟩:∃ Φ,Φ=Ao6 S iq a ok:=⟨_,rfl⟩;rw [<- hΦ];obtain ⟨rb,yv,hbP⟩:=Apj (S++[(⟨k,ans0⟩:Ent)]) tk (k+1) iq eq l fl hl hn vars mf hv hc ei aB hf.app;obtain ⟨Sb,kb,tkb,I,cc,rfl,hlb,hTb,su,hob,hib⟩:=hbP.far aB;simp only [ans0,Au,B2] at yv;cases hd:Ht qF K (Bp qF l vars fl) with
 | none=>unfold J6 at hS; rw [hd] at hS; simp at hS
 | some bt =>
  obtain ⟨b,t⟩:=bt;obtain ⟨rd,oc,Sd,kd,rfl,hld,hTd,t8⟩:=Aj6 Sb tkb kb iq eq I _ t cc K b hTb hd;have gv:=Abo Sd tkb kd iq eq t.fl hTd.fa;unfold J6 at hS;rw [hd] at hS;simp only at hS;have ng:∀ j,j<S.length+1->j≠iq->OutQ I iq j:=fun j h1 h2=>hob j aB h2;have hSb:S.length+1<=Sb.length:=by simpa using hlb
  have si:entAt Sd S.length k=some ans0:=by
   rw [Aa (t8 _ (ng _ aA aA)),Aa (su _ (by simp) aA)];exact Bz
  have ba:∀ j,j<S.length->j≠iq->nth Sd j=nth S j:=fun j h1 h2=>by
   rw [t8 _ (ng _ aA h2),su _ aB h2,Bq h1]
  have hP0:∀ cs,entAt (put Sd S.length ⟨k,cs⟩) S.length k=some cs:=fun cs=>Ag aA;have xe:over ans0 0 ans0=some ans0:=rfl;have a0x:=si;simp only [ans0] at xe si;refine opG ga32 ga33 ?_;cases ah:(qF.stop && t.fl) with
  | true =>
   rw [ah] at gv hS;simp (maxSteps:=10^6)+contextual(disch:=try exact dqd)only[evg1,simprocAttr,Cg,Ca,Ch,ga34,Au,B2,yv,oc,gv,si,xe,hP0,Ek,xfs];rw [if_pos rfl] at hS;simp only [A0,Cc] at hS;obtain ⟨rfl,rfl⟩:=hS;rw [hΦ];refine ⟨_,_,_,.nilc,.nilc,none,false,rfl,by rw [Iy,Am]; omega,fun j h1 h2=>?_,fun v hv=>by simp at hv,fun _=>⟨rfl,rfl⟩⟩;rw [Ey h1,Ad aA]; exact ba j h1 h2
  | false =>
   rw [ah] at gv hS;rw [if_neg K2] at hS;obtain ⟨rf,fo,Sf,kf,rfl,hlf,hTf,hnf⟩:=Agp Sd tkb kd iq eq I t cc hTd;have hsz:=U6 hd;have pn:=Qj (F:=qF) (l:=l) (vars:=vars) (fl:=fl);have hoN:∀ d,d<=10->OutQ I iq (Sf.length+d):=fun d hd=>by
    rw [hlf,hld]; exact An1 hTb aA aA d hd
   have hEf:entAt Sf S.length k=some ans0:=by rw [Aa (hnf _ (ng _ aA aA))]; exact a0x
   cases hfe:Jq t with
   | false =>
    rw [hfe] at fo hS;rw [if_neg K2] at hS;simp only [A0,Cc] at hS;obtain ⟨rfl,rfl⟩:=hS;obtain ⟨rm,tz,Sm,km,tkm,cm,rfl,y3,hTm,fe⟩:=Yb (Sf++[(⟨kf,ans0⟩:Ent)]) tkb (kf+1) iq eq I t cc (hTf.app _) (by rw [hsz.1,hsz.2.2.1,hsz.2.2.2,pn.1,pn.2.2.1,pn.2.2.2]; omega);have a0y:Sm.length=Sf.length+1:=by rw [y3]; simp
    have o3:entAt Sm Sf.length kf=some ans0:=Za56
    have lp:entAt Sm S.length k=some ans0:=Za57
    have hR:Ks (Hu qF t).1=(Hu qF t).1.map fun q=>ceW (qF.rat q):=rfl;have rr:∀ cs,entAt (put Sm Sf.length ⟨kf,cs⟩) Sf.length kf=some cs:=fun cs=>Ag aA;have lq:∀ x,entAt (put Sm Sf.length x) S.length k=some ans0:=fun x=>by rw [Af aA]; exact lp
    have rt:∀ x,FAq (put Sm Sf.length x) iq eq (Cj t.fl (Hu qF t).2):=fun x=>hTm.fa.put aA;have ru x:=Abo (put Sm Sf.length x) tkm km iq eq _ (rt x);have hPP:∀ x cs,entAt (put (put Sm Sf.length x) S.length ⟨k,cs⟩) S.length k=some cs:=fun x cs=>Ag dL;simp only [ans0] at o3 lp lq tz;simp (maxSteps:=10^6)+contextual(disch:=try exact dqd)only[evg1,simprocAttr,Cg,Ca,Ch,ga34,Au,B2,yv,oc,gv,fo,tz,o3,rr,lq,ru,hPP,Ek,xfs];rw [hΦ];refine ⟨_,_,_,.nilc,cm,none,false,Za2e,by rw [Iy,Am,Am]; omega,fun j h1 h2=>?_,fun v hv=>by simp at hv,fun _=>⟨rfl,rfl⟩⟩;rw [Ey h1,Ad aA,Ad aA,fe _ (ng _ aA h2),Bq aA,hnf _ (ng _ aA h2)];exact ba j h1 h2
   | true =>
    rw [hfe] at fo hS;rw [if_pos rfl] at hS;simp only [A0,Cc] at hS;obtain ⟨rfl,rfl⟩:=hS;obtain ⟨ans1,xf⟩:∃ ans1:List AV,ans1=[.prim (.bool true),.frz [] .nilc,.frz [] .nilc,.prim (.bool false),.frz [] .nilc,.prim (.bool false),.frz [] .nilc,.prim (.bool false)]:=⟨_,rfl⟩;obtain ⟨rm,tz,Sm,km,tkm,cm,rfl,y3,hTm,fe⟩:=Aqk (Sf++[(⟨kf,ans1⟩:Ent)]) tkb (kf+1) iq eq I t cc (hTf.app _) (by rw [hsz.1,hsz.2.1,pn.1,pn.2.1]; omega);have a0y:Sm.length=Sf.length+1:=by rw [y3]; simp
    have o3:entAt Sm Sf.length kf=some ans1:=Za56
    have lp:entAt Sm S.length k=some ans0:=Za57
    have hR:Ks (Ep qF t).1=(Ep qF t).1.map fun q=>ceW (qF.rat q):=rfl;have rr:∀ cs,entAt (put Sm Sf.length ⟨kf,cs⟩) Sf.length kf=some cs:=fun cs=>Ag aA;have lq:∀ x,entAt (put Sm Sf.length x) S.length k=some ans0:=fun x=>by rw [Af aA]; exact lp
    have rt:∀ x,FAq (put Sm Sf.length x) iq eq (Cj t.fl (Ep qF t).2):=fun x=>hTm.fa.put aA;have ru x:=Abo (put Sm Sf.length x) tkm km iq eq _ (rt x);have hPP:∀ x cs,entAt (put (put Sm Sf.length x) S.length ⟨k,cs⟩) S.length k=some cs:=fun x cs=>Ag dL;rw [xf] at o3 tz;have a0z:J4 BinOp.neq (Tg prog 113) true=some (.prim (.bool false)):=aK
    simp only [ans0] at lp lq;simp (maxSteps:=10^6)+contextual(disch:=try exact dqd)only[evg1,simprocAttr,Cg,Ca,Ch,ga34,Au,B2,yv,oc,gv,fo,tz,o3,rr,lq,ru,hPP,a0z,Ek,xfs];rw [hΦ];refine ⟨_,_,_,cm,.nilc,none,false,Za2e,by rw [Iy,Am,Am]; omega,fun j h1 h2=>?_,fun v hv=>by simp at hv,fun _=>⟨rfl,rfl⟩⟩;rw [Ey h1,Ad aA,Ad aA,fe _ (ng _ aA h2),Bq aA,hnf _ (ng _ aA h2)];exact ba j h1 h2):p:=h
namespace QQ
theorem Aog:Ar28:=Ma28
end QQ
end
end
section
open Go
theorem Jn {f b:Bool} {p n:List Q} {c1 c2:Cap} {q:Option Q} : (ansC f p n c1 c2 q b).length=8:=by cases q <;> rfl
theorem Wv {f b:Bool} {p n:List Q} {c1 c2:Cap} {q:Option Q} : (ansC f p n c1 c2 q b).all leafOk=true:=by cases q <;> rfl
theorem Rh {e e':List AV} (h:e.length=e'.length):over e 0 e'=some e':=by
 have:=P4 (r:=[]) h;exact Ya17
end
section
open Go Tryz
open Go.Proofs.Tryz renaming func153->ga2,ntmps153->ga3,results153->ga4
open Go.Proofs.YthelkgdmgihhiaaGreat renaming ceW->ga0,Ao->ga1,Bc->ga5,Bj->ga6
set_option maxRecDepth 100000
namespace WW
abbrev ua0:Nat:=123
abbrev ua1:Nat:=153
abbrev ua2:Nat:=4
abbrev ua3:Nat:=0
abbrev ua4:Nat:=0
end WW
set_option maxHeartbeats 4000000
set_option maxRecDepth 100000
namespace WW
def Alr (S:List Ent) (tk:List Nat) (ia ea iq eq:Nat) (l:List Q) (fl:Bool) (r:Rs):Prop :=
 ∃ S' k',r=(.tup [],S',tk,k')/\S'.length=S.length/\entAt S' ia ea=some (flat ceW l)/\FAq S' iq eq fl/\∀ j,j≠ia->j≠iq->nth S' j=nth S j
end WW
section
variable (S:List Ent) (tk:List Nat) (k iq eq:Nat) (fl:Bool)
namespace WW
theorem Ap4:Ar0:=Ma0
end WW
end
end
section
open Go
open Go.Proofs.YthelkgdmgihhiaaGreat renaming ceW->ga0
set_option maxRecDepth 100000
namespace WW
structure Az (S:List Ent) (iq eq:Nat) (I:TI) (t:Tb) (c:Cap):Prop where
 top:entAt S I.it I.et=some [.ifc 123 (rcvQ iq eq),intA t.vars,intA t.real,cw I.ir I.er 1 t.rows.length,.sref I.ic I.ec 0 t.cost.length 4,cw I.ib I.eb 1 t.rows.length,.frz (t.flip.map Dn) c]
 nids:I.ids.length=t.rows.length
 rowsE:t.rows≠[]->entAt S I.ir I.er=some (I.ids.map (f7 t.cost.length 4))
 rowE:∀ i p r,nth I.ids i=some p->nth t.rows i=some r->entAt S p.1 p.2=some (flat ceW r)
 rowW:∀ r ∈ t.rows,r.length=t.cost.length
 costE:entAt S I.ic I.ec=some (flat ceW t.cost)
 basisE:t.rows≠[]->entAt S I.ib I.eb=some (t.basis.map intA)
 nb:t.basis.length=t.rows.length
 nf:t.flip.length=t.rows.length
 fa:FAq S iq eq t.fl
 ap:Apart I iq
 okr:∀ r ∈ t.rows,okL qF r
 okc:okL qF t.cost
 bigW:t.cost.length<=1000000
 bigM:t.rows.length<=1000000
 real:t.real<t.cost.length
 bB:∀ b ∈ t.basis,b<t.cost.length
end WW
section
variable {S S':List Ent} {iq eq:Nat} {I:TI} {t:Tb} {c:Cap}
namespace WW
theorem Az.row:Ar1:=fun {S S' iq eq I t c}=>Ma1
theorem Az.setCost:Ar2:=fun {S S' iq eq I t c}=>Ma2
theorem Az.setBasis:Ar3:=fun {S iq eq I t c}=>Ma3
theorem Az.flag:Ar4:=fun {S S' iq eq I t c}=>Ma4
theorem Az.app:Ar5:=fun {S iq eq I t c}=>Ma5
structure LowQ (I:TI) (iq n:Nat) (t:Tb):Prop where
 it:I.it<n
 ic:I.ic<n
 ir:t.rows≠[]->I.ir<n
 ib:t.rows≠[]->I.ib<n
 row:∀ p ∈ I.ids,p.1<n
 iq:True
theorem Az.low (h:Az S iq eq I t c):LowQ I iq S.length t:=by
 refine ⟨A5 h.top,A5 h.costE,fun hn=>A5 (h.rowsE hn),fun hn=>A5 (h.basisE hn),fun p hp=>?_,trivial⟩;exact Yai
theorem Az.take:Ar6:=fun {S iq eq I t c}=>Ma6
theorem LowQ.of {n:Nat} {t':Tb} (h:LowQ I iq n t) (hn:t'.rows≠[]->t.rows≠[]):LowQ I iq n t':=⟨h.it,h.ic,fun h'=>h.ir (hn h'),fun h'=>h.ib (hn h'),h.row,h.iq⟩
theorem Az.frame:Ar7:=fun {S S' iq eq I t c}=>Ma7
def Wq (S:List Ent) (tk:List Nat) (iq eq:Nat) (I:TI) (t':Tb) (cc:Cap) (v:AV) (r:Rs):Prop :=
 ∃ S' k',r=(v,S',tk,k')/\S'.length=S.length/\Az S' iq eq I t' cc/\∀ j,OutQ I iq j->nth S' j=nth S j
end WW
end
end
section
open Go Tryz
open Go.Proofs.Tryz renaming func150->ga7,ntmps150->ga8,results150->ga9
open Go.Proofs.YthelkgdmgihhiaaGreat renaming ceW->ga0,Ao->ga1,Bc->ga5,Bj->ga6
set_option maxRecDepth 100000
namespace WW
abbrev ua5:Nat:=150
end WW
set_option maxHeartbeats 8000000
set_option maxRecDepth 100000
section
variable (S:List Ent) (tk:List Nat) (k iq eq:Nat)
namespace WW
theorem Aqi:Ar8:=Ma8
end WW
end
end
section
open Go Tryz
open Go.Proofs.Tryz renaming func149->ga10,ntmps149->ga11,results149->ga12
open Go.Proofs.YthelkgdmgihhiaaGreat renaming ceW->ga0,Ao->ga1,Bc->ga5,Bj->ga6
set_option maxRecDepth 100000
namespace WW
abbrev ua6:Nat:=149
end WW
set_option maxHeartbeats 8000000
set_option maxRecDepth 100000
section
variable (S:List Ent) (tk:List Nat) (k iq eq:Nat)
namespace WW
theorem Akm:Ar9:=Ma9
end WW
end
end
section
open Go Tryz
open Go.Proofs.Tryz renaming func122->ga13,ntmps122->ga14,results122->ga15
open Go.Proofs.YthelkgdmgihhiaaGreat renaming ceW->ga0,Ao->ga1
set_option maxRecDepth 100000
namespace WW
abbrev ua7:Nat:=122
end WW
set_option maxHeartbeats 8000000
set_option maxRecDepth 100000
section
variable (S:List Ent) (tk:List Nat) (k iq eq:Nat)
namespace WW
theorem Aj6:Ar10:=Ma10
end WW
end
end
section
open Go Tryz
open Go.Proofs.Tryz renaming func123->ga16,ntmps123->ga17,results123->ga18,func151->ga19,ntmps151->ga20,results151->ga21
open Go.Proofs.YthelkgdmgihhiaaGreat renaming ceW->ga0,Ao->ga1,Bc->ga5
set_option maxRecDepth 100000
namespace WW
abbrev ua8:Nat:=123
abbrev ua9:Nat:=151
end WW
set_option maxHeartbeats 4000000
set_option maxRecDepth 100000
namespace WW
def Aoq (S:List Ent) (tk:List Nat) (iq eq:Nat) (y:Q × Bool) (r:Rs):Prop:=∃ k',r=(.agg (ceW y.1),flS S iq eq y.2,tk,k')
end WW
section
variable (S:List Ent) (tk:List Nat) (k iq eq:Nat)
namespace WW
theorem Agp:Ar11:=Ma11
theorem Af2:Ar12:=Ma12
end WW
end
end
section
open Go
set_option maxRecDepth 100000
namespace WW
theorem Eh (n:Int) (hn:i64 n):qF.ok (qF.whole n).1:=Da.whole n hn
theorem Af0:Ar13:=fun {S iq eq I t cc c}=>Ma13
end WW
end
section
open Go Tryz
open Go.Proofs.Tryz renaming func125->ga22,ntmps125->ga23,results125->ga24,func124->ga25,ntmps124->ga26,results124->ga27
open Go.Proofs.YthelkgdmgihhiaaGreat renaming ceW->ga0,Ao->ga1,Bc->ga5,Bj->ga6
set_option maxRecDepth 100000
namespace WW
abbrev ua10:Nat:=125
abbrev ua11:Nat:=0
abbrev ua12:Nat:=124
end WW
set_option maxHeartbeats 8000000
set_option maxRecDepth 100000
namespace WW
def Ks (l:List Q):List (List AV):=l.map fun q=>ceW (qF.rat q)
theorem Acb (l:List Q):Dv 4 (Ks l)=true:=Za15
def Ajc (S:List Ent) (iq eq:Nat) (I:TI) (t':Tb) (cc:Cap) (l:List Q) (r:Rs):Prop :=
 ∃ S' k' tk' c,r=(.frz (Ks l) c,S',tk',k')/\S'.length=S.length/\Az S' iq eq I t' cc/\∀ j,OutQ I iq j->nth S' j=nth S j
end WW
section
variable (S:List Ent) (tk:List Nat) (k iq eq:Nat)
namespace WW
theorem Aqk:Ar14:=Ma14
theorem Yb:Ar15:=Ma15
end WW
end
end
section
open Go
open Go.Proofs.YthelkgdmgihhiaaGreat renaming ceW->ga0
set_option maxRecDepth 100000
namespace WW
theorem Az.add:Ar16:=fun {S S' iq eq I t c c' ir er ib eb id nr b f fl' row}=>Ma16
structure E7 (S SS:List Ent) (iq eq:Nat) (I:TI) (t:Tb) (cp:Cap) (L nz n15 n16 n19:Nat) (z:Q) (r:RowT) (row:List Q) (u:Q):Prop where
 T:Az SS iq eq I t cp
 low:LowQ I iq L t
 Z:entAt SS (S.length+1) nz=some (ceW z)
 E15:entAt SS L n15=some (rowC r)
 E16:entAt SS (L+1) n16=some (flat ceW row)
 E19:entAt SS (L+2) n19=some (ceW u)
 len:SS.length=L+3
 fr:∀ j,j<S.length->j≠iq->nth SS j=nth S j
 qL:iq<S.length
 SL:S.length+3<=L
 ic:I.ic=S.length+2
end WW
section
variable {S SS S':List Ent} {iq eq:Nat} {I:TI} {t:Tb} {cp:Cap} {L nz n15 n16 n19:Nat} {z u:Q} {r:RowT} {row:List Q}
namespace WW
theorem E7.flag:Ar17:=fun {S SS S' iq eq I t cp L nz n15 n16 n19 z u r row fl'}=>Ma17
theorem E7.put:Ar18:=fun {S SS iq eq I t cp L nz n15 n16 n19 z u r row}=>Ma18
theorem E7.unit:Ar19:=fun {S SS iq eq I t cp L nz n15 n16 n19 z u r row}=>Ma19
theorem E7.cost:Ar20:=fun {S SS iq eq I t cp L nz n15 n16 n19 z u r row k'}=>Ma20
end WW
end
end
section
open Go
namespace WW
def Aet (S:List Ent) (l:List RowT) (vars:List ByteArray) (fl:Bool) (k iq eq c W nz:Nat) (z:Q) (i:Nat) (st:St):Prop :=
 ∃ sl t1 I cp,i<=l.length/\Bp qF l vars fl=begS qF z vars c W (l.drop i) i sl t1/\Az st.S iq eq I t1 cp/\t1.rows.length=i/\t1.cost.length=W/\t1.real=c/\t1.vars=vars.length/\sl+neqs (l.drop i)=c/\Ba st.tk cp 1=true/\entAt st.S (S.length+1) nz=some (ceW z)/\S.length+3<=st.S.length/\(∀ j,j<S.length->j≠iq->nth st.S j=nth S j)/\(I.it=S.length/\I.et=k/\I.ic=S.length+2)/\(S.length+2<I.ir/\S.length+2<I.ib/\∀ p ∈ I.ids,S.length+2<p.1) /\
  st.T.length=270/\getT st.T 0=.ifc 123 (rcvQ iq eq)/\getT st.T 1=.frz (l.map rowC) .unk/\getT st.T 2=.frz (vars.map strC) .unk/\getT st.T 7=.ref S.length k 0/\getT st.T 10=.int (sl:Nat)/\getT st.T 11=.int (W:Nat)/\getT st.T 12=.ref (S.length+1) nz 0/\getT st.T 83=.frz (l.map rowC) .unk/\getT st.T 84=.int (l.length:Nat)/\getT st.T 85=.int (i:Nat)
end WW
end
end Go.Proofs.YthelkgdmgihhiaaGreat
