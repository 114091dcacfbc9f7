/- Part 22. -/
import Derived.Test.YtcandeobhlfkbaaGreatZF21
open Bool renaming or->Cl,or_false->Fv,or_assoc->Fy,false_or->I1,false_ne_true->Ob
open Go.IntKind renaming i64->Cf
open Go.Proofs.YtcandeobhlfkbaaGreat.AV renaming bool->Cb,int->Cd,str->Ce
open List renaming replicate->Ci,length_cons->Ck,mem_cons->Cn,map_cons->Cp,cons_append->Cr,length_append->Cs,getElem?_append_left->Ct,length_nil->Cu,all_eq_true->Cv,nil_append->Cw,mem_append->C4,getElem?_append_right->C6,getElem?_eq_none->C9,append_assoc->Fa,take_of_length_le->Fc,length_eq_zero_iff->Fh,map_nil->Fi,length_map->Fq,drop_eq_nil_of_le->Ft,getElem?_eq_some_iff->Fu,getElem?_map->Fw,getElem?_cons_zero->F2,append_nil->F4,mem_map->F9,take_length->Gl,mem_singleton->He,map_append->Ij,mem_of_getElem?->Ik,mem_replicate->Im,length_take->Ix,replicate_succ->Lg,length_pos_iff->Lo,take->Oc,length_replicate->Oj,singleton_append->O9,map_map->iM,drop->iO,map_replicate->iT
open Nat renaming le_refl->Cc,zero_le->Co,zero_add->Fg,mul_one->Ib,sub_self->I4,add_zero->M9,eq_zero_or_pos->gF
open Ne renaming symm->Oo
open Option renaming bind_some->I7
open Option.some renaming injEq->A2
open Prod.mk renaming injEq->Cg
namespace Go.Proofs.YtcandeobhlfkbaaGreat
section
open Go Tryz
open Go.Proofs.Tryz renaming f61->ga28,results61->ga29
open Go.Proofs.YtcandeobhlfkbaaGreat renaming ceQ->ga0,Av->ga1,Bs->ga5,A0->ga6
set_option maxRecDepth 100000
namespace QQ
abbrev ua13:Nat:=123
end QQ
set_option maxHeartbeats 20000000
set_option maxRecDepth 100000
section
variable (S:List Ent) (l:List RowT) (vars:List ByteArray) (fl:Bool) (k iq eq c W nz:Nat) (z:Q)
abbrev At21 (p:Prop:=by exact ∀ (S:List Ent)(l:List RowT)(vars:List ByteArray)(fl:Bool)(k iq eq c W nz:Nat)(z:Q)(hB:BegC S l vars iq c W)(Φ:Rs->Prop)(i:Nat)(a8:i<l.length)(r:RowT)(hr:nth l i=some r)(sl2:Nat)(i9:sl2+neqs (l.drop (i+1))=c)(t1:Tb)(I:TI)(cp:Cap)(tk:List Nat)(ez:t1.rows.length=i)(hcl:t1.cost.length=W)(hre:t1.real=c)(gz:t1.vars=vars.length)(hok:Bd tk cp 1=true)(ba:I.it=S.length/\I.et=k/\I.ic=S.length+2)(g8:S.length+2<I.ir/\S.length+2<I.ib/\∀ p ∈ I.ids,S.length+2<p.1)(rowZ:List Q)(fr:Bool)(mw:rowZ.length=W)(orowZ:okL qF rowZ)(L m0 nu:Nat)(u:Q × Bool)(fb:Bool)(ja:fb=D2 r)(SZ:List Ent)(n7 lv:Nat)(kk:Gk S SZ iq eq I { t1 with fl:=Cl t1.fl fr } cp L nz m0 (m0+1) nu z r rowZ u.1)(hR:Bq qF l vars fl=begS qF z vars c W (l.drop (i+1)) (i+1) sl2 { t1 with rows:=t1.rows++[rowZ],cost:=(costL qF c W 0 t1.cost rowZ).1,basis:=t1.basis++[c+i],flip:=t1.flip++[fb],fl:=Cl (Cl t1.fl fr) (costL qF c W 0 t1.cost rowZ).2 })(back:∀ st,Ahc S l vars fl k iq eq c W nz z (i+1) st->Gd finM Φ (KA prog ga28 18 [] st))(T:List AV)(hT:T.length=270)(e0:getT T 0=.ifc ua0 (rcvQ iq eq))(e1:getT T 1=.frz (l.map rowC) .unk)(e2:getT T 2=.frz (vars.map strC) .unk)(e7:getT T 7=.ref S.length k 0)(e10:getT T 10=.int (sl2:Nat))(e11:getT T 11=.int (W:Nat))(e12:getT T 12=.ref (S.length+1) nz 0)(e14:getT T 14=.int (i:Nat))(e15:getT T 15=.ref L m0 0)(e16:getT T 16=.sref (L+1) (m0+1) 0 W ua2)(e18:getT T 18=.prim (.bool fb))(e19:getT T 19=.ref (L+2) nu 0)(e83:getT T 83=.frz (l.map rowC) .unk)(e84:getT T 84=.int (l.length:Nat))(e85:getT T 85=.int (i:Nat))(e194:getT T 194=.int (W:Nat))(e195:getT T 195=.int ((0:Nat):Int)),Gd finM Φ (KA prog ga28 43 [lv] ⟨T,SZ,tk,n7⟩)):=p
theorem Ma21 {p:Prop} (h:p:=by
 intro S l vars fl k iq eq c W nz z hB Φ i a8 r hr sl2 i9 t1 I cp tk ez hcl hre gz hok ba g8 rowZ fr mw orowZ L m0 nu u fb ja SZ n7 lv kk hR back T hT e0 e1 e2 e7 e10 e11 e12 e14 e15 e16 e18 e19 e83 e84 e85 e194 e195;obtain ⟨hl,lq,hv,hc,d6,mc,sn,t8⟩:=hB;have hnl:=Mr l;have qx:Cf.wrap ((W:Int) - 1)=((W - 1:Nat):Int):=aS
 have hW1:W - 1<W:=aA
 have jb:Cf.wrap ((c:Int)+(i:Int))=((c+i:Nat):Int):=aU
 have hwi:Cf.wrap ((i:Int)+1)=((i+1:Nat):Int):=aU
 have sy:c+i<W:=aA
 refine Afe rfl (t:=.mk) ?_;refine Ga (P:=prog) (fun x st=>st.T.length=270/\(costL qF c W 0 t1.cost rowZ=(x.2.2.1++(costL qF c W x.2.2.1.length x.2.2.2.1 (rowZ.drop x.2.2.1.length)).1,Cl x.2.2.2.2 (costL qF c W x.2.2.1.length x.2.2.2.1 (rowZ.drop x.2.2.1.length)).2))/\(x.2.2.1.length+x.2.2.2.1.length=W)/\(Gk S x.1 iq eq I { t1 with cost:=x.2.2.1++x.2.2.2.1,fl:=Cl (Cl t1.fl fr) x.2.2.2.2 } cp L nz m0 (m0+1) nu z r rowZ u.1)/\getT st.T 0=.ifc ua0 (rcvQ iq eq)/\getT st.T 1=.frz (l.map rowC) .unk/\getT st.T 2=.frz (vars.map strC) .unk/\getT st.T 7=.ref S.length k 0/\getT st.T 10=.int (sl2:Nat)/\getT st.T 11=.int (W:Nat)/\getT st.T 12=.ref (S.length+1) nz 0/\getT st.T 14=.int (i:Nat)/\getT st.T 15=.ref L m0 0/\getT st.T 16=.sref (L+1) (m0+1) 0 W ua2/\getT st.T 18=.prim (.bool fb)/\getT st.T 19=.ref (L+2) nu 0/\getT st.T 83=.frz (l.map rowC) .unk/\getT st.T 84=.int (l.length:Nat)/\getT st.T 85=.int (i:Nat)/\getT st.T 194=.int (W:Nat)/\getT st.T 195=.int (x.2.2.1.length:Nat)/\st.S=x.1/\st.tk=tk/\st.n=x.2.1) (fun x=>x.2.2.2.1.length) (SZ,n7,([]:List Q),t1.cost,false) ?_ ?_;case refine_2=>exact ⟨aK,rfl,by simpa using hcl,by simp only [Cw,Fv]; exact kk,aK,aK,aK,aK,aK,aK,aK,aK,aK,aK,aK,aK,aK,aK,aK,aK,aK,aK,aK,aK⟩
 rintro ⟨SS,n1,p,v,fq⟩ ⟨T,S',tk',n'⟩ ⟨hl,js,hpv,ae,e0,e1,e2,e7,e10,e11,e12,e14,e15,e16,e18,e19,e83,e84,e85,e194,e195,eS,eT,eN⟩ IH;simp only at js hpv ae e0 e1 e2 e7 e10 e11 e12 e14 e15 e16 e18 e19 e83 e84 e85 e194 e195 eS eT eN;subst eS eT eN;obtain ⟨g,hg,hT⟩:=Au hl;rw [hg] at e0 e1 e2 e7 e10 e11 e12 e14 e15 e16 e18 e19 e83 e84 e85 e194 e195;subst hT;clear hg hl;have gh:(p++v).length=W:=by simpa using hpv
 have jt:=ae.T.top;simp only [ba.1,ba.2.1,ba.2.2,gh,hre,gz,ez,intA] at jt;by_cases yo:p.length<W
 ·have c2:decide ((p.length:Int)<(W:Int))=true:=by simpa using yo
  obtain ⟨a0,v,rfl⟩:∃ a0 v',v=a0 :: v':=by
   cases v with
   | nil=>simp at hpv; omega
   | cons x v=>exact ⟨x,v,rfl⟩
  obtain ⟨r0,bw⟩:=Af (show p.length<rowZ.length by omega);have fo:=Ay bw;have oa0:qF.ok a0:=ae.T.okc a0 (by simp);have or0:qF.ok r0:=orowZ r0 (Am bw);have hw:Cf.wrap ((p.length:Int)+1)=(((p++[a0]).length:Nat):Int):=bS
  have vg:v.length<(a0 :: v).length:=by simp
  have hlp:∀ a:Q,(p++[a]).length=p.length+1:=fun a=>by simp
  rw [fo] at js;simp only [costL] at js;by_cases xr:p.length<c
  ·have c6:decide ((p.length:Int)<(c:Int))=true:=by simpa using xr
   have ah:Jf qF c W p.length a0 r0=qF.minus a0 r0:=by unfold Jf; rw [if_pos (Or.inl xr)]
   have c7:=c6;have c7b:=c6;exact Ya4
  ·have c6:decide ((p.length:Int)<(c:Int))=false:=by simpa using xr
   by_cases bz:p.length=W - 1
   ·have c7:decide ((p.length:Int)=((W - 1:Nat):Int))=true:=by exact decide_eq_true aA
    have c7b:((p.length:Int) == ((W - 1:Nat):Int))=true:=by exact decide_eq_true aA
    have ah:Jf qF c W p.length a0 r0=qF.minus a0 r0:=by unfold Jf; rw [if_pos (Or.inr bz)]
    exact Ya4
   ·have wl:¬ ((p.length:Int)=((W - 1:Nat):Int)):=fun h=>bz aA;have c7:decide ((p.length:Int)=((W - 1:Nat):Int))=false:=by simpa using wl
    have c7b:((p.length:Int) == ((W - 1:Nat):Int))=false:=by simpa using wl
    have ah:Jf qF c W p.length a0 r0=(a0,false):=by unfold Jf; rw [if_neg aA]
    rw [ah] at js;simp (maxSteps:=10^6)+contextual(disch:=try exact dqd)only[evg1,simprocAttr,Cd,Cb,Ce,ga29,e0,e1,e2,e7,e10,e11,e12,e14,e15,e16,e18,e19,e83,e84,e85,e194,e195,c2,c6,c7,c7b,hw,qx,jt];exact IH (S',n',p++[a0],v,fq) _ aF ⟨rfl,by rw [js,hlp]; simp only [Fa,Cr,Cw,I1],by show (p++[a0]).length+v.length=W; simp only [Cs,Ck,Cu] at hpv ⊢; omega,by simpa using ae,bW⟩
 ·have c2:decide ((p.length:Int)<(W:Int))=false:=by simpa using yo
  have a0s:v=[]:=Fh.1 aA;subst a0s;simp only [costL,F4,Fv] at js ae gh jt;rw [js] at hR;simp only at hR;clear IH js;obtain ⟨m7,hm7⟩:∃ m7,m7=n':=⟨_,rfl⟩;subst hm7;obtain ⟨SW,hSW⟩:∃ SW,SW=S':=⟨_,rfl⟩;subst hSW;have yp:=ae.len;have hSL:=ae.SL;have hqL:=ae.qL;have pn:(t1.flip.map Dw).length+1<=1048576:=by rw [Fq,ae.T.nf]; simp only; omega
  have hfo:B9 1 (t1.flip.map Dw)=true:=by
   unfold B9;rw [Cv];intro e he;obtain ⟨b,-,rfl⟩:=F9.1 he;rfl
  have hap:=apB_one (y:=[.prim (.bool fb)]) hok hfo rfl pn;have dh:=Dj hok;have wm:(t1.flip++[fb]).map Dw=t1.flip.map Dw++[[.prim (.bool fb)]]:=by simp [Dw]
  rcases gF i with ju|ju
  ·rw [ju] at jt;simp only [cq] at jt;have yq:S.length<SW.length:=aA
   have hP:∀ e x:Ent,put (SW++[e]) S.length x=put SW S.length x++[e]:=fun e x=>Dt yq;have hQ:∀ y e x:Ent,put (put SW S.length y++[e]) S.length x=put SW S.length x++[e]:=fun y e x=>by rw [Dt (by rw [Ao]; exact yq),Nz]
   have yh:∀ y e e' x:Ent,put (put SW S.length y++[e]++[e']) S.length x=put SW S.length x++[e]++[e']:=fun y e e' x=>by rw [Dt (by rw [Cs,Ao]; omega),hQ]
   have hE:∀ cs,entAt (put SW S.length ⟨k,cs⟩) S.length k=some cs:=fun cs=>Ai yq;have hEa:∀ cs e,entAt (put SW S.length ⟨k,cs⟩++[e]) S.length k=some cs:=fun cs e=>Ac (hE cs);have hEb:∀ cs e e',entAt (put SW S.length ⟨k,cs⟩++[e]++[e']) S.length k=some cs:=fun cs e e'=>Ac (hEa cs e);have hE0:∀ e,entAt (SW++[e]) S.length k=_:=fun e=>Ac jt;have tf:∀ y e:Ent,(put SW S.length y++[e]).length=L+4:=fun y e=>by rw [Cs,Ao,yp]; rfl
   have q8:∀ S n,apO prog ua13 (.frz [] .nilc) (.lit 1 [.sref (L+1) (m0+1) 0 W ua2]) S n=some (.sref S.length n 0 1 1,S++[⟨n,[.sref (L+1) (m0+1) 0 W ua2]⟩],n+1):=fun S n=>Ahy aL rfl;have q9:∀ (c:Cap) x S n,apO prog 45 (.frz [] .nilc) (.frz [[.prim (.int .i64 x)]] c) S n=some (.sref S.length n 0 1 1,S++[⟨n,[.prim (.int .i64 x)]⟩],n+1):=fun c x S n=>Ahx aL rfl;simp (maxSteps:=10^6)+contextual(disch:=try exact dqd)only[evg1,simprocAttr,Cd,Cb,Ce,ga29,e0,e1,e2,e7,e10,e11,e12,e14,e15,e16,e18,e19,e83,e84,e85,e194,e195,c2,jt,hE0,jb,hwi,hap,q8,q9,Qp,hP,hQ,yh,hE,hEa,hEb,tf,yp];have hne:0<i->t1.rows≠[]:=fun h=>aA
   have gy:I.ids=[]:=Fh.1 (by rw [ae.T.nids]; simp only; omega);have qw:t1.basis=[]:=Fh.1 (by have:=ae.T.nb; simp only at this; omega);obtain ⟨SF,jc⟩:∃ SF,SF=put SW S.length ⟨k,[.ifc ua0 (rcvQ iq eq),.int (vars.length:Nat),.int (c:Nat),.sref (L+3) m7 0 1 1,.sref (S.length+2) I.ec 0 W ua2,.sref (L+4) (m7+1) 0 1 1,.frz (t1.flip.map Dw++[[.prim (.bool fb)]]) (Bg tk' cp 1)]⟩++[⟨m7,[.sref (L+1) (m0+1) 0 W ua2]⟩]++[⟨m7+1,[.prim (.int .i64 ((c+i:Nat):Int))]⟩]:=⟨_,rfl⟩;rw [<- jc];have s8:(put SW S.length ⟨k,[.ifc ua0 (rcvQ iq eq),.int (vars.length:Nat),.int (c:Nat),.sref (L+3) m7 0 1 1,.sref (S.length+2) I.ec 0 W ua2,.sref (L+4) (m7+1) 0 1 1,.frz (t1.flip.map Dw++[[.prim (.bool fb)]]) (Bg tk' cp 1)]⟩).length=L+3:=by rw [Ao,yp]
   have htF:entAt SF S.length k=some [.ifc ua0 (rcvQ iq eq),.int (vars.length:Nat),.int (c:Nat),.sref (L+3) m7 0 (i+1) 1,.sref (S.length+2) I.ec 0 W ua2,.sref (L+4) (m7+1) 0 (i+1) 1,.frz (t1.flip.map Dw++[[.prim (.bool fb)]]) (Bg tk' cp 1)]:=by rw [jc,hEb,ju]
   have hrF:entAt SF (L+3) m7=some ((I.ids++[(L+1,m0+1)]).map (fo W ua2)):=by rw [jc,gy]; exact Ac (Al s8)
   have hbF:entAt SF (L+4) (m7+1)=some ((t1.basis++[c+i]).map intA):=by rw [jc,qw]; exact Al (by rw [Cs,s8]; rfl)
   have jd:∀ j,j<L+3->j≠S.length->(0<i->j≠I.ir/\j≠I.ib)->nth SF j=nth SW j:=fun j h1 h2 _=>by
    rw [jc,Bo (by rw [Cs,s8]; omega),Bo (by rw [s8]; exact h1),Ad (Oo h2)]
   have hlF:SF.length=L+5:=by rw [jc,Cs,Cs,s8]; rfl
   have hIR:S.length+2<L+3:=aA
   have hIB:S.length+2<L+4:=aA
   have hAp:Apart ⟨I.it,I.et,L+3,m7,I.ic,I.ec,L+4,m7+1,I.ids++[(L+1,m0+1)]⟩ iq:=by
    rw [gy];constructor <;> first|(simp only; omega)|skip
    ·intro q hq;simp only [Cw,He] at hq;subst hq;simp only;exact ⟨aA,aA,aA,aA,aA⟩
    ·intro a b x y hx hy hab;have h1:=Bh hx;have h2:=Bh hy;simp only [Cw,Ck,Cu] at h1 h2;omega
   have hRA:A1 SF iq eq ⟨I.it,I.et,(L+3),m7,I.ic,I.ec,(L+4),(m7+1),I.ids++[(L+1,m0+1)]⟩ { t1 with rows:=t1.rows++[rowZ],cost:=p,basis:=t1.basis++[c+i],flip:=t1.flip++[fb],fl:=Cl (Cl t1.fl fr) fq } (Bg tk' cp 1):=by
    exact Yab
   refine Qf rfl (back _ ⟨sl2,_,_,Bg tk' cp 1,aA,hR,hRA,by simp [ez],gh,hre,gz,i9,dh,?_,?_,fun j h1 h2=>?_,⟨ba.1,ba.2.1,ba.2.2⟩,⟨hIR,hIB,fun q hq=>?_⟩,rfl,rfl,rfl,rfl,rfl,rfl,rfl,rfl,rfl,rfl,rfl⟩)
   ·exact Ya32
   ·show _<=SF.length;omega
   ·exact Ya33
   ·rcases C4.1 hq with hq|hq
    ·exact g8.2.2 q hq
    ·simp only [He] at hq; subst hq; simp only; omega
  ·rw [Bl ju,Bl ju] at jt;have hne:0<i->t1.rows≠[]:=fun h h0=>by rw [h0] at ez; simp only [Cu] at ez; omega
   have yq:S.length<SW.length:=aA
   have hap:=ae.T.ap;have a2i:I.ir<L:=ae.low.ir (hne ju);have a2j:I.ib<L:=ae.low.ib (hne ju);have hrb:=hap.rb;have l6:entAt SW I.ir I.er=some (I.ids.map (fo W ua2)):=by have h:=ae.T.rowsE (hne ju); simp only [gh] at h; exact h
   have td:entAt SW I.ib I.eb=some (t1.basis.map intA):=ae.T.basisE (hne ju);have jp:(I.ids.map (fo W ua2)).length=i:=by rw [Fq,ae.T.nids]; exact ez
   have hbl:(t1.basis.map intA).length=i:=by rw [Fq]; have:=ae.T.nb; simp only at this; omega
   obtain ⟨U1,th⟩:∃ U1,U1=put SW I.ir ⟨m7,I.ids.map (fo W ua2)++[.sref (L+1) (m0+1) 0 W ua2]⟩:=⟨_,rfl⟩;have hl1:U1.length=L+3:=by rw [th,Ao]; exact yp
   have cl:entAt U1 S.length k=some [.ifc ua0 (rcvQ iq eq),.int (vars.length:Nat),.int (c:Nat),.sref I.ir I.er 0 i 1,.sref (S.length+2) I.ec 0 W ua2,.sref I.ib I.eb 0 i 1,.frz (t1.flip.map Dw) cp]:=by rw [th,Ah aA]; exact jt
   obtain ⟨U2,tj⟩:∃ U2,U2=put U1 S.length ⟨k,[.ifc ua0 (rcvQ iq eq),.int (vars.length:Nat),.int (c:Nat),.sref I.ir m7 0 (i+1) 1,.sref (S.length+2) I.ec 0 W ua2,.sref I.ib I.eb 0 i 1,.frz (t1.flip.map Dw) cp]⟩:=⟨_,rfl⟩;have hl2:U2.length=L+3:=by rw [tj,Ao]; exact hl1
   have ke:entAt U2 S.length k=some [.ifc ua0 (rcvQ iq eq),.int (vars.length:Nat),.int (c:Nat),.sref I.ir m7 0 (i+1) 1,.sref (S.length+2) I.ec 0 W ua2,.sref I.ib I.eb 0 i 1,.frz (t1.flip.map Dw) cp]:=by rw [tj]; exact Ai aA
   have hb2:entAt U2 I.ib I.eb=some (t1.basis.map intA):=by rw [tj,Ah aA,th,Ah hrb]; exact td
   obtain ⟨U3,tl⟩:∃ U3,U3=put U2 I.ib ⟨m7+1,t1.basis.map intA++[.prim (.int .i64 ((c+i:Nat):Int))]⟩:=⟨_,rfl⟩;have d7:U3.length=L+3:=by rw [tl,Ao]; exact hl2
   have np:entAt U3 S.length k=some [.ifc ua0 (rcvQ iq eq),.int (vars.length:Nat),.int (c:Nat),.sref I.ir m7 0 (i+1) 1,.sref (S.length+2) I.ec 0 W ua2,.sref I.ib I.eb 0 i 1,.frz (t1.flip.map Dw) cp]:=by rw [tl,Ah aA]; exact ke
   obtain ⟨U4,tn⟩:∃ U4,U4=put U3 S.length ⟨k,[.ifc ua0 (rcvQ iq eq),.int (vars.length:Nat),.int (c:Nat),.sref I.ir m7 0 (i+1) 1,.sref (S.length+2) I.ec 0 W ua2,.sref I.ib (m7+1) 0 (i+1) 1,.frz (t1.flip.map Dw) cp]⟩:=⟨_,rfl⟩;have pu:U4.length=L+3:=by rw [tn,Ao]; exact d7
   have yn:entAt U4 S.length k=some [.ifc ua0 (rcvQ iq eq),.int (vars.length:Nat),.int (c:Nat),.sref I.ir m7 0 (i+1) 1,.sref (S.length+2) I.ec 0 W ua2,.sref I.ib (m7+1) 0 (i+1) 1,.frz (t1.flip.map Dw) cp]:=by rw [tn]; exact Ai aA
   obtain ⟨SF,jc⟩:∃ SF,SF=put U4 S.length ⟨k,[.ifc ua0 (rcvQ iq eq),.int (vars.length:Nat),.int (c:Nat),.sref I.ir m7 0 (i+1) 1,.sref (S.length+2) I.ec 0 W ua2,.sref I.ib (m7+1) 0 (i+1) 1,.frz (t1.flip.map Dw++[[.prim (.bool fb)]]) (Bg tk' cp 1)]⟩:=⟨_,rfl⟩;have hlF:SF.length=L+3:=by rw [jc,Ao]; exact pu
   have a0t:=apB_one (y:=[.prim (.bool fb)]) hok hfo rfl pn;have q8:apO prog ua13 (.sref I.ir I.er 0 i 1) (.lit 1 [.sref (L+1) (m0+1) 0 W ua2]) SW m7=some (.sref I.ir m7 0 (i+1) 1,U1,m7+1):=by rw [th]; exact Adb aL rfl l6 jp ju aA
   have q9:∀ cc:Cap,apO prog 45 (.sref I.ib I.eb 0 i 1) (.frz [[.prim (.int .i64 ((c+i:Nat):Int))]] cc) U2 (m7+1)=some (.sref I.ib (m7+1) 0 (i+1) 1,U3,m7+1+1):=fun cc=>by rw [tl]; exact Ada aL rfl hb2 hbl ju aA
   have hs2:=tj.symm;have tp:=tn.symm;have hs5:=jc.symm;simp (maxSteps:=10^6)+contextual(disch:=try exact dqd)only[evg1,simprocAttr,Cd,Cb,Ce,ga29,e0,e1,e2,e7,e10,e11,e12,e14,e15,e16,e18,e19,e83,e84,e85,e194,e195,c2,jt,jb,hwi,a0t,q8,q9,Qp,cl,ke,np,yn,hs2,tp,hs5];have htF:entAt SF S.length k=some [.ifc ua0 (rcvQ iq eq),.int (vars.length:Nat),.int (c:Nat),.sref I.ir m7 0 (i+1) 1,.sref (S.length+2) I.ec 0 W ua2,.sref I.ib (m7+1) 0 (i+1) 1,.frz (t1.flip.map Dw++[[.prim (.bool fb)]]) (Bg tk' cp 1)]:=by rw [jc]; exact Ai aA
   have hrF:entAt SF I.ir m7=some ((I.ids++[(L+1,m0+1)]).map (fo W ua2)):=by
    rw [jc,Ah aA,tn,Ah aA,tl,Ah (Oo hrb),tj,Ah aA,th,Ai aA];simp [fo]
   have hbF:entAt SF I.ib (m7+1)=some ((t1.basis++[c+i]).map intA):=by
    rw [jc,Ah aA,tn,Ah aA,tl,Ai aA];simp [intA]
   have jd:∀ j,j<L+3->j≠S.length->(0<i->j≠I.ir/\j≠I.ib)->nth SF j=nth SW j:=fun j h1 h2 h3=>by
    have h4:=h3 ju;rw [jc,Ad (Oo h2),tn,Ad (Oo h2),tl,Ad (Oo h4.2),tj,Ad (Oo h2),th,Ad (Oo h4.1)]
   have hIR:S.length+2<I.ir:=g8.1;have hIB:S.length+2<I.ib:=g8.2.1;have hAp:Apart ⟨I.it,I.et,I.ir,m7,I.ic,I.ec,I.ib,m7+1,I.ids++[(L+1,m0+1)]⟩ iq:=by
    refine ⟨hap.tr,hap.tc,hap.tb,hap.rc,hap.rb,hap.cb,hap.qt,hap.qr,hap.qc,hap.qb,fun q hq=>?_,fun a b x y hx hy hab=>?_⟩
    ·rcases C4.1 hq with hq|hq
     ·exact hap.row q hq
     ·simp only [He] at hq;subst hq;simp only;exact ⟨aA,aA,aA,aA,aA⟩
    ·have h1:=Bh hx;have h2:=Bh hy;rw [Cs] at h1 h2;simp only [Ck,Cu] at h1 h2;rw [Ae] at hx hy;by_cases ha:a<I.ids.length
     ·rw [Ct ha,<- Ae] at hx;by_cases hb:b<I.ids.length
      ·rw [Ct hb,<- Ae] at hy;exact hap.rows a b x y hx hy hab
      ·have hb2:b=I.ids.length:=aA
       rw [hb2,C6 (Cc _),I4] at hy;simp only [F2,A2] at hy;subst hy;have:=ae.low.row x (Am hx);simp only; omega
     ·have iv:a=I.ids.length:=aA
      have hb:b<I.ids.length:=aA
      rw [iv,C6 (Cc _),I4] at hx;simp only [F2,A2] at hx;subst hx;rw [Ct hb,<- Ae] at hy;have:=ae.low.row y (Am hy);simp only; omega
   have hRA:A1 SF iq eq ⟨I.it,I.et,I.ir,m7,I.ic,I.ec,I.ib,(m7+1),I.ids++[(L+1,m0+1)]⟩ { t1 with rows:=t1.rows++[rowZ],cost:=p,basis:=t1.basis++[c+i],flip:=t1.flip++[fb],fl:=Cl (Cl t1.fl fr) fq } (Bg tk' cp 1):=by
    exact Yab
   refine Qf rfl (back _ ⟨sl2,_,_,Bg tk' cp 1,aA,hR,hRA,by simp [ez],gh,hre,gz,i9,dh,?_,?_,fun j h1 h2=>?_,⟨ba.1,ba.2.1,ba.2.2⟩,⟨hIR,hIB,fun q hq=>?_⟩,rfl,rfl,rfl,rfl,rfl,rfl,rfl,rfl,rfl,rfl,rfl⟩)
   ·exact Ya32
   ·show _<=SF.length;omega
   ·exact Ya33
   ·rcases C4.1 hq with hq|hq
    ·exact g8.2.2 q hq
    ·simp only [He] at hq; subst hq; simp only; omega):p:=h
namespace QQ
theorem Ar2:At21:=Ma21
end QQ
end
end
section
open Go Tryz
open Go.Proofs.Tryz renaming f61->ga28,results61->ga29
open Go.Proofs.YtcandeobhlfkbaaGreat renaming ceQ->ga0,Av->ga1,Bs->ga5,A0->ga6
set_option maxRecDepth 100000
set_option maxHeartbeats 20000000
set_option maxRecDepth 100000
section
variable (S:List Ent) (l:List RowT) (vars:List ByteArray) (fl:Bool) (k iq eq c W nz:Nat) (z:Q)
abbrev At22 (p:Prop:=by exact ∀ (S:List Ent)(l:List RowT)(vars:List ByteArray)(fl:Bool)(k iq eq c W nz:Nat)(z:Q)(hB:BegC S l vars iq c W)(oz:qF.ok z)(Φ:Rs->Prop)(i:Nat)(a8:i<l.length)(r:RowT)(hr:nth l i=some r)(sl:Nat)(sf:sl+neqs (l.drop i)=c)(t1:Tb)(I:TI)(cp:Cap)(tk:List Nat)(ez:t1.rows.length=i)(hcl:t1.cost.length=W)(hre:t1.real=c)(gz:t1.vars=vars.length)(hok:Bd tk cp 1=true)(ba:I.it=S.length/\I.et=k/\I.ic=S.length+2)(g8:S.length+2<I.ir/\S.length+2<I.ib/\∀ p ∈ I.ids,S.length+2<p.1)(L m0 nu:Nat)(u:Q × Bool)(hU:Jv qF (D2 r)=u)(ou:qF.ok u.1)(SX:List Ent)(nx lv:Nat)(fc:Gk S SX iq eq I { t1 with fl:=Cl t1.fl u.2 } cp L nz m0 (m0+1) nu z r (Ci W z) u.1)(hR:Bq qF l vars fl=begS qF z vars c W (l.drop i) i sl t1)(back:∀ st,Ahc S l vars fl k iq eq c W nz z (i+1) st->Gd finM Φ (KA prog ga28 18 [] st))(T:List AV)(hT:T.length=270)(e0:getT T 0=.ifc ua0 (rcvQ iq eq))(e1:getT T 1=.frz (l.map rowC) .unk)(e2:getT T 2=.frz (vars.map strC) .unk)(e7:getT T 7=.ref S.length k 0)(e10:getT T 10=.int (sl:Nat))(e11:getT T 11=.int (W:Nat))(e12:getT T 12=.ref (S.length+1) nz 0)(e14:getT T 14=.int (i:Nat))(e15:getT T 15=.ref L m0 0)(e16:getT T 16=.sref (L+1) (m0+1) 0 W ua2)(e18:getT T 18=.prim (.bool (D2 r)))(e19:getT T 19=.ref (L+2) nu 0)(e83:getT T 83=.frz (l.map rowC) .unk)(e84:getT T 84=.int (l.length:Nat))(e85:getT T 85=.int (i:Nat))(e113:getT T 113=.frz (r.1.map Bi) .unk)(e114:getT T 114=.int (r.1.length:Nat))(e115:getT T 115=.int ((0:Nat):Int)),Gd finM Φ (KA prog ga28 31 [lv] ⟨T,SX,tk,nx⟩)):=p
theorem Ma22 {p:Prop} (h:p:=by
 intro S l vars fl k iq eq c W nz z hB oz Φ i a8 r hr sl sf t1 I cp tk ez hcl hre gz hok ba g8 L m0 nu u hU ou SX nx lv fc hR back T hT e0 e1 e2 e7 e10 e11 e12 e14 e15 e16 e18 e19 e83 e84 e85 e113 e114 e115;have hB2:=hB;obtain ⟨hl,lq,hv,hc,d6,mc,sn,t8⟩:=hB2;have hnl:=Mr l;have pq:r ∈ l:=Am hr;have kq:i64 r.2.1:=(hc r pq).1;refine Afe rfl (t:=.mk) ?_;refine Ga (P:=prog) (fun x st=>st.T.length=270/\(x.2.2.1<=r.1.length)/\(coefsC qF u.1 z vars r.1 (Ci W z)=((coefsC qF u.1 z vars (r.1.drop x.2.2.1) x.2.2.2.1).1,Cl x.2.2.2.2 (coefsC qF u.1 z vars (r.1.drop x.2.2.1) x.2.2.2.1).2))/\(x.2.2.2.1.length=W)/\(okL qF x.2.2.2.1)/\(Gk S x.1 iq eq I { t1 with fl:=Cl (Cl t1.fl u.2) x.2.2.2.2 } cp L nz m0 (m0+1) nu z r x.2.2.2.1 u.1)/\getT st.T 0=.ifc ua0 (rcvQ iq eq)/\getT st.T 1=.frz (l.map rowC) .unk/\getT st.T 2=.frz (vars.map strC) .unk/\getT st.T 7=.ref S.length k 0/\getT st.T 10=.int (sl:Nat)/\getT st.T 11=.int (W:Nat)/\getT st.T 12=.ref (S.length+1) nz 0/\getT st.T 14=.int (i:Nat)/\getT st.T 15=.ref L m0 0/\getT st.T 16=.sref (L+1) (m0+1) 0 W ua2/\getT st.T 18=.prim (.bool (D2 r))/\getT st.T 19=.ref (L+2) nu 0/\getT st.T 83=.frz (l.map rowC) .unk/\getT st.T 84=.int (l.length:Nat)/\getT st.T 85=.int (i:Nat)/\getT st.T 113=.frz (r.1.map Bi) .unk/\getT st.T 114=.int (r.1.length:Nat)/\getT st.T 115=.int (x.2.2.1:Nat)/\st.S=x.1/\st.tk=tk/\st.n=x.2.1) (fun x=>r.1.length - x.2.2.1) (SX,nx,0,(Ci W z),false) ?_ ?_;case refine_2=>exact ⟨aK,Co _,rfl,by simp,fun q hq=>by rw [Im] at hq; rw [hq.2]; exact oz,by simp only [Fv]; exact fc,aK,aK,aK,aK,aK,aK,aK,aK,aK,aK,aK,aK,aK,aK,aK,aK,aK,aK,aK,aK,aK⟩
 rintro ⟨SS,n1,j,row,f1⟩ ⟨T,S',tk',n'⟩ ⟨hl,mq,og,di,orow,fc,e0,e1,e2,e7,e10,e11,e12,e14,e15,e16,e18,e19,e83,e84,e85,e113,e114,e115,eS,eT,eN⟩ IH;simp only at mq og di orow fc e0 e1 e2 e7 e10 e11 e12 e14 e15 e16 e18 e19 e83 e84 e85 e113 e114 e115 eS eT eN;subst eS eT eN;obtain ⟨g,hg,hT⟩:=Au hl;rw [hg] at e0 e1 e2 e7 e10 e11 e12 e14 e15 e16 e18 e19 e83 e84 e85 e113 e114 e115;subst hT;clear hg hl;have j5:=d6 r pq;by_cases qp:j<r.1.length
 ·have c2:decide ((j:Int)<(r.1.length:Int))=true:=fJ
  have hw:Cf.wrap ((j:Int)+1)=((j+1:Nat):Int):=aU
  obtain ⟨ct,hct⟩:=Af qp;have a0u:nth (r.1.map Bi) j=some [.prim (.string ct.1),.prim (.int .i64 ct.2)]:=by rw [D3,hct]; rfl
  have wo:ct ∈ r.1:=Am hct;have nh:=Nk (hv r pq ct wo);obtain ⟨x,hx⟩:∃ x,x=idxV vars ct.1:=⟨_,rfl⟩;rw [<- hx] at nh;have hfind:=fun S tk k=>Vp S tk k vars ct.1 aA;simp only [nh.1] at hfind;have hb1:2*x<W:=aA
  have hb2:2*x+1<W:=aA
  have a0v:Cf.wrap (2*(x:Int))=((2*x:Nat):Int):=aU
  have a0w:Cf.wrap (((2*x:Nat):Int)+1)=((2*x+1:Nat):Int):=aU
  have nw:=Ay hct;have hlX:=fc.len;have hfa:=fc.T.fa;have ws:i64 ct.2:=(hc r pq).2 ct wo;obtain ⟨w,jo⟩:∃ w,w=qF.whole ct.2:=⟨_,rfl⟩;have ow:qF.ok w.1:=by rw [jo]; exact Es _ ws
  have ip:=Ln (S'++[(⟨n',[.prim (.string ct.1),.prim (.int .i64 ct.2)]⟩:Ent)]) tk' (n'+1) iq eq _ ct.2 ws hfa.app;have hg1:=El (c:=w.2) (hfa.app (L:=[(⟨n',[.prim (.string ct.1),.prim (.int .i64 ct.2)]⟩:Ent)]));rw [<- jo] at ip;rw [Hd hfa] at ip hg1;obtain ⟨S1a,ko⟩:∃ S1a,S1a=flS S' iq eq w.2:=⟨_,rfl⟩;have g9:=fc.flag (S':=flS S' iq eq w.2) (fun j hj=>ga6 hj) Bj hfa.fS;rw [<- ko] at ip hg1 g9;have ja:=g9.T.fa;obtain ⟨y,kr⟩:∃ y,y=qF.times u.1 w.1:=⟨_,rfl⟩;have oy:qF.ok y.1:=Za2c
  have jv:=Ae4 (S1a++[(⟨n',[.prim (.string ct.1),.prim (.int .i64 ct.2)]⟩:Ent)]) tk' (n'+1+ua3) iq eq _ u.1 w.1 ou ow ja.app;have hg2:=El (c:=y.2) (ja.app (L:=[(⟨n',[.prim (.string ct.1),.prim (.int .i64 ct.2)]⟩:Ent)]));rw [<- kr] at jv;rw [Hd ja] at jv hg2;obtain ⟨S2a,a0x⟩:∃ S2a,S2a=flS S1a iq eq y.2:=⟨_,rfl⟩;have eh:=g9.flag (S':=flS S1a iq eq y.2) (fun j hj=>ga6 hj) Bj ja.fS;rw [<- a0x] at jv hg2 eh;have gd:=eh.put (put row (2*x) y.1);obtain ⟨S3a,wt⟩:∃ S3a,S3a=put S2a (L+1) ⟨m0+1,flat ga0 (put row (2*x) y.1)⟩:=⟨_,rfl⟩;rw [<- wt] at gd;have a2k:=eh.len;have hP3:∀ e:Ent,put (S2a++[e]) (L+1) ⟨m0+1,flat ga0 (put row (2*x) y.1)⟩=S3a++[e]:=fun e=>by rw [Dt aA,wt]
  have fd:=gd.T.fa;obtain ⟨d,fi⟩:∃ d,d=qF.minus z y.1:=⟨_,rfl⟩;have od:qF.ok d.1:=Za2d
  have dc:=Mg (S3a++[(⟨n',[.prim (.string ct.1),.prim (.int .i64 ct.2)]⟩:Ent)]) tk' (n'+1+ua3+ua4) iq eq _ z y.1 oz oy fd.app;have hg3:=El (c:=d.2) (fd.app (L:=[(⟨n',[.prim (.string ct.1),.prim (.int .i64 ct.2)]⟩:Ent)]));rw [<- fi] at dc;rw [Hd fd] at dc hg3;obtain ⟨S4a,a0y⟩:∃ S4a,S4a=flS S3a iq eq d.2:=⟨_,rfl⟩;have wu:=gd.flag (S':=flS S3a iq eq d.2) (fun j hj=>ga6 hj) Bj fd.fS;rw [<- a0y] at dc hg3 wu;have a2l:=wu.len;have jw:=wu.put (put (put row (2*x) y.1) (2*x+1) d.1);obtain ⟨S5a,je⟩:∃ S5a,S5a=put S4a (L+1) ⟨m0+1,flat ga0 (put (put row (2*x) y.1) (2*x+1) d.1)⟩:=⟨_,rfl⟩;rw [<- je] at jw;have hP5:∀ e:Ent,put (S4a++[e]) (L+1) ⟨m0+1,flat ga0 (put (put row (2*x) y.1) (2*x+1) d.1)⟩=S5a++[e]:=fun e=>by rw [Dt aA,je]
  have hl5:=jw.len;have kh:∀ e:Ent,Oc S'.length (S5a++[e])=S5a:=fun e=>by rw [hlX,<- hl5]; simp
  have wg:∀ e:Ent,entAt (S'++[e]) (L+2) nu=some (ga0 u.1):=fun e=>Ac fc.E19;have mi:∀ e:Ent,entAt (S2a++[e]) (L+1) (m0+1)=some (flat ga0 row):=fun e=>Ac eh.E16;have hE3:∀ e:Ent,entAt (S3a++[e]) (S.length+1) nz=some (ga0 z):=fun e=>Ac gd.Z;have qq:∀ e:Ent,entAt (S3a++[e]) (L+1) (m0+1)=some (flat ga0 (put row (2*x) y.1)):=fun e=>Ac gd.E16;have qu:∀ e:Ent,entAt (S4a++[e]) (L+1) (m0+1)=some (flat ga0 (put row (2*x) y.1)):=fun e=>Ac wu.E16;have fj:=Bc (ce:=ga0) ga1 (l:=row) (k:=2*x) (q':=y.1) aA;have il:=Bc (ce:=ga0) ga1 (l:=put row (2*x) y.1) (k:=2*x+1) (q':=d.1) (by rw [Aj]; omega);have htx:=Aw (ce:=ga0) ga1 (l:=put row (2*x) y.1) (k:=2*x) (q:=y.1) (Dq aA);simp (maxSteps:=10^6)+contextual(disch:=try exact dqd)only[evg1,simprocAttr,Cd,Cb,Ce,ga29,e0,e1,e2,e7,e10,e11,e12,e14,e15,e16,e18,e19,e83,e84,e85,e113,e114,e115,c2,hw,a0u,hfind,a0v,a0w,hb1,hb2,ip,hg1,jv,hg2,hP3,dc,hg3,hP5,kh,wg,mi,hE3,qq,qu,fj,il,htx,Eu,xfs,puQ,tkQ,ga1,ga5];have hsc:setC qF u.1 z (idxV vars ct.1) row ct.2=(put (put row (2*x) y.1) (2*x+1) d.1,Cl (Cl w.2 y.2) d.2):=by unfold setC; rw [<- hx,<- jo,<- kr,<- fi]
  rw [nw] at og;simp only [coefsC,hsc] at og;have orow2:okL qF (put (put row (2*x) y.1) (2*x+1) d.1):=by
   intro q hq;rcases Bp hq with rfl|hq
   ·exact od
   ·rcases Bp hq with rfl|hq
    ·exact oy
    ·exact orow q hq
  exact IH (S5a,n'+1+ua3+ua4+ua4,j+1,put (put row (2*x) y.1) (2*x+1) d.1,Cl f1 (Cl (Cl w.2 y.2) d.2)) _ aF ⟨rfl,aE,by rw [og]; simp only [Fy],by rw [Aj,Aj]; exact di,orow2,by simpa only [Fy] using jw,bW⟩
 ·have c2:decide ((j:Int)<(r.1.length:Int))=false:=fJ
  have hj0:r.1.drop j=[]:=Ft aA;rw [hj0] at og;simp only [coefsC,Fv] at og;clear IH hj0 qp mq;obtain ⟨n6,hn6⟩:∃ n6,n6=n':=⟨_,rfl⟩;subst hn6;obtain ⟨SU,hSU⟩:∃ SU,SU=S':=⟨_,rfl⟩;subst hSU;have wv:=Nw hr;have kt:=fc.E15;have oh:=fc.E19;have du:=fc.E16;simp only [rowC,Ag] at kt;have hlU:=fc.len;cases heq:r.2.2
  ·rw [heq,if_neg Ob] at wv;have hs1:sl<W:=aA
   have hs2:=Bc (ce:=ga0) ga1 (l:=row) (k:=sl) (q':=u.1) aA;have hs3:Cf.wrap ((sl:Int)+1)=((sl+1:Nat):Int):=aU
   have ae:=fc.put (put row sl u.1);obtain ⟨rowY,bp⟩:∃ rowY,rowY=put row sl u.1:=⟨_,rfl⟩;have hsF:N9 r.2.2 row sl u.1=rowY:=by rw [bp,heq]; rfl
   have ra:rowY.length=W:=by rw [bp,Aj]; exact di
   have orowY:okL qF rowY:=by
    rw [bp];intro q hq;rcases Bp hq with rfl|hq
    ·exact ou
    ·exact orow q hq
   rw [<- bp] at hs2 ae;obtain ⟨SY,ww⟩:∃ SY,SY=put SU (L+1) ⟨m0+1,flat ga0 rowY⟩:=⟨_,rfl⟩;rw [<- ww] at ae;have tp:=ww.symm;obtain ⟨sl2,wx⟩:∃ sl2,sl2=sl+1:=⟨_,rfl⟩;have rg:(if r.2.2=true then sl else sl+1)=sl2:=by rw [heq,wx]; rfl
   have i9:sl2+neqs (l.drop (i+1))=c:=aA
   rw [<- wx] at hs3;clear ww;have wy:=ae.T.top;simp only [ba.1,ba.2.1,ba.2.2,hcl,hre,gz,ez,intA] at wy;have sy:c+i<W:=aA
   have jb:Cf.wrap ((c:Int)+(i:Int))=((c+i:Nat):Int):=aU
   have qx:Cf.wrap ((W:Int) - 1)=((W - 1:Nat):Int):=aS
   have hW1:W - 1<W:=aA
   have hfa:=ae.T.fa;obtain ⟨o,l8⟩:∃ o,o=qF.whole 1:=⟨_,rfl⟩;have oo:qF.ok o.1:=by rw [l8]; exact Es 1 aC
   have rh:=Ln SY tk' n6 iq eq _ 1 aC hfa;have lz:=El (c:=o.2) hfa;rw [<- l8] at rh;obtain ⟨S5a,je⟩:∃ S5a,S5a=flS SY iq eq o.2:=⟨_,rfl⟩;have jw:=ae.flag (S':=flS SY iq eq o.2) (fun j hj=>ga6 hj) Bj hfa.fS;rw [<- je] at rh lz jw;have wz:=Bc (ce:=ga0) ga1 (l:=rowY) (k:=c+i) (q':=o.1) aA;have gi:=jw.put (put rowY (c+i) o.1);obtain ⟨row6,bu⟩:∃ row6,row6=put rowY (c+i) o.1:=⟨_,rfl⟩;have ri:row6.length=W:=by rw [bu,Aj]; exact ra
   obtain ⟨S6a,ku⟩:∃ S6a,S6a=put S5a (L+1) ⟨m0+1,flat ga0 row6⟩:=⟨_,rfl⟩;rw [<- bu] at wz gi;rw [<- ku] at gi;have kv:=jw.E16;have ja:=gi.T.fa;have hZ6:=gi.Z;have fe:=gi.E15;have kw:=gi.E19;simp only [rowC,Ag] at fe;obtain ⟨w,jo⟩:∃ w,w=qF.whole r.2.1:=⟨_,rfl⟩;have ow:qF.ok w.1:=by rw [jo]; exact Es _ kq
   have ip:=Ln S6a tk' (n6+ua3) iq eq _ r.2.1 kq ja;have hg1:=El (c:=w.2) ja;rw [<- jo] at ip;obtain ⟨S7a,rj⟩:∃ S7a,S7a=flS S6a iq eq w.2:=⟨_,rfl⟩;have rk:=gi.flag (S':=flS S6a iq eq w.2) (fun j hj=>ga6 hj) Bj ja.fS;rw [<- rj] at ip hg1 rk;have fd:=rk.T.fa;obtain ⟨y,kr⟩:∃ y,y=qF.times u.1 w.1:=⟨_,rfl⟩;have oy:qF.ok y.1:=Za2c
   have jv:=Ae4 S7a tk' (n6+ua3+ua3) iq eq _ u.1 w.1 ou ow fd;have hg2:=El (c:=y.2) fd;rw [<- kr] at jv;obtain ⟨S8a,rn⟩:∃ S8a,S8a=flS S7a iq eq y.2:=⟨_,rfl⟩;have ro:=rk.flag (S':=flS S7a iq eq y.2) (fun j hj=>ga6 hj) Bj fd.fS;rw [<- rn] at jv hg2 ro;have rp:=ro.T.fa;obtain ⟨d,fi⟩:∃ d,d=qF.minus z y.1:=⟨_,rfl⟩;have od:qF.ok d.1:=Za2d
   have dc:=Mg S8a tk' (n6+ua3+ua3+ua4) iq eq _ z y.1 oz oy rp;have hg3:=El (c:=d.2) rp;rw [<- fi] at dc;obtain ⟨S9a,rq⟩:∃ S9a,S9a=flS S8a iq eq d.2:=⟨_,rfl⟩;have rr:=ro.flag (S':=flS S8a iq eq d.2) (fun j hj=>ga6 hj) Bj rp.fS;rw [<- rq] at dc hg3 rr;have w7:=Bc (ce:=ga0) ga1 (l:=row6) (k:=W - 1) (q':=d.1) aA;have kx:=rr.E16;have rt:=rr.put (put row6 (W - 1) d.1);obtain ⟨rowZ,bv⟩:∃ rowZ,rowZ=put row6 (W - 1) d.1:=⟨_,rfl⟩;have mw:rowZ.length=W:=by rw [bv,Aj]; exact ri
   have orowZ:okL qF rowZ:=by
    exact Ya17
   obtain ⟨SZ,xa⟩:∃ SZ,SZ=put S9a (L+1) ⟨m0+1,flat ga0 rowZ⟩:=⟨_,rfl⟩;rw [<- bv] at w7 rt;rw [<- xa] at rt;have dq:Td qF u.1 z r.2.1=(d.1,Cl (Cl w.2 y.2) d.2):=by unfold Td; rw [<- jo,<- kr,<- fi]
   have ff:rowF qF z vars c W i sl r=(rowZ,Cl (Cl (Cl u.2 f1) o.2) (Cl (Cl w.2 y.2) d.2)):=by
    unfold rowF;simp only [hU,og,dq,hsF,<- l8,<- bu,<- bv]
   obtain ⟨fr,ky⟩:∃ fr,fr=Cl (Cl (Cl u.2 f1) o.2) (Cl (Cl w.2 y.2) d.2):=⟨_,rfl⟩;rw [<- ky] at ff;have kk:Gk S SZ iq eq I { t1 with fl:=Cl t1.fl fr } cp L nz m0 (m0+1) nu z r rowZ u.1:=by
    rw [ky];simpa only [Fy] using rt
   have ru:=ku.symm;have ry:=xa.symm;simp (maxSteps:=10^6)+contextual(disch:=try exact dqd)only[evg1,simprocAttr,Cd,Cb,Ce,ga29,e0,e1,e2,e7,e10,e11,e12,e14,e15,e16,e18,e19,e83,e84,e85,e113,e114,e115,c2,kt,oh,du,heq,hs1,hs2,hs3,tp,wy,sy,jb,qx,hW1,rh,lz,wz,kv,ru,hZ6,fe,kw,ip,hg1,jv,hg2,dc,hg3,w7,kx,ry,Eu,xfs,puQ,tkQ,ga1,ga5];have kg:begS qF z vars c W (l.drop i) i sl t1=begS qF z vars c W (l.drop (i+1)) (i+1) sl2 { t1 with rows:=t1.rows++[rowZ],cost:=(costL qF c W 0 t1.cost rowZ).1,basis:=t1.basis++[c+i],flip:=t1.flip++[D2 r],fl:=Cl (Cl t1.fl fr) (costL qF c W 0 t1.cost rowZ).2 }:=by
    rw [Ay hr];simp only [begS,hre];rw [ff,rg]
   rw [kg] at hR;exact Qf rfl (Ar2 S l vars fl k iq eq c W nz z hB Φ i a8 r hr sl2 i9 t1 I cp tk' ez hcl hre gz hok ba g8 rowZ fr mw orowZ L m0 nu u (D2 r) rfl SZ _ _ kk hR back _ rfl rfl rfl rfl rfl rfl rfl rfl rfl rfl rfl rfl rfl rfl rfl rfl rfl rfl)
  ·rw [heq,if_pos rfl] at wv;have hs1:0<W:=aA
   have hs2:=hs1;have hs3:=hs1;have tp:=hs1;have ae:=fc;obtain ⟨rowY,bp⟩:∃ rowY,rowY=row:=⟨_,rfl⟩;have hsF:N9 r.2.2 row sl u.1=rowY:=by rw [bp,heq]; rfl
   have ra:rowY.length=W:=by rw [bp]; exact di
   have orowY:okL qF rowY:=by rw [bp]; exact orow
   rw [<- bp] at ae;obtain ⟨SY,ww⟩:∃ SY,SY=SU:=⟨_,rfl⟩;subst ww;have rg:(if r.2.2=true then sl else sl+1)=sl:=by rw [heq]; rfl
   have i9:sl+neqs (l.drop (i+1))=c:=aA
   have wy:=ae.T.top;simp only [ba.1,ba.2.1,ba.2.2,hcl,hre,gz,ez,intA] at wy;have sy:c+i<W:=aA
   have jb:Cf.wrap ((c:Int)+(i:Int))=((c+i:Nat):Int):=aU
   have qx:Cf.wrap ((W:Int) - 1)=((W - 1:Nat):Int):=aS
   have hW1:W - 1<W:=aA
   have hfa:=ae.T.fa;obtain ⟨o,l8⟩:∃ o,o=qF.whole 1:=⟨_,rfl⟩;have oo:qF.ok o.1:=by rw [l8]; exact Es 1 aC
   have rh:=Ln SY tk' n6 iq eq _ 1 aC hfa;have lz:=El (c:=o.2) hfa;rw [<- l8] at rh;obtain ⟨S5a,je⟩:∃ S5a,S5a=flS SY iq eq o.2:=⟨_,rfl⟩;have jw:=ae.flag (S':=flS SY iq eq o.2) (fun j hj=>ga6 hj) Bj hfa.fS;rw [<- je] at rh lz jw;have wz:=Bc (ce:=ga0) ga1 (l:=rowY) (k:=c+i) (q':=o.1) aA;have gi:=jw.put (put rowY (c+i) o.1);obtain ⟨row6,bu⟩:∃ row6,row6=put rowY (c+i) o.1:=⟨_,rfl⟩;have ri:row6.length=W:=by rw [bu,Aj]; exact ra
   obtain ⟨S6a,ku⟩:∃ S6a,S6a=put S5a (L+1) ⟨m0+1,flat ga0 row6⟩:=⟨_,rfl⟩;rw [<- bu] at wz gi;rw [<- ku] at gi;have kv:=jw.E16;have ja:=gi.T.fa;have hZ6:=gi.Z;have fe:=gi.E15;have kw:=gi.E19;simp only [rowC,Ag] at fe;obtain ⟨w,jo⟩:∃ w,w=qF.whole r.2.1:=⟨_,rfl⟩;have ow:qF.ok w.1:=by rw [jo]; exact Es _ kq
   have ip:=Ln S6a tk' (n6+ua3) iq eq _ r.2.1 kq ja;have hg1:=El (c:=w.2) ja;rw [<- jo] at ip;obtain ⟨S7a,rj⟩:∃ S7a,S7a=flS S6a iq eq w.2:=⟨_,rfl⟩;have rk:=gi.flag (S':=flS S6a iq eq w.2) (fun j hj=>ga6 hj) Bj ja.fS;rw [<- rj] at ip hg1 rk;have fd:=rk.T.fa;obtain ⟨y,kr⟩:∃ y,y=qF.times u.1 w.1:=⟨_,rfl⟩;have oy:qF.ok y.1:=Za2c
   have jv:=Ae4 S7a tk' (n6+ua3+ua3) iq eq _ u.1 w.1 ou ow fd;have hg2:=El (c:=y.2) fd;rw [<- kr] at jv;obtain ⟨S8a,rn⟩:∃ S8a,S8a=flS S7a iq eq y.2:=⟨_,rfl⟩;have ro:=rk.flag (S':=flS S7a iq eq y.2) (fun j hj=>ga6 hj) Bj fd.fS;rw [<- rn] at jv hg2 ro;have rp:=ro.T.fa;obtain ⟨d,fi⟩:∃ d,d=qF.minus z y.1:=⟨_,rfl⟩;have od:qF.ok d.1:=Za2d
   have dc:=Mg S8a tk' (n6+ua3+ua3+ua4) iq eq _ z y.1 oz oy rp;have hg3:=El (c:=d.2) rp;rw [<- fi] at dc;obtain ⟨S9a,rq⟩:∃ S9a,S9a=flS S8a iq eq d.2:=⟨_,rfl⟩;have rr:=ro.flag (S':=flS S8a iq eq d.2) (fun j hj=>ga6 hj) Bj rp.fS;rw [<- rq] at dc hg3 rr;have w7:=Bc (ce:=ga0) ga1 (l:=row6) (k:=W - 1) (q':=d.1) aA;have kx:=rr.E16;have rt:=rr.put (put row6 (W - 1) d.1);obtain ⟨rowZ,bv⟩:∃ rowZ,rowZ=put row6 (W - 1) d.1:=⟨_,rfl⟩;have mw:rowZ.length=W:=by rw [bv,Aj]; exact ri
   have orowZ:okL qF rowZ:=by
    exact Ya17
   obtain ⟨SZ,xa⟩:∃ SZ,SZ=put S9a (L+1) ⟨m0+1,flat ga0 rowZ⟩:=⟨_,rfl⟩;rw [<- bv] at w7 rt;rw [<- xa] at rt;have dq:Td qF u.1 z r.2.1=(d.1,Cl (Cl w.2 y.2) d.2):=by unfold Td; rw [<- jo,<- kr,<- fi]
   have ff:rowF qF z vars c W i sl r=(rowZ,Cl (Cl (Cl u.2 f1) o.2) (Cl (Cl w.2 y.2) d.2)):=by
    unfold rowF;simp only [hU,og,dq,hsF,<- l8,<- bu,<- bv]
   obtain ⟨fr,ky⟩:∃ fr,fr=Cl (Cl (Cl u.2 f1) o.2) (Cl (Cl w.2 y.2) d.2):=⟨_,rfl⟩;rw [<- ky] at ff;have kk:Gk S SZ iq eq I { t1 with fl:=Cl t1.fl fr } cp L nz m0 (m0+1) nu z r rowZ u.1:=by
    rw [ky];simpa only [Fy] using rt
   have ru:=ku.symm;have ry:=xa.symm;simp (maxSteps:=10^6)+contextual(disch:=try exact dqd)only[evg1,simprocAttr,Cd,Cb,Ce,ga29,e0,e1,e2,e7,e10,e11,e12,e14,e15,e16,e18,e19,e83,e84,e85,e113,e114,e115,c2,kt,oh,du,heq,hs1,hs2,hs3,tp,wy,sy,jb,qx,hW1,rh,lz,wz,kv,ru,hZ6,fe,kw,ip,hg1,jv,hg2,dc,hg3,w7,kx,ry,Eu,xfs,puQ,tkQ,ga1,ga5];have kg:begS qF z vars c W (l.drop i) i sl t1=begS qF z vars c W (l.drop (i+1)) (i+1) sl { t1 with rows:=t1.rows++[rowZ],cost:=(costL qF c W 0 t1.cost rowZ).1,basis:=t1.basis++[c+i],flip:=t1.flip++[D2 r],fl:=Cl (Cl t1.fl fr) (costL qF c W 0 t1.cost rowZ).2 }:=by
    rw [Ay hr];simp only [begS,hre];rw [ff,rg]
   rw [kg] at hR;exact Qf rfl (Ar2 S l vars fl k iq eq c W nz z hB Φ i a8 r hr sl i9 t1 I cp tk' ez hcl hre gz hok ba g8 rowZ fr mw orowZ L m0 nu u (D2 r) rfl SZ _ _ kk hR back _ rfl rfl rfl rfl rfl rfl rfl rfl rfl rfl rfl rfl rfl rfl rfl rfl rfl rfl)):p:=h
namespace QQ
theorem Ar4:At22:=Ma22
end QQ
end
end
section
open Go Tryz
open Go.Proofs.Tryz renaming f61->ga28,results61->ga29,func61->ga30,ntmps61->ga31
open Go.Proofs.YtcandeobhlfkbaaGreat renaming ceQ->ga0,Av->ga1,Bs->ga5,A0->ga6
set_option maxRecDepth 100000
namespace QQ
abbrev ua14:Nat:=61
end QQ
set_option maxHeartbeats 20000000
set_option maxRecDepth 100000
namespace QQ
def M3 (iq eq:Nat) (n real:Nat) (rows cost basis flip:AV):List AV:=[.ifc 84 (rcvQ iq eq),.int (n:Nat),.int (real:Nat),rows,cost,basis,flip]
end QQ
theorem Wu {a z:List AV} {j m:Nat} (h:j<m):nth (Ci j a++Ci (m - j) z) j=some z/\put (Ci j a++Ci (m - j) z) j a=Ci (j+1) a++Ci (m - (j+1)) z:=by
 have e:Ci (m - j) z=z :: Ci (m - (j+1)) z:=by rw [<- Lg]; congr 1; omega
 have hl:(Ci j a).length=j:=by simp
 rw [e];have h1:=Ek (p:=Ci j a) (u:=Ci (m - (j+1)) z) (x:=z);have h2:=Gu (p:=Ci j a) (u:=Ci (m - (j+1)) z) (x:=z) (y:=a);rw [hl] at h1 h2;refine ⟨h1,?_⟩;rw [h2,List.replicate_succ'];simp
theorem Rt {sz:Nat} {a z:List AV} {j m:Nat} (h:j<m) (ha:a.length=sz) (hz:z.length=sz):over (Ci j a++Ci (m - j) z).flatten (j*sz) a=some (Ci (j+1) a++Ci (m - (j+1)) z).flatten:=by
 have h1:=Wu (a:=a) (z:=z) h;rw [<- h1.2];refine Ni (e:=z) (fun e he=>?_) h1.1 ha;rcases C4.1 he with h|h
 ·rw [Im] at h; rw [h.2,ha]
 ·rw [Im] at h; rw [h.2,hz]
theorem Wz {ce:Q->List AV} {W:Nat} {z:Q} : (Ci W (ce z)).flatten=flat ce (Ci W z):=by unfold flat; rw [iT]
namespace QQ
theorem mk_Q {W:Nat} (h:W<=1048576):mkA prog 124 (.int (W:Nat)) (.int (W:Nat))=some (W,2,(Ci W zeroQ).flatten):=by
 have hz:(A7 prog 124).bind (Ax prog)=some zeroQ:=bK
 have hs:(A7 prog 124).bind (szOf prog)=some 2:=bK
 obtain ⟨bb,hb,hbl⟩:∃ bb,(A7 prog 124).bind (Je prog)=some bb/\bb<=1048576:=⟨16,aL,aA⟩;exact Ya23
def Alo (S:List Ent) (iq eq:Nat) (t':Tb) (r:Rs):Prop :=
 ∃ S' k' tk' I cc,r=(.ref I.it I.et 0,S',tk',k')/\S.length<=S'.length/\A1 S' iq eq I t' cc/\(∀ j,j<S.length->j≠iq->nth S' j=nth S j)/\(∀ j,j<S.length->j≠iq->OutQ I iq j)
end QQ
section
variable (S:List Ent) (tk:List Nat) (k iq eq:Nat)
abbrev At23 (p:Prop:=by exact ∀ (S:List Ent)(tk:List Nat)(k iq eq:Nat)(l:List RowT)(fl:Bool)(hl:l.length<=1000)(hn:(B4 l).length<=1000)(vars:List ByteArray)(lq:vars.length<=1000)(hv:∀ r ∈ l,∀ c ∈ r.1,c.1 ∈ vars)(hc:∀ r ∈ l,i64 r.2.1/\∀ c ∈ r.1,i64 c.2)(d6:fewC l)(mc:iq<S.length)(hf:FAq S iq eq fl),∃ r,cL prog ua14 [.ifc ua0 (rcvQ iq eq),Ap l,Ar vars] S tk k=some r/\Alo S iq eq (Bq qF l vars fl) r):=p
theorem Ma23 {p:Prop} (h:p:=by
 intro S tk k iq eq l fl hl hn vars lq hv hc d6 mc hf;obtain ⟨Φ,hΦ⟩:∃ Φ,Φ=Alo S iq eq (Bq qF l vars fl):=⟨_,rfl⟩;rw [<- hΦ];have hw2:Cf.wrap (2*(vars.length:Int))=((2*vars.length:Nat):Int):=aU
 refine opM ga30 ga31 ?_;simp (maxSteps:=10^6)+contextual(disch:=try exact dqd)only[evg1,simprocAttr,Cd,Cb,Ce,ga29,Ap,Ar,hw2];have a1n:∀ c,[AV.ifc ua0 (rcvQ iq eq),.int (vars.length:Nat),.int (c:Nat),.frz [] .nilc,.frz [] .nilc,.frz [] .nilc,.frz [] .nilc]=M3 iq eq vars.length c (.frz [] .nilc) (.frz [] .nilc) (.frz [] .nilc) (.frz [] .nilc):=fun _=>rfl;refine Ga (P:=prog) (fun x st=>st.T.length=270/\(x.2.2<=l.length)/\(x.2.1+neqs (l.drop x.2.2)=2*vars.length+neqs l)/\getT st.T 0=.ifc ua0 (rcvQ iq eq)/\getT st.T 1=.frz (l.map rowC) .unk/\getT st.T 2=.frz (vars.map strC) .unk/\getT st.T 7=.ref S.length k 0/\getT st.T 32=.frz (l.map rowC) .unk/\getT st.T 33=.int (l.length:Nat)/\getT st.T 34=.int (x.2.2:Nat)/\st.S=S++[⟨k,M3 iq eq vars.length x.2.1 (.frz [] .nilc) (.frz [] .nilc) (.frz [] .nilc) (.frz [] .nilc)⟩]/\st.tk=tk/\st.n=x.1) (fun x=>l.length - x.2.2) ((k+1),(2*vars.length),0) ?_ ?_;case refine_2=>exact ⟨rfl,Co _,rfl,rfl,rfl,rfl,rfl,rfl,rfl,rfl,rfl,rfl,rfl⟩
 rintro ⟨n1,c,q⟩ ⟨T,S',tk',n'⟩ ⟨hl,hq,zb,e0,e1,e2,e7,e32,e33,e34,eS,eT,eN⟩ IH;simp only at hq zb e0 e1 e2 e7 e32 e33 e34 eS eT eN;subst eS eT eN;obtain ⟨g,hg,hT⟩:=Au hl;rw [hg] at e0 e1 e2 e7 e32 e33 e34;subst hT;clear hg hl;have hnl:=Mr l;have a0z:∀ x y z:Ent,Oc (S++[x]).length (S++[y]++[z])=S++[y]:=fun x y z=>by
  have e:(S++[x]).length=(S++[y]).length:=by simp
  rw [e,List.take_left]
 by_cases hql:q<l.length
 ·have c1:decide ((q:Int)<(l.length:Int))=true:=by simpa using hql
  have hw:Cf.wrap ((q:Int)+1)=((q+1:Nat):Int):=aU
  obtain ⟨r,hr⟩:=Af hql;have ig:=G1 hr;have hnd:=Nw hr;have wg:entAt (S++[⟨k,M3 iq eq vars.length c (.frz [] .nilc) (.frz [] .nilc) (.frz [] .nilc) (.frz [] .nilc)⟩]++[⟨n',rowC r⟩]) S.length k=some (M3 iq eq vars.length c (.frz [] .nilc) (.frz [] .nilc) (.frz [] .nilc) (.frz [] .nilc)):=Ac Bz;cases he:r.2.2 with
  | true =>
   rw [he,if_pos rfl] at hnd;simp (maxSteps:=10^6)+contextual(disch:=try exact dqd)only[evg1,simprocAttr,Cd,Cb,Ce,ga29,e0,e1,e2,e7,e32,e33,e34,c1,hw,ig,rowC,Ag,he];exact IH (n'+1,c,q+1) _ aF ⟨rfl,aE,aE,bW⟩
  | false =>
   rw [he,if_neg Ob] at hnd;have hw3:Cf.wrap ((c:Int)+1)=((c+1:Nat):Int):=aU
   simp (maxSteps:=10^6)+contextual(disch:=try exact dqd)only[evg1,simprocAttr,Cd,Cb,Ce,ga29,e0,e1,e2,e7,e32,e33,e34,c1,hw,hw3,ig,rowC,Ag,he,M3,a0z];exact IH (n'+1,c+1,q+1) _ aF ⟨rfl,aE,aE,bW⟩
 ·have c1:decide ((q:Int)<(l.length:Int))=false:=by simpa using hql
  have sn:c=2*vars.length+neqs l:=by
   have h0:l.drop q=[]:=Ft aA;rw [h0] at zb;have yd:neqs ([]:List RowT)=0:=rfl;omega
  obtain ⟨W,t8⟩:∃ W,W=c+l.length+1:=⟨_,rfl⟩;have a00:Cf.wrap ((c:Int)+(l.length:Int))=((c+l.length:Nat):Int):=aU
  have a01:Cf.wrap (((c+l.length:Nat):Int)+1)=(W:Int):=aS
  obtain ⟨z,hz⟩:∃ z,z=qF.whole 0:=⟨_,rfl⟩;have oz:qF.ok z.1:=by rw [hz]; exact Es 0 aC
  obtain ⟨T0,ai⟩:∃ T0:Ent,T0=⟨k,M3 iq eq vars.length c (.frz [] .nilc) (.frz [] .nilc) (.frz [] .nilc) (.frz [] .nilc)⟩:=⟨_,rfl⟩;have qe:=Ln (S++[⟨k,M3 iq eq vars.length c (.frz [] .nilc) (.frz [] .nilc) (.frz [] .nilc) (.frz [] .nilc)⟩]) tk' n' iq eq fl 0 aC hf.app;rw [<- hz,Hd hf] at qe;obtain ⟨S1,cj⟩:∃ S1,S1=flS S iq eq z.2:=⟨_,rfl⟩;have ls:FAq S1 iq eq (Cl fl z.2):=by rw [cj]; exact hf.fS
  have hl1:S1.length=S.length:=by rw [cj]; exact Bj
  have b8:∀ v,v≠iq->nth S1 v=nth S v:=fun v hv=>by rw [cj]; exact ga6 hv
  rw [<- cj] at qe;obtain ⟨nz,yi⟩:∃ nz,nz=n'+ua3:=⟨_,rfl⟩;rw [<- yi] at qe;have mi:entAt (S1++[⟨k,M3 iq eq vars.length c (.frz [] .nilc) (.frz [] .nilc) (.frz [] .nilc) (.frz [] .nilc)⟩]++[⟨nz,ga0 z.1⟩]++[⟨nz+1,(Ci W zeroQ).flatten⟩]) S.length k=some (M3 iq eq vars.length c (.frz [] .nilc) (.frz [] .nilc) (.frz [] .nilc) (.frz [] .nilc)):=Ac (Ac (Al hl1));have hP2:∀ e e' a b:Ent,put (S1++[e]++[a]++[b]) S.length e'=S1++[e']++[a]++[b]:=fun e e' a b=>by
   rw [Dt aB,Dt aB,Dl hl1]
  have j0:=mk_Q (W:=W) aA;have hE3:=fun cs a b=>Ac (L:=[b]) (Ac (L:=[a]) (Al (k:=k) (cs:=cs) hl1));simp only [M3] at qe mi;simp (maxSteps:=10^6)+contextual(disch:=try exact dqd)only[evg1,simprocAttr,Cd,Cb,Ce,ga29,e0,e1,e2,e7,e32,e33,e34,c1,hw2,a00,a01,qe,j0,mi,hE3,hP2,hl1,M3,Eu,xfs,puQ,ga1,ga5,ovQ];obtain ⟨TP,yr⟩:∃ TP,TP=M3 iq eq vars.length c (.frz [] .nilc) (.sref (S.length+2) (nz+1) 0 W ua2) (.frz [] .nilc) (.frz [] .nilc):=⟨_,rfl⟩;obtain ⟨S2,a7⟩:∃ S2,S2=S1++[⟨k,TP⟩]++[⟨nz,ga0 z.1⟩]:=⟨_,rfl⟩;have hl2:S2.length=S.length+2:=by rw [a7]; simp [hl1]
  have au:entAt S2 S.length k=some TP:=by rw [a7]; exact Ac (Al hl1)
  have hZ2:entAt S2 (S.length+1) nz=some (ga0 z.1):=by rw [a7]; exact Al (by simp [hl1])
  have bm:FAq S2 iq eq (Cl fl z.2):=by rw [a7]; exact ls.app.app
  have az:∀ j,j<S.length->j≠iq->nth S2 j=nth S j:=fun j h1 h2=>by rw [a7,Bo aB,Bo aA,b8 j h2]
  have a2m:[AV.ifc ua0 (rcvQ iq eq),.int (vars.length:Nat),.int (c:Nat),.frz [] .nilc,.sref (S.length+2) (nz+1) 0 W ua2,.frz [] .nilc,.frz [] .nilc]=TP:=yr.symm;have tf:∀ x:Ent,(S1++[x]).length=S.length+1:=fun x=>by simp [hl1]
  have hLb:∀ x y:Ent,(S1++[x]++[y]).length=S.length+2:=fun x y=>by simp [hl1]
  rw [hLb,tf];have rz:=a7;rw [yr] at rz;simp only [M3] at rz;rw [<- rz];obtain ⟨Fl,hFl⟩:∃ Fl:Nat->List AV,Fl=fun j=>(Ci j (ga0 z.1)++Ci (W - j) (zeroQ:List AV)).flatten:=⟨_,rfl⟩;have hF0:Fl 0=(Ci W (zeroQ:List AV)).flatten:=by rw [hFl]; rfl
  have hFW:Fl W=flat ga0 (Ci W z.1):=by rw [hFl]; simp only [I4,List.replicate_zero,F4]; exact Wz
  have hFo:∀ j,j<W->over (Fl j) (j*ua2) (ga0 z.1)=some (Fl (j+1)):=fun j jf=>by rw [hFl]; exact Rt (sz:=ua2) (a:=ga0 z.1) (z:=(zeroQ:List AV)) jf (ga1 _) rfl
  rw [<- hF0];refine Ga (P:=prog) (fun x st=>st.T.length=270/\(x.2<=W)/\getT st.T 0=.ifc ua0 (rcvQ iq eq)/\getT st.T 1=.frz (l.map rowC) .unk/\getT st.T 2=.frz (vars.map strC) .unk/\getT st.T 7=.ref S.length k 0/\getT st.T 10=.int ((2*vars.length:Nat):Int)/\getT st.T 11=.int (W:Nat)/\getT st.T 12=.ref (S.length+1) nz 0/\getT st.T 71=.int (W:Nat)/\getT st.T 72=.int (x.2:Nat)/\st.S=S2++[⟨nz+1,Fl x.2⟩]/\st.tk=tk'/\st.n=x.1) (fun x=>W - x.2) ((nz+2),0) ?_ ?_;case refine_2=>exact ⟨rfl,Co _,rfl,rfl,rfl,rfl,rfl,rfl,rfl,rfl,rfl,rfl,rfl,rfl⟩
  rintro ⟨n1,j⟩ ⟨T,S',tk',n'⟩ ⟨hl,hj,e0,e1,e2,e7,e10,e11,e12,e71,e72,eS,eT,eN⟩ IH;simp only at hj e0 e1 e2 e7 e10 e11 e12 e71 e72 eS eT eN;subst eS eT eN;obtain ⟨g,hg,hT⟩:=Au hl;rw [hg] at e0 e1 e2 e7 e10 e11 e12 e71 e72;subst hT;clear hg hl;have yt:∀ cs,entAt (S2++[⟨nz+1,cs⟩]) (S.length+2) (nz+1)=some cs:=fun cs=>Al hl2;have yu:=fun e e'=>Dl (e:=e) (e':=e') hl2;have my:∀ x y:Ent,Oc (S2++[x]).length (S2++[y])=S2++[y]:=fun x y=>by
   have e:(S2++[x]).length=(S2++[y]).length:=by simp
   rw [e,Gl]
  by_cases jf:j<W
  ·have c2:decide ((j:Int)<(W:Int))=true:=fK
   have hw:Cf.wrap ((j:Int)+1)=((j+1:Nat):Int):=aU
   have jy:=hFo j jf;have qq:∀ e:Ent,entAt (S2++[e]) S.length k=some TP:=fun e=>Ac au;have qu:∀ e:Ent,entAt (S2++[e]) (S.length+1) nz=some (ga0 z.1):=fun e=>Ac hZ2;rw [yr] at qq;simp only [M3] at qq;simp (maxSteps:=10^6)+contextual(disch:=try exact dqd)only[evg1,simprocAttr,Cd,Cb,Ce,ga29,e0,e1,e2,e7,e10,e11,e12,e71,e72,c2,hw,jf,jy,qq,qu,yt,yu,my,puQ,tkQ,ga1,ga5];exact IH (n',j+1) _ aF ⟨rfl,aE,bW⟩
  ·have c2:decide ((j:Int)<(W:Int))=false:=fK
   have kz:j=W:=aA
   rw [kz] at c2 e72 ⊢;clear jf kz hj;rw [hFW];obtain ⟨S3,cr⟩:∃ S3,S3=S2++[⟨nz+1,flat ga0 (Ci W z.1)⟩]:=⟨_,rfl⟩;have d7:S3.length=S.length+3:=by rw [cr]; simp [hl2]
   have b7:∀ j,j<S.length->j≠iq->nth S3 j=nth S j:=fun j h1 h2=>by rw [cr,Bo aA,az j h1 h2]
   have hZ3:entAt S3 (S.length+1) nz=some (ga0 z.1):=by rw [cr]; exact Ac hZ2
   obtain ⟨t0,tq⟩:∃ t0:Tb,t0={ vars:=vars.length,real:=c,rows:=[],cost:=Ci W z.1,basis:=[],flip:=[],fl:=Cl fl z.2 }:=⟨_,rfl⟩;obtain ⟨I0,hI0⟩:∃ I0:TI,I0=⟨S.length,k,S.length+3,0,S.length+2,nz+1,S.length+4,0,[]⟩:=⟨_,rfl⟩;have dk:A1 S3 iq eq I0 t0 .nilc:=by
    rw [hI0,tq,cr];refine ⟨?_,rfl,fun h=>absurd rfl h,fun i p r h=>bQ,fun r h=>aN,?_,fun h=>absurd rfl h,rfl,rfl,bm.app,?_,fun r h=>aN,fun q hq=>?_,?_,by simp,?_,fun b h=>aN⟩
    ·rw [Ac au,yr];simp only [M3,cq,Oj,Cu,Fi];rfl
    ·exact Al hl2
    ·constructor <;> first|(simp only; omega)|(intro p hp; simp at hp)|(intro i j p q hp; simp [nth] at hp)
    ·rw [Im] at hq; rw [hq.2]; exact oz
    ·simp only [Oj]; omega
    ·simp only [Oj]; omega
   have a02:Bq qF l vars fl=begS qF z.1 vars c W l 0 (2*vars.length) t0:=by
    unfold Bq;simp only;rw [<- sn,<- t8,<- hz,tq]
   simp (maxSteps:=10^6)+contextual(disch:=try exact dqd)only[evg1,simprocAttr,Cd,Cb,Ce,ga29,e0,e1,e2,e7,e10,e11,e12,e71,e72,c2];rw [<- cr];clear yt yu my e0 e1 e2 e7 e10 e11 e12 e71 e72 c1 c2;refine Ga (P:=prog) (fun x st=>st.T.length=270/\(x.2.2.2.2.1<=l.length)/\(Bq qF l vars fl=begS qF z.1 vars c W (l.drop x.2.2.2.2.1) x.2.2.2.2.1 x.2.2.2.2.2.1 x.2.2.2.2.2.2.1)/\(A1 x.1 iq eq x.2.2.2.2.2.2.2 x.2.2.2.2.2.2.1 x.2.2.2.1)/\(x.2.2.2.2.2.2.1.rows.length=x.2.2.2.2.1)/\(x.2.2.2.2.2.2.1.cost.length=W)/\(x.2.2.2.2.2.2.1.real=c)/\(x.2.2.2.2.2.2.1.vars=vars.length)/\(x.2.2.2.2.2.1+neqs (l.drop x.2.2.2.2.1)=c)/\(Bd x.2.2.1 x.2.2.2.1 1=true)/\(entAt x.1 (S.length+1) nz=some (ga0 z.1))/\(S.length+3<=x.1.length)/\(∀ j,j<S.length->j≠iq->nth x.1 j=nth S j)/\(x.2.2.2.2.2.2.2.it=S.length/\x.2.2.2.2.2.2.2.et=k/\x.2.2.2.2.2.2.2.ic=S.length+2)/\(S.length+2<x.2.2.2.2.2.2.2.ir/\S.length+2<x.2.2.2.2.2.2.2.ib/\∀ p ∈ x.2.2.2.2.2.2.2.ids,S.length+2<p.1)/\getT st.T 0=.ifc ua0 (rcvQ iq eq)/\getT st.T 1=.frz (l.map rowC) .unk/\getT st.T 2=.frz (vars.map strC) .unk/\getT st.T 7=.ref S.length k 0/\getT st.T 10=.int (x.2.2.2.2.2.1:Nat)/\getT st.T 11=.int (W:Nat)/\getT st.T 12=.ref (S.length+1) nz 0/\getT st.T 83=.frz (l.map rowC) .unk/\getT st.T 84=.int (l.length:Nat)/\getT st.T 85=.int (x.2.2.2.2.1:Nat)/\st.S=x.1/\st.tk=x.2.2.1/\st.n=x.2.1) (fun x=>l.length - x.2.2.2.2.1) (S3,n',tk',Cap.nilc,0,(2*vars.length),t0,I0) ?_ ?_;case refine_2=>exact ⟨rfl,Co _,a02,dk,by rw [tq]; rfl,by rw [tq]; simp,by rw [tq],by rw [tq],by rw [sn]; rfl,rfl,hZ3,Nat.le_of_eq d7.symm,b7,by rw [hI0]; exact ⟨rfl,rfl,rfl⟩,by rw [hI0]; exact ⟨aT,aT,fun p hp=>by simp at hp⟩,rfl,rfl,rfl,rfl,rfl,rfl,rfl,rfl,rfl,rfl,rfl,rfl,rfl⟩
   rintro ⟨SS,n1,tk1,cp,i,sl,t1,I⟩ ⟨T,S',tk',n'⟩ ⟨hl,hi,hR,hT,ez,hcl,hre,gz,sf,hok,hZ,hL3,bc,ba,g8,e0,e1,e2,e7,e10,e11,e12,e83,e84,e85,eS,eT,eN⟩ IH;simp only at hi hR hT ez hcl hre gz sf hok hZ hL3 bc ba g8 e0 e1 e2 e7 e10 e11 e12 e83 e84 e85 eS eT eN;subst eS eT eN;obtain ⟨g,hg,hT⟩:=Au hl;rw [hg] at e0 e1 e2 e7 e10 e11 e12 e83 e84 e85;subst hT;clear hg hl;have IHA:=IH;clear IH;obtain ⟨m0,co⟩:∃ m0,m0=n':=⟨_,rfl⟩;subst co;obtain ⟨SA,hSA⟩:∃ SA,SA=S':=⟨_,rfl⟩;subst hSA;obtain ⟨tkA,a03⟩:∃ tkA,tkA=tk':=⟨_,rfl⟩;subst a03;obtain ⟨L,hL⟩:∃ L,L=SA.length:=⟨_,rfl⟩;by_cases a8:i<l.length
   ·have c1:decide ((i:Int)<(l.length:Int))=true:=eX
    have hwi:Cf.wrap ((i:Int)+1)=((i+1:Nat):Int):=aU
    obtain ⟨r,hr⟩:=Af a8;have ig:=G1 hr;have pq:r ∈ l:=Am hr;have tf:∀ x:Ent,(SA++[x]).length=L+1:=fun x=>by simp [hL]
    have back:∀ st,Ahc S l vars fl k iq eq c W nz z.1 (i+1) st->Gd finM Φ (KA prog ga28 18 [] st):=fun st h=>by
     obtain ⟨sl',t1',I',cp',h1,h2,h3,h4,h5,h6,h7,h8,h9,h10,h11,h12,h13,h14,xb,s0,s1,s2,s7,s10,s11,s12,s83,s84,s85⟩:=h;exact Afe rfl (t:=.mk) (IHA (st.S,st.n,st.tk,cp',i+1,sl',t1',I') st (by show l.length - (i+1)<l.length - i; omega) ⟨xb,h1,h2,h3,h4,h5,h6,h7,h8,h9,h10,h11,h12,h13,h14,s0,s1,s2,s7,s10,s11,s12,s83,s84,s85,rfl,rfl,rfl⟩)
    clear IHA;simp (maxSteps:=10^6)+contextual(disch:=try exact dqd)only[evg1,simprocAttr,Cd,Cb,Ce,ga29,e0,e1,e2,e7,e10,e11,e12,e83,e84,e85,c1,ig,rowC,Ag,j0,Cc];rw [tf,<- hL,<- hF0];obtain ⟨SB,oi⟩:∃ SB,SB=SA++[(⟨m0,rowC r⟩:Ent)]:=⟨_,rfl⟩;have xm:SB.length=L+1:=by rw [oi]; exact tf _
    have r6:=oi;simp only [rowC,Ag] at r6;rw [<- r6];refine Ga (P:=prog) (fun x st=>st.T.length=270/\(x.2<=W)/\getT st.T 0=.ifc ua0 (rcvQ iq eq)/\getT st.T 1=.frz (l.map rowC) .unk/\getT st.T 2=.frz (vars.map strC) .unk/\getT st.T 7=.ref S.length k 0/\getT st.T 10=.int (sl:Nat)/\getT st.T 11=.int (W:Nat)/\getT st.T 12=.ref (S.length+1) nz 0/\getT st.T 14=.int (i:Nat)/\getT st.T 15=.ref L m0 0/\getT st.T 16=.sref (L+1) (m0+1) 0 W ua2/\getT st.T 83=.frz (l.map rowC) .unk/\getT st.T 84=.int (l.length:Nat)/\getT st.T 85=.int (i:Nat)/\getT st.T 93=.int (W:Nat)/\getT st.T 94=.int (x.2:Nat)/\st.S=SB++[⟨m0+1,Fl x.2⟩]/\st.tk=tkA/\st.n=x.1) (fun x=>W - x.2) ((m0+2),0) ?_ ?_;case refine_2=>exact ⟨rfl,Co _,rfl,rfl,rfl,rfl,rfl,rfl,rfl,rfl,rfl,rfl,rfl,rfl,rfl,rfl,rfl,rfl,rfl,rfl⟩
    rintro ⟨n1,j⟩ ⟨T,S',tk',n'⟩ ⟨hl,hj,e0,e1,e2,e7,e10,e11,e12,e14,e15,e16,e83,e84,e85,e93,e94,eS,eT,eN⟩ IH;simp only at hj e0 e1 e2 e7 e10 e11 e12 e14 e15 e16 e83 e84 e85 e93 e94 eS eT eN;subst eS eT eN;obtain ⟨g,hg,hT⟩:=Au hl;rw [hg] at e0 e1 e2 e7 e10 e11 e12 e14 e15 e16 e83 e84 e85 e93 e94;subst hT;clear hg hl;by_cases jf:j<W
    ·have c2:decide ((j:Int)<(W:Int))=true:=fK
     have hw:Cf.wrap ((j:Int)+1)=((j+1:Nat):Int):=aU
     have jy:=hFo j jf;have qu:∀ b:Ent,entAt (SB++[b]) (S.length+1) nz=some (ga0 z.1):=fun b=>by rw [oi]; exact Ac (Ac hZ)
     have yt:∀ cs,entAt (SB++[⟨m0+1,cs⟩]) (L+1) (m0+1)=some cs:=fun cs=>Al xm;have yu:=fun e e'=>Dl (e:=e) (e':=e') xm;have my:∀ x y:Ent,Oc (SB++[x]).length (SB++[y])=SB++[y]:=fun x y=>by
      have e:(SB++[x]).length=(SB++[y]).length:=by simp
      rw [e,Gl]
     simp (maxSteps:=10^6)+contextual(disch:=try exact dqd)only[evg1,simprocAttr,Cd,Cb,Ce,ga29,e0,e1,e2,e7,e10,e11,e12,e14,e15,e16,e83,e84,e85,e93,e94,c2,hw,jf,jy,qu,yt,yu,my,puQ,tkQ,ga1,ga5];exact IH (n',j+1) _ aF ⟨rfl,aE,bW⟩
    ·have c2:decide ((j:Int)<(W:Int))=false:=fK
     have kz:j=W:=aA
     rw [kz] at c2 e94 ⊢;clear jf kz hj;rw [hFW];obtain ⟨n5,hn5⟩:∃ n5,n5=n':=⟨_,rfl⟩;subst hn5;obtain ⟨SC,oj⟩:∃ SC,SC=SB++[(⟨m0+1,flat ga0 (Ci W z.1)⟩:Ent)]:=⟨_,rfl⟩;rw [<- oj];have hlC:SC.length=L+2:=by rw [oj]; simp [xm]
     have xc:A1 SC iq eq I t1 cp:=by rw [oj,oi]; exact (hT.app _).app _
     have ar:LowQ I iq L t1:=by rw [hL]; exact hT.low
     have lg:entAt SC L m0=some (rowC r):=by rw [oj,oi]; exact Ac (Al hL.symm)
     have r7:entAt SC (L+1) (m0+1)=some (flat ga0 (Ci W z.1)):=by rw [oj]; exact Al xm
     have hZC:entAt SC (S.length+1) nz=some (ga0 z.1):=by rw [oj,oi]; exact Ac (Ac hZ)
     have hfC:∀ j,j<S.length->j≠iq->nth SC j=nth S j:=fun j h1 h2=>by rw [oj,oi,Bo aB,Bo aA,bc j h1 h2]
     have kq:i64 r.2.1:=(hc r pq).1;obtain ⟨one,hone⟩:∃ one,one=qF.whole 1:=⟨_,rfl⟩;have o1:qF.ok one.1:=by rw [hone]; exact Es 1 aC
     have cg:=Ln SC tk' n5 iq eq t1.fl 1 aC xc.fa;rw [<- hone] at cg;obtain ⟨SD,tu⟩:∃ SD,SD=flS SC iq eq one.2:=⟨_,rfl⟩;have lh:SD.length=L+2:=by rw [tu,Bj]; exact hlC
     have r8:∀ v,v≠iq->nth SD v=nth SC v:=fun v hv=>by rw [tu]; exact ga6 hv
     have xd:FAq SD iq eq (Cl t1.fl one.2):=by rw [tu]; exact xc.fa.fS
     rw [<- tu] at cg;obtain ⟨nu,hnu⟩:∃ nu,nu=n5+ua3:=⟨_,rfl⟩;rw [<- hnu] at cg;have hTD:A1 SD iq eq I { t1 with fl:=Cl t1.fl one.2 } cp:=xc.flag r8 xd;have hLd:SD.length=L+2:=lh;have li:Gk S (SD++[⟨nu,ga0 one.1⟩]) iq eq I { t1 with fl:=Cl t1.fl one.2 } cp L nz m0 (m0+1) nu z.1 r (Ci W z.1) one.1 :=
      ⟨hTD.app _,ar.of fun h=>h,by rw [Ac (e:=nz) (by rw [Aa (r8 _ aA)]; exact hZC)],by rw [Ac (by rw [Aa (r8 _ aA)]; exact lg)],by rw [Ac (by rw [Aa (r8 _ aA)]; exact r7)],Al lh,by simp [lh],fun j h1 h2=>by rw [Bo aA,r8 j h2]; exact hfC j h1 h2,mc,aA,ba.2.2⟩
     have fg:=li.E15;have om:=li.E19;have j9:(SD++[(⟨nu,ga0 one.1⟩:Ent)]).length=L+3:=li.len;have hLD:∀ x:Ent,(SD++[x]).length=L+3:=fun x=>by simp [lh]
     simp only [rowC] at fg;have yw:∀ cs,entAt (SD++[⟨nu,cs⟩]) (L+2) nu=some cs:=fun cs=>Al lh;have qj:=fun e e'=>Dl (e:=e) (e':=e') lh;clear oj oi r6;cases hfl:D2 r
     ·have c3:decide (0<r.2.1)=false:=hfl;have hU:Jv qF (D2 r)=one:=by rw [hfl,hone]; rfl
      simp (maxSteps:=10^6)+contextual(disch:=try exact dqd)only[evg1,simprocAttr,Cd,Cb,Ce,ga29,e0,e1,e2,e7,e10,e11,e12,e14,e15,e16,e83,e84,e85,e93,e94,c2,c3,lg,rowC,Ag,cg,fg,yw,qj,lh,Eu,xfs,puQ,ga1,ga5,ovQ];clear e0 e1 e2 e7 e10 e11 e12 e14 e15 e16 e83 e84 e85 e93 e94 c2 c3 IH qj yw;obtain ⟨SX,r9⟩:∃ SX,SX=SD++[(⟨nu,ga0 one.1⟩:Ent)]:=⟨_,rfl⟩;obtain ⟨nx,s9⟩:∃ nx,nx=nu+1:=⟨_,rfl⟩;rw [<- r9,<- s9];rw [<- r9] at li;obtain ⟨u,hu⟩:∃ u:Q × Bool,u=one:=⟨_,rfl⟩;rw [<- hu] at li hU;have ou:qF.ok u.1:=by rw [hu]; exact o1
      have fc:=li;clear li fg om j9 hLD hnu hTD hLd xd r8 lh cg tu r9 s9 r7 lg hZC hfC xc hlC hu o1 hone;have h18:AV.prim (.bool false)=.prim (.bool (D2 r)):=by rw [hfl]
      exact Yaz
     ·have c3:decide (0<r.2.1)=true:=hfl;obtain ⟨neg,hneg⟩:∃ neg,neg=qF.whole (-1):=⟨_,rfl⟩;have on:qF.ok neg.1:=by rw [hneg]; exact Es (-1) aC
      have hU:Jv qF (D2 r)=(neg.1,Cl one.2 neg.2):=by rw [hfl,hone,hneg]; rfl
      have hw1:=Ln (SD++[⟨nu,ga0 one.1⟩]) tk' (nu+1) iq eq (Cl t1.fl one.2) (-1) aC li.T.fa;rw [<- hneg,Hd xd] at hw1;obtain ⟨SE,yx⟩:∃ SE,SE=flS SD iq eq neg.2:=⟨_,rfl⟩;have j9:SE.length=L+2:=by rw [yx,Bj]; exact lh
      have hRE:=li.flag (S':=flS (SD++[⟨nu,ga0 one.1⟩]) iq eq neg.2) (fun j hj=>ga6 hj) Bj li.T.fa.fS;rw [Hd xd,<- yx] at hRE;rw [<- yx] at hw1;have xe:=hRE.unit neg.1;have oq:∀ cs,entAt (SE++[⟨nu,cs⟩]) (L+2) nu=some cs:=fun cs=>Al j9;have sa:=fun e e'=>Dl (e:=e) (e':=e') j9;rw [sa] at xe;have lj:=xe.E15;simp only [rowC] at lj;simp (maxSteps:=10^6)+contextual(disch:=try exact dqd)only[evg1,simprocAttr,Cd,Cb,Ce,ga29,e0,e1,e2,e7,e10,e11,e12,e14,e15,e16,e83,e84,e85,e93,e94,c2,c3,lg,rowC,Ag,cg,fg,yw,qj,lh,hw1,oq,sa,lj,Eu,xfs,puQ,ga1,ga5,ovQ,ovQ2];clear e0 e1 e2 e7 e10 e11 e12 e14 e15 e16 e83 e84 e85 e93 e94 c2 c3 IH qj yw sa oq;obtain ⟨SX,r9⟩:∃ SX,SX=SE++[(⟨nu,ga0 neg.1⟩:Ent)]:=⟨_,rfl⟩;obtain ⟨nx,s9⟩:∃ nx,nx=nu+1+ua3:=⟨_,rfl⟩;rw [<- r9,<- s9];rw [<- r9] at xe;obtain ⟨u,hu⟩:∃ u:Q × Bool,u=(neg.1,Cl one.2 neg.2):=⟨_,rfl⟩;rw [<- hu] at hU;have ou:qF.ok u.1:=by rw [hu]; exact on
      have fc:Gk S SX iq eq I { t1 with fl:=Cl t1.fl u.2 } cp L nz m0 (m0+1) nu z.1 r (Ci W z.1) u.1:=by
       rw [hu];simp only [<- Fy];exact xe
      clear li fg om j9 hLD hnu hTD hLd xd r8 lh cg tu r9 s9 r7 lg hZC hfC xc hlC hu o1 hone on hneg hw1 yx hRE xe lj;have h18:AV.prim (.bool true)=.prim (.bool (D2 r)):=by rw [hfl]
      exact Yaz
   ·have c1:decide ((i:Int)<(l.length:Int))=false:=eX
    have h0:l.drop i=[]:=Ft aA;rw [h0] at hR;simp only [begS] at hR;simp (maxSteps:=10^6)+contextual(disch:=try exact dqd)only[evg1,simprocAttr,Cd,Cb,Ce,ga29,e0,e1,e2,e7,e10,e11,e12,e83,e84,e85,c1];rw [hΦ,hR];exact ⟨SA,m0,tkA,I,cp,by rw [ba.1,ba.2.1],aA,hT,bc,fun j h1 h2=>⟨h2,aA,aA,fun p hp=>by have:=g8.2.2 p hp; omega⟩⟩):p:=h
namespace QQ
theorem Ar6:At23:=Ma23
end QQ
end
end
section
open Go
set_option maxRecDepth 100000
def ceW0Q:List AV:=[.prim (.bool false),.frz [] .nilc,.prim (.bool false),.frz [] .nilc]
namespace QQ
structure Ag9 (S SS:List Ent) (iq eq:Nat) (I:TI) (t:Tb) (cc:Cap) (k n8:Nat) (z:Q) (cf:AV) (n:Int):Prop where
 T:A1 SS iq eq I t cc
 E4:entAt SS S.length k=some [cf,.prim (.int .i64 n)]
 E6:entAt SS (S.length+1) (k+1)=some ceW0Q
 E8:entAt SS (S.length+2) n8=some (ceQ z)
 len:SS.length=S.length+3
 fr:∀ j,j<S.length->OutQ I iq j->nth SS j=nth S j
end QQ
abbrev At24 (p:Prop:=by exact ∀ {S:List Ent}{iq eq:Nat}{I:TI}{t:Tb}{cc:Cap}(hT:A1 S iq eq I t cc)(mc:iq<S.length)(hib:I.ib<S.length\/S.length+10<I.ib)(d:Nat)(hd:d<=10),OutQ I iq (S.length+d)):=p
theorem Ma24 {p:Prop} (h:p:=by
 intro hT mc hib d hd;have h:=hT.low;have:=h.ic;exact ⟨aA,aA,aA,fun p hp=>by have:=h.row p hp; omega⟩):p:=h
namespace QQ
theorem Aqi:At24:=fun {S iq eq I t cc}=>Ma24
end QQ
abbrev At25 (p:Prop:=by exact ∀ {S SS S':List Ent}{iq eq:Nat}{I:TI}{t t':Tb}{cc:Cap}{k n8:Nat}{z:Q}{cf:AV}{n:Int}(h:Ag9 S SS iq eq I t cc k n8 z cf n)(ho:∀ d,d<=10->OutQ I iq (S.length+d))(hT:A1 S' iq eq I t' cc)(hS:∀ j,OutQ I iq j->nth S' j=nth SS j)(hl:S'.length=SS.length),Ag9 S S' iq eq I t' cc k n8 z cf n):=p
theorem Ma25 {p:Prop} (h:p:=by
 intro h ho hT hS hl;exact ⟨hT,by rw [Aa (hS S.length (ho 0 aA))]; exact h.E4,by rw [Aa (hS _ (ho 1 aA))]; exact h.E6,by rw [Aa (hS _ (ho 2 aA))]; exact h.E8,by rw [hl]; exact h.len,fun j h1 h2=>by rw [hS j h2]; exact h.fr j h1 h2⟩):p:=h
namespace QQ
theorem Ag9.step:At25:=fun {S SS S' iq eq I t t' cc k n8 z cf n}=>Ma25
end QQ
end
section
open Go
set_option maxRecDepth 100000
abbrev At26 (p:Prop:=by exact ∀ {S:List Ent}{iq eq:Nat}{I:TI}{t:Tb}{c:Cap}(h:A1 S iq eq I t c)(h0:t.rows=[])(mc:iq<S.length){x y:Nat}(hx:S.length<=x)(hy:S.length<=y)(ii:x≠y),A1 S iq eq ⟨I.it,I.et,x,0,I.ic,I.ec,y,0,I.ids⟩ t c):=p
theorem Ma26 {p:Prop} (h:p:=by
 intro h h0 mc x y hx hy ii;have hl:=h.low;have h1:=hl.it;have h2:=hl.ic;have gy:I.ids=[]:=Fh.1 (by rw [h.nids,h0]; rfl);refine ⟨?_,h.nids,fun hn=>absurd h0 hn,h.rowE,h.rowW,h.costE,fun hn=>absurd h0 hn,h.nb,h.nf,h.fa,?_,h.okr,h.okc,h.bigW,h.bigM,h.real,h.bB⟩
 ·have h3:=h.top;rw [h0] at h3 ⊢;exact h3
 ·have ha:=h.ap;refine ⟨aT,ha.tc,aT,aT,ii,aT,ha.qt,aT,ha.qc,aT,fun p hp=>?_,ha.rows⟩;rw [gy] at hp; simp at hp):p:=h
namespace QQ
theorem A1.junk:At26:=fun {S iq eq I t c}=>Ma26
def BegRQ (S:List Ent) (iq eq:Nat) (t':Tb) (r:Rs):Prop :=
 ∃ S' k' tk' I cc,r=(.ref I.it I.et 0,S',tk',k')/\S.length<=S'.length/\A1 S' iq eq I t' cc/\(∀ j,j<S.length->j≠iq->nth S' j=nth S j)/\(∀ j,j<S.length->j≠iq->OutQ I iq j)/\(I.ib<S'.length\/S'.length+15<I.ib)
end QQ
abbrev At27 (p:Prop:=by exact ∀ {S:List Ent}{iq eq:Nat}{t':Tb}{r:Rs}(mc:iq<S.length)(h:Alo S iq eq t' r),BegRQ S iq eq t' r):=p
theorem Ma27 {p:Prop} (h:p:=by
 intro mc h;obtain ⟨S',k',tk',I,cc,hr,h1,h2,h3,h4⟩:=h;by_cases h0:t'.rows=[]
 ·refine ⟨S',k',tk',⟨I.it,I.et,S'.length+20,0,I.ic,I.ec,S'.length+21,0,I.ids⟩,cc,hr,h1,h2.junk h0 aA aA aA aA,h3,fun j a b=>?_,.inr aT⟩;have h5:=h4 j a b;exact ⟨h5.1,h5.2.1,aT,h5.2.2.2⟩
 ·exact ⟨S',k',tk',I,cc,hr,h1,h2,h3,h4,.inl (h2.low.ib h0)⟩):p:=h
namespace QQ
theorem Alo.far:At27:=fun {S iq eq t' r}=>Ma27
end QQ
end
section
open Go Tryz
open Go.Proofs.Tryz renaming func46->ga32,ntmps46->ga33,results46->ga34
set_option maxRecDepth 100000
namespace QQ
abbrev ua15:Nat:=46
end QQ
set_option maxHeartbeats 20000000
set_option maxRecDepth 100000
def Art (S:List Ent) (iq:Nat) (a:Ans) (ok:Bool) (r:Rs):Prop :=
 ∃ S' tk' k' c1 c2 q b,r=(.tup [.agg (ansC a.f a.pt a.nu c1 c2 q b),.bool ok],S',tk',k')/\S'.length=S.length/\(∀ j,j<S.length->j≠iq->nth S' j=nth S j)/\(∀ v,a.least=some v->q=some v.1/\b=v.2)/\(a.least=none->q=none/\b=false)
section
variable (S:List Ent) (tk:List Nat) (k iq eq:Nat)
abbrev At28 (p:Prop:=by exact ∀ (S:List Ent)(tk:List Nat)(k iq eq:Nat)(l:List RowT)(fl:Bool)(hl:l.length<=1000)(hn:(B4 l).length<=1000)(vars:List ByteArray)(lq:vars.length<=1000)(hv:∀ r ∈ l,∀ c ∈ r.1,c.1 ∈ vars)(hc:∀ r ∈ l,i64 r.2.1/\∀ c ∈ r.1,i64 c.2)(d6:fewC l)(mc:iq<S.length)(hf:FAq S iq eq fl)(K:Nat)(a:Ans)(ok:Bool)(hS:Kl qF K l vars fl=some (a,ok)),∃ r,cL prog ua15 [.ifc ua0 (rcvQ iq eq),Ap l,Ar vars,.prim (.pointer none)] S tk k=some r/\Art S iq a ok r):=p
theorem Ma28 {p:Prop} (h:p:=by
 intro S tk k iq eq l fl hl hn vars lq hv hc d6 mc hf K a ok hS;obtain ⟨Φ,hΦ⟩:∃ Φ,Φ=Art S iq a ok:=⟨_,rfl⟩;rw [<- hΦ];obtain ⟨rb,yy,hbP⟩:=Ar6 (S++[(⟨k,ans0⟩:Ent)]) tk (k+1) iq eq l fl hl hn vars lq hv hc d6 aB hf.app;obtain ⟨Sb,kb,tkb,I,cc,rfl,hlb,hTb,su,hob,hib⟩:=hbP.far aB;simp only [ans0,Ap,Ar] at yy;cases hd:H2 qF K (Bq qF l vars fl) with
 | none=>unfold Kl at hS; rw [hd] at hS; simp at hS
 | some bt =>
  obtain ⟨b,t⟩:=bt;obtain ⟨rd,nw,Sd,kd,rfl,hld,hTd,hnd⟩:=Amr Sb tkb kb iq eq I _ t cc K b hTb hd;have gn:=Adt Sd tkb kd iq eq t.fl hTd.fa;unfold Kl at hS;rw [hd] at hS;simp only at hS;have mz:∀ j,j<S.length+1->j≠iq->OutQ I iq j:=fun j h1 h2=>hob j aB h2;have hSb:S.length+1<=Sb.length:=by simpa using hlb
  have hE0:entAt Sd S.length k=some ans0:=by
   rw [Aa (hnd _ (mz _ aA aA)),Aa (su _ (by simp) aA)];exact Bz
  have bc:∀ j,j<S.length->j≠iq->nth Sd j=nth S j:=fun j h1 h2=>by
   rw [hnd _ (mz _ aA h2),su _ aB h2,Bo h1]
  have hP0:∀ cs,entAt (put Sd S.length ⟨k,cs⟩) S.length k=some cs:=fun cs=>Ai aA;have xf:over ans0 0 ans0=some ans0:=rfl;have a04:=hE0;simp only [ans0] at xf hE0;refine opG ga32 ga33 ?_;cases ah:(qF.stop && t.fl) with
  | true =>
   rw [ah] at gn hS;simp (maxSteps:=10^6)+contextual(disch:=try exact dqd)only[evg1,simprocAttr,Cd,Cb,Ce,ga34,Ap,Ar,yy,nw,gn,hE0,xf,hP0,Eu,xfs];rw [if_pos rfl] at hS;simp only [A2,Cg] at hS;obtain ⟨rfl,rfl⟩:=hS;rw [hΦ];refine ⟨_,_,_,.nilc,.nilc,none,false,rfl,by rw [Ix,Ao]; omega,fun j h1 h2=>?_,fun v hv=>by simp at hv,fun _=>⟨rfl,rfl⟩⟩;rw [Gc h1,Ad aA]; exact bc j h1 h2
  | false =>
   rw [ah] at gn hS;rw [if_neg Ob] at hS;obtain ⟨rf,fd,Sf,kf,rfl,hlf,hTf,hnf⟩:=Ai4 Sd tkb kd iq eq I t cc hTd;have hsz:=Wo hd;have p6:=Rb (F:=qF) (l:=l) (vars:=vars) (fl:=fl);have hoN:∀ d,d<=10->OutQ I iq (Sf.length+d):=fun d hd=>by
    rw [hlf,hld]; exact Aqi hTb aA aA d hd
   have hEf:entAt Sf S.length k=some ans0:=by rw [Aa (hnf _ (mz _ aA aA))]; exact a04
   cases hfe:J3 t with
   | false =>
    rw [hfe] at fd hS;rw [if_neg Ob] at hS;simp only [A2,Cg] at hS;obtain ⟨rfl,rfl⟩:=hS;obtain ⟨rm,tz,Sm,km,tkm,cm,rfl,y9,hTm,hnm⟩:=Aad (Sf++[(⟨kf,ans0⟩:Ent)]) tkb (kf+1) iq eq I t cc (hTf.app _) (by rw [hsz.1,hsz.2.2.1,hsz.2.2.2,p6.1,p6.2.2.1,p6.2.2.2]; omega);have a05:Sm.length=Sf.length+1:=by rw [y9]; simp
    have oq:entAt Sm Sf.length kf=some ans0:=Za5l
    have ll:entAt Sm S.length k=some ans0:=Za5m
    have hR:Lf (H3 qF t).1=(H3 qF t).1.map fun q=>ceW (qF.rat q):=rfl;have sa:∀ cs,entAt (put Sm Sf.length ⟨kf,cs⟩) Sf.length kf=some cs:=fun cs=>Ai aA;have lm:∀ x,entAt (put Sm Sf.length x) S.length k=some ans0:=fun x=>by rw [Ah aA]; exact ll
    have sb:∀ x,FAq (put Sm Sf.length x) iq eq (Cl t.fl (H3 qF t).2):=fun x=>hTm.fa.put aA;have sc:=fun x=>Adt (put Sm Sf.length x) tkm km iq eq _ (sb x);have hPP:∀ x cs,entAt (put (put Sm Sf.length x) S.length ⟨k,cs⟩) S.length k=some cs:=fun x cs=>Ai dN;simp only [ans0] at oq ll lm tz;simp (maxSteps:=10^6)+contextual(disch:=try exact dqd)only[evg1,simprocAttr,Cd,Cb,Ce,ga34,Ap,Ar,yy,nw,gn,fd,tz,oq,sa,lm,sc,hPP,Eu,xfs];rw [hΦ];refine ⟨_,_,_,.nilc,cm,none,false,Za2q,by rw [Ix,Ao,Ao]; omega,fun j h1 h2=>?_,fun v hv=>by simp at hv,fun _=>⟨rfl,rfl⟩⟩;rw [Gc h1,Ad aA,Ad aA,hnm _ (mz _ aA h2),Bo aA,hnf _ (mz _ aA h2)];exact bc j h1 h2
   | true =>
    rw [hfe] at fd hS;rw [if_pos rfl] at hS;simp only [A2,Cg] at hS;obtain ⟨rfl,rfl⟩:=hS;obtain ⟨ans1,xg⟩:∃ ans1:List AV,ans1=[.prim (.bool true),.frz [] .nilc,.frz [] .nilc,.prim (.bool false),.frz [] .nilc,.prim (.bool false),.frz [] .nilc,.prim (.bool false)]:=⟨_,rfl⟩;obtain ⟨rm,tz,Sm,km,tkm,cm,rfl,y9,hTm,hnm⟩:=Asw (Sf++[(⟨kf,ans1⟩:Ent)]) tkb (kf+1) iq eq I t cc (hTf.app _) (by rw [hsz.1,hsz.2.1,p6.1,p6.2.1]; omega);have a05:Sm.length=Sf.length+1:=by rw [y9]; simp
    have oq:entAt Sm Sf.length kf=some ans1:=Za5l
    have ll:entAt Sm S.length k=some ans0:=Za5m
    have hR:Lf (E3 qF t).1=(E3 qF t).1.map fun q=>ceW (qF.rat q):=rfl;have sa:∀ cs,entAt (put Sm Sf.length ⟨kf,cs⟩) Sf.length kf=some cs:=fun cs=>Ai aA;have lm:∀ x,entAt (put Sm Sf.length x) S.length k=some ans0:=fun x=>by rw [Ah aA]; exact ll
    have sb:∀ x,FAq (put Sm Sf.length x) iq eq (Cl t.fl (E3 qF t).2):=fun x=>hTm.fa.put aA;have sc:=fun x=>Adt (put Sm Sf.length x) tkm km iq eq _ (sb x);have hPP:∀ x cs,entAt (put (put Sm Sf.length x) S.length ⟨k,cs⟩) S.length k=some cs:=fun x cs=>Ai dN;rw [xg] at oq tz;have a06:Kh BinOp.neq (Uo prog 79) true=some (.prim (.bool false)):=aL
    simp only [ans0] at ll lm;simp (maxSteps:=10^6)+contextual(disch:=try exact dqd)only[evg1,simprocAttr,Cd,Cb,Ce,ga34,Ap,Ar,yy,nw,gn,fd,tz,oq,sa,lm,sc,hPP,a06,Eu,xfs];rw [hΦ];refine ⟨_,_,_,cm,.nilc,none,false,Za2q,by rw [Ix,Ao,Ao]; omega,fun j h1 h2=>?_,fun v hv=>by simp at hv,fun _=>⟨rfl,rfl⟩⟩;rw [Gc h1,Ad aA,Ad aA,hnm _ (mz _ aA h2),Bo aA,hnf _ (mz _ aA h2)];exact bc j h1 h2):p:=h
namespace QQ
theorem Aqz:At28:=Ma28
end QQ
end
end
section
open Go
theorem J0 {f b:Bool} {p n:List Q} {c1 c2:Cap} {q:Option Q} : (ansC f p n c1 c2 q b).length=8:=by cases q <;> rfl
theorem Ys {f b:Bool} {p n:List Q} {c1 c2:Cap} {q:Option Q} : (ansC f p n c1 c2 q b).all leafOk=true:=by cases q <;> rfl
theorem Tn {e e':List AV} (h:e.length=e'.length):over e 0 e'=some e':=by
 have:=Qs (r:=[]) h;exact Ya15
end
section
open Go Tryz
open Go.Proofs.Tryz renaming func97->ga2,ntmps97->ga3,results97->ga4
open Go.Proofs.YtcandeobhlfkbaaGreat renaming ceW->ga0,Aq->ga1,Be->ga5,Bm->ga6
set_option maxRecDepth 100000
namespace WW
abbrev ua0:Nat:=89
abbrev ua1:Nat:=97
abbrev ua2:Nat:=4
abbrev ua3:Nat:=0
abbrev ua4:Nat:=0
end WW
set_option maxHeartbeats 4000000
set_option maxRecDepth 100000
namespace WW
def Aod (S:List Ent) (tk:List Nat) (ia ea iq eq:Nat) (l:List Q) (fl:Bool) (r:Rs):Prop :=
 ∃ S' k',r=(.tup [],S',tk,k')/\S'.length=S.length/\entAt S' ia ea=some (flat ceW l)/\FAq S' iq eq fl/\∀ j,j≠ia->j≠iq->nth S' j=nth S j
end WW
section
variable (S:List Ent) (tk:List Nat) (k iq eq:Nat) (fl:Bool)
namespace WW
theorem Ask:At0:=Ma0
end WW
end
end
section
open Go
open Go.Proofs.YtcandeobhlfkbaaGreat renaming ceW->ga0
set_option maxRecDepth 100000
namespace WW
structure A1 (S:List Ent) (iq eq:Nat) (I:TI) (t:Tb) (c:Cap):Prop where
 top:entAt S I.it I.et=some [.ifc 89 (rcvQ iq eq),intA t.vars,intA t.real,cq I.ir I.er 1 t.rows.length,.sref I.ic I.ec 0 t.cost.length 4,cq I.ib I.eb 1 t.rows.length,.frz (t.flip.map Dw) c]
 nids:I.ids.length=t.rows.length
 rowsE:t.rows≠[]->entAt S I.ir I.er=some (I.ids.map (fo t.cost.length 4))
 rowE:∀ i p r,nth I.ids i=some p->nth t.rows i=some r->entAt S p.1 p.2=some (flat ceW r)
 rowW:∀ r ∈ t.rows,r.length=t.cost.length
 costE:entAt S I.ic I.ec=some (flat ceW t.cost)
 basisE:t.rows≠[]->entAt S I.ib I.eb=some (t.basis.map intA)
 nb:t.basis.length=t.rows.length
 nf:t.flip.length=t.rows.length
 fa:FAq S iq eq t.fl
 ap:Apart I iq
 okr:∀ r ∈ t.rows,okL qF r
 okc:okL qF t.cost
 bigW:t.cost.length<=1000000
 bigM:t.rows.length<=1000000
 real:t.real<t.cost.length
 bB:∀ b ∈ t.basis,b<t.cost.length
end WW
section
variable {S S':List Ent} {iq eq:Nat} {I:TI} {t:Tb} {c:Cap}
namespace WW
theorem A1.row:At1:=fun {S S' iq eq I t c}=>Ma1
theorem A1.setCost:At2:=fun {S S' iq eq I t c}=>Ma2
theorem A1.setBasis:At3:=fun {S iq eq I t c}=>Ma3
theorem A1.flag:At4:=fun {S S' iq eq I t c}=>Ma4
theorem A1.app:At5:=fun {S iq eq I t c}=>Ma5
structure LowQ (I:TI) (iq n:Nat) (t:Tb):Prop where
 it:I.it<n
 ic:I.ic<n
 ir:t.rows≠[]->I.ir<n
 ib:t.rows≠[]->I.ib<n
 row:∀ p ∈ I.ids,p.1<n
 iq:True
theorem A1.low (h:A1 S iq eq I t c):LowQ I iq S.length t:=by
 refine ⟨A9 h.top,A9 h.costE,fun hn=>A9 (h.rowsE hn),fun hn=>A9 (h.basisE hn),fun p hp=>?_,trivial⟩;exact Yam
theorem A1.take:At6:=fun {S iq eq I t c}=>Ma6
theorem LowQ.of {n:Nat} {t':Tb} (h:LowQ I iq n t) (hn:t'.rows≠[]->t.rows≠[]):LowQ I iq n t':=⟨h.it,h.ic,fun h'=>h.ir (hn h'),fun h'=>h.ib (hn h'),h.row,h.iq⟩
theorem A1.frame:At7:=fun {S S' iq eq I t c}=>Ma7
def Yn (S:List Ent) (tk:List Nat) (iq eq:Nat) (I:TI) (t':Tb) (cc:Cap) (v:AV) (r:Rs):Prop :=
 ∃ S' k',r=(v,S',tk,k')/\S'.length=S.length/\A1 S' iq eq I t' cc/\∀ j,OutQ I iq j->nth S' j=nth S j
end WW
end
end
section
open Go Tryz
open Go.Proofs.Tryz renaming func94->ga7,ntmps94->ga8,results94->ga9
open Go.Proofs.YtcandeobhlfkbaaGreat renaming ceW->ga0,Aq->ga1,Be->ga5,Bm->ga6
set_option maxRecDepth 100000
namespace WW
abbrev ua5:Nat:=94
end WW
set_option maxHeartbeats 8000000
set_option maxRecDepth 100000
section
variable (S:List Ent) (tk:List Nat) (k iq eq:Nat)
namespace WW
theorem Asu:At8:=Ma8
end WW
end
end
section
open Go Tryz
open Go.Proofs.Tryz renaming func93->ga10,ntmps93->ga11,results93->ga12
open Go.Proofs.YtcandeobhlfkbaaGreat renaming ceW->ga0,Aq->ga1,Be->ga5,Bm->ga6
set_option maxRecDepth 100000
namespace WW
abbrev ua6:Nat:=93
end WW
set_option maxHeartbeats 8000000
set_option maxRecDepth 100000
section
variable (S:List Ent) (tk:List Nat) (k iq eq:Nat)
namespace WW
theorem Am5:At9:=Ma9
end WW
end
end
section
open Go Tryz
open Go.Proofs.Tryz renaming func68->ga13,ntmps68->ga14,results68->ga15
open Go.Proofs.YtcandeobhlfkbaaGreat renaming ceW->ga0,Aq->ga1
set_option maxRecDepth 100000
namespace WW
abbrev ua7:Nat:=68
end WW
set_option maxHeartbeats 8000000
set_option maxRecDepth 100000
section
variable (S:List Ent) (tk:List Nat) (k iq eq:Nat)
namespace WW
theorem Amr:At10:=Ma10
end WW
end
end
section
open Go Tryz
open Go.Proofs.Tryz renaming func69->ga16,ntmps69->ga17,results69->ga18,func95->ga19,ntmps95->ga20,results95->ga21
open Go.Proofs.YtcandeobhlfkbaaGreat renaming ceW->ga0,Aq->ga1,Be->ga5
set_option maxRecDepth 100000
namespace WW
abbrev ua8:Nat:=69
abbrev ua9:Nat:=95
end WW
set_option maxHeartbeats 4000000
set_option maxRecDepth 100000
namespace WW
def Aq9 (S:List Ent) (tk:List Nat) (iq eq:Nat) (y:Q × Bool) (r:Rs):Prop:=∃ k',r=(.agg (ceW y.1),flS S iq eq y.2,tk,k')
end WW
section
variable (S:List Ent) (tk:List Nat) (k iq eq:Nat)
namespace WW
theorem Ai4:At11:=Ma11
theorem Ain:At12:=Ma12
end WW
end
end
section
open Go
set_option maxRecDepth 100000
namespace WW
theorem Es (n:Int) (hn:i64 n):qF.ok (qF.whole n).1:=Dh.whole n hn
theorem Ail:At13:=fun {S iq eq I t cc c}=>Ma13
end WW
end
section
open Go Tryz
open Go.Proofs.Tryz renaming func71->ga22,ntmps71->ga23,results71->ga24,func70->ga25,ntmps70->ga26,results70->ga27
open Go.Proofs.YtcandeobhlfkbaaGreat renaming ceW->ga0,Aq->ga1,Be->ga5,Bm->ga6
set_option maxRecDepth 100000
namespace WW
abbrev ua10:Nat:=71
abbrev ua11:Nat:=0
abbrev ua12:Nat:=70
end WW
set_option maxHeartbeats 8000000
set_option maxRecDepth 100000
namespace WW
def Lf (l:List Q):List (List AV):=l.map fun q=>ceW (qF.rat q)
theorem Aeq (l:List Q):B9 4 (Lf l)=true:=Za1b
def Alt (S:List Ent) (iq eq:Nat) (I:TI) (t':Tb) (cc:Cap) (l:List Q) (r:Rs):Prop :=
 ∃ S' k' tk' c,r=(.frz (Lf l) c,S',tk',k')/\S'.length=S.length/\A1 S' iq eq I t' cc/\∀ j,OutQ I iq j->nth S' j=nth S j
end WW
section
variable (S:List Ent) (tk:List Nat) (k iq eq:Nat)
namespace WW
theorem Asw:At14:=Ma14
theorem Aad:At15:=Ma15
end WW
end
end
section
open Go
open Go.Proofs.YtcandeobhlfkbaaGreat renaming ceW->ga0
set_option maxRecDepth 100000
namespace WW
theorem A1.add:At16:=fun {S S' iq eq I t c c' ir er ib eb id nr b f fl' row}=>Ma16
structure Gk (S SS:List Ent) (iq eq:Nat) (I:TI) (t:Tb) (cp:Cap) (L nz n15 n16 n19:Nat) (z:Q) (r:RowT) (row:List Q) (u:Q):Prop where
 T:A1 SS iq eq I t cp
 low:LowQ I iq L t
 Z:entAt SS (S.length+1) nz=some (ceW z)
 E15:entAt SS L n15=some (rowC r)
 E16:entAt SS (L+1) n16=some (flat ceW row)
 E19:entAt SS (L+2) n19=some (ceW u)
 len:SS.length=L+3
 fr:∀ j,j<S.length->j≠iq->nth SS j=nth S j
 qL:iq<S.length
 SL:S.length+3<=L
 ic:I.ic=S.length+2
end WW
section
variable {S SS S':List Ent} {iq eq:Nat} {I:TI} {t:Tb} {cp:Cap} {L nz n15 n16 n19:Nat} {z u:Q} {r:RowT} {row:List Q}
namespace WW
theorem Gk.flag:At17:=fun {S SS S' iq eq I t cp L nz n15 n16 n19 z u r row fl'}=>Ma17
theorem Gk.put:At18:=fun {S SS iq eq I t cp L nz n15 n16 n19 z u r row}=>Ma18
theorem Gk.unit:At19:=fun {S SS iq eq I t cp L nz n15 n16 n19 z u r row}=>Ma19
theorem Gk.cost:At20:=fun {S SS iq eq I t cp L nz n15 n16 n19 z u r row k'}=>Ma20
end WW
end
end
section
open Go
namespace WW
def Ahc (S:List Ent) (l:List RowT) (vars:List ByteArray) (fl:Bool) (k iq eq c W nz:Nat) (z:Q) (i:Nat) (st:St):Prop :=
 ∃ sl t1 I cp,i<=l.length/\Bq qF l vars fl=begS qF z vars c W (l.drop i) i sl t1/\A1 st.S iq eq I t1 cp/\t1.rows.length=i/\t1.cost.length=W/\t1.real=c/\t1.vars=vars.length/\sl+neqs (l.drop i)=c/\Bd st.tk cp 1=true/\entAt st.S (S.length+1) nz=some (ceW z)/\S.length+3<=st.S.length/\(∀ j,j<S.length->j≠iq->nth st.S j=nth S j)/\(I.it=S.length/\I.et=k/\I.ic=S.length+2)/\(S.length+2<I.ir/\S.length+2<I.ib/\∀ p ∈ I.ids,S.length+2<p.1) /\
  st.T.length=270/\getT st.T 0=.ifc 89 (rcvQ iq eq)/\getT st.T 1=.frz (l.map rowC) .unk/\getT st.T 2=.frz (vars.map strC) .unk/\getT st.T 7=.ref S.length k 0/\getT st.T 10=.int (sl:Nat)/\getT st.T 11=.int (W:Nat)/\getT st.T 12=.ref (S.length+1) nz 0/\getT st.T 83=.frz (l.map rowC) .unk/\getT st.T 84=.int (l.length:Nat)/\getT st.T 85=.int (i:Nat)
end WW
end
end Go.Proofs.YtcandeobhlfkbaaGreat
