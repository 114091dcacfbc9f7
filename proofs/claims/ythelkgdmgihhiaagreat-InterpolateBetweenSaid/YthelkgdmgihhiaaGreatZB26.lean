/- Part 26. -/
import Derived.Test.YthelkgdmgihhiaaGreatZB25
open Bool renaming or->Ck,or_false->Fs,or_assoc->F7,false_or->I5,false_ne_true->Nz
open Go.IntKind renaming i64->Ce
open Go.Proofs.YthelkgdmgihhiaaGreat.AV renaming bool->Ca,int->Cc,str->Cd
open List renaming replicate->Cg,length_cons->Cm,map_cons->Cn,cons_append->Cp,length_append->Cs,map_nil->Ct,getElem?_append_left->Cu,mem_append->Cw,nil_append->Cz,getElem?_append_right->C3,all_eq_true->C4,mem_cons->C6,length_nil->C7,take_of_length_le->Dc,getElem?_eq_none->Et,length_eq_zero_iff->Fc,mem_map->Fg,append_assoc->Fh,getElem?_eq_some_iff->Fk,append_nil->Fp,drop_eq_nil_of_le->Fx,mem_singleton->F0,getElem?_map->F1,take_length->F2,map_append->F6,length_map->F8,length_take->Im,mem_of_getElem?->Iq,mem_replicate->Iu,replicate_succ->Iw,getElem?_cons_zero->M2,length_pos_iff->Oe,map_map->Ol,take->Oq,length_replicate->Oy,getElem?_of_mem->Sv,singleton_append->fZ,map_replicate->iE,replicate_succ'->jH,drop->jW
open Nat renaming le_refl->Cf,zero_le->Cl,mul_one->Fa,zero_add->Fo,add_zero->Io,sub_self->Mg,eq_zero_or_pos->Vo
open Ne renaming symm->O3
open Option renaming bind_some->Oo
open Option.some renaming injEq->A3
open Prod.mk renaming injEq->Ch
namespace Go.Proofs.YthelkgdmgihhiaaGreat
section
open Go Go.Proofs.Tryz
open Go.Proofs.Tryz renaming f115->ga28,results115->ga29
open Go.Proofs.YthelkgdmgihhiaaGreat renaming ceQ->ga0,Aw->ga1,Bx->ga5,A1->ga6
set_option maxRecDepth 100000
namespace QQ
abbrev ua13:Nat:=177
end QQ
set_option maxHeartbeats 20000000
set_option maxRecDepth 100000
section
variable (S:List Ent) (l:List RowT) (vars:List ByteArray) (fl:Bool) (k iq eq c W nz:Nat) (z:Q)
abbrev Ay21 (p:Prop:=by exact ∀ (S:List Ent)(l:List RowT)(vars:List ByteArray)(fl:Bool)(k iq eq c W nz:Nat)(z:Q)(hB:BegC S l vars iq c W)(Φ:Rs->Prop)(i:Nat)(bh:i<l.length)(r:RowT)(hr:nth l i=some r)(sl2:Nat)(j0:sl2+neqs (l.drop (i+1))=c)(t1:Tb)(I:TI)(cp:Cap)(tk:List Nat)(gh:t1.rows.length=i)(hcl:t1.cost.length=W)(du:t1.real=c)(jk:t1.vars=vars.length)(ae:Be tk cp 1=true)(bl:I.it=S.length/\I.et=k/\I.ic=S.length+2)(jl:S.length+2<I.ir/\S.length+2<I.ib/\∀ p ∈ I.ids,S.length+2<p.1)(rowZ:List Q)(fr:Bool)(pe:rowZ.length=W)(orowZ:okL qF rowZ)(L m0 nu:Nat)(u:Q × Bool)(fb:Bool)(jm:fb=Dm r)(SZ:List Ent)(n7 lv:Nat)(mc:G1 S SZ iq eq I { t1 with fl:=Ck t1.fl fr } cp L nz m0 (m0+1) nu z r rowZ u.1)(hR:Bl qF l vars fl=begS qF z vars c W (l.drop (i+1)) (i+1) sl2 { t1 with rows:=t1.rows++[rowZ],cost:=(costL qF c W 0 t1.cost rowZ).1,basis:=t1.basis++[c+i],flip:=t1.flip++[fb],fl:=Ck (Ck t1.fl fr) (costL qF c W 0 t1.cost rowZ).2 })(back:∀ st,Ajq S l vars fl k iq eq c W nz z (i+1) st->Gd finM Φ (KA prog ga28 18 [] st))(T:List AV)(hT:T.length=270)(e0:getT T 0=.ifc ua0 (rcvQ iq eq))(e1:getT T 1=.frz (l.map rowC) .unk)(e2:getT T 2=.frz (vars.map strC) .unk)(e7:getT T 7=.ref S.length k 0)(e10:getT T 10=.int (sl2:Nat))(e11:getT T 11=.int (W:Nat))(e12:getT T 12=.ref (S.length+1) nz 0)(e14:getT T 14=.int (i:Nat))(e15:getT T 15=.ref L m0 0)(e16:getT T 16=.sref (L+1) (m0+1) 0 W ua2)(e18:getT T 18=.prim (.bool fb))(e19:getT T 19=.ref (L+2) nu 0)(e83:getT T 83=.frz (l.map rowC) .unk)(e84:getT T 84=.int (l.length:Nat))(e85:getT T 85=.int (i:Nat))(e194:getT T 194=.int (W:Nat))(e195:getT T 195=.int ((0:Nat):Int)),Gd finM Φ (KA prog ga28 43 [lv] ⟨T,SZ,tk,n7⟩)):=p
theorem Ma21 {p:Prop} (h:p:=by
 intro S l vars fl k iq eq c W nz z hB Φ i bh r hr sl2 j0 t1 I cp tk gh hcl du jk ae bl jl rowZ fr pe orowZ L m0 nu u fb jm SZ n7 lv mc hR back T hT e0 e1 e2 e7 e10 e11 e12 e14 e15 e16 e18 e19 e83 e84 e85 e194 e195;obtain ⟨hl,nw,hv,hc,fj,oc,pp,wd⟩:=hB;have ub:=Nj l;have se:Ce.wrap ((W:Int) - 1)=((W - 1:Nat):Int):=aP
 have jh:W - 1<W:=aA
 have j1:Ce.wrap ((c:Int)+(i:Int))=((c+i:Nat):Int):=aY
 have zi:Ce.wrap ((i:Int)+1)=((i+1:Nat):Int):=aY
 have uz:c+i<W:=aA
 refine Ahv rfl (t:=.mk) ?_;refine Gm (P:=prog) (fun x st=>st.T.length=270/\(costL qF c W 0 t1.cost rowZ=(x.2.2.1++(costL qF c W x.2.2.1.length x.2.2.2.1 (rowZ.drop x.2.2.1.length)).1,Ck x.2.2.2.2 (costL qF c W x.2.2.1.length x.2.2.2.1 (rowZ.drop x.2.2.1.length)).2))/\(x.2.2.1.length+x.2.2.2.1.length=W)/\(G1 S x.1 iq eq I { t1 with cost:=x.2.2.1++x.2.2.2.1,fl:=Ck (Ck t1.fl fr) x.2.2.2.2 } cp L nz m0 (m0+1) nu z r rowZ u.1)/\getT st.T 0=.ifc ua0 (rcvQ iq eq)/\getT st.T 1=.frz (l.map rowC) .unk/\getT st.T 2=.frz (vars.map strC) .unk/\getT st.T 7=.ref S.length k 0/\getT st.T 10=.int (sl2:Nat)/\getT st.T 11=.int (W:Nat)/\getT st.T 12=.ref (S.length+1) nz 0/\getT st.T 14=.int (i:Nat)/\getT st.T 15=.ref L m0 0/\getT st.T 16=.sref (L+1) (m0+1) 0 W ua2/\getT st.T 18=.prim (.bool fb)/\getT st.T 19=.ref (L+2) nu 0/\getT st.T 83=.frz (l.map rowC) .unk/\getT st.T 84=.int (l.length:Nat)/\getT st.T 85=.int (i:Nat)/\getT st.T 194=.int (W:Nat)/\getT st.T 195=.int (x.2.2.1.length:Nat)/\st.S=x.1/\st.tk=tk/\st.n=x.2.1) (fun x=>x.2.2.2.1.length) (SZ,n7,([]:List Q),t1.cost,false) ?_ ?_;case refine_2=>exact ⟨aL,rfl,by simpa using hcl,by simp only [Cz,Fs]; exact mc,aL,aL,aL,aL,aL,aL,aL,aL,aL,aL,aL,aL,aL,aL,aL,aL,aL,aL,aL,aL⟩
 rintro ⟨SS,n1,p,v,fq⟩ ⟨T,S',tk',n'⟩ ⟨hl,kr,qf,ah,e0,e1,e2,e7,e10,e11,e12,e14,e15,e16,e18,e19,e83,e84,e85,e194,e195,eS,eT,eN⟩ IH;simp only at kr qf ah e0 e1 e2 e7 e10 e11 e12 e14 e15 e16 e18 e19 e83 e84 e85 e194 e195 eS eT eN;subst eS eT eN;obtain ⟨g,hg,hT⟩:=Ao hl;rw [hg] at e0 e1 e2 e7 e10 e11 e12 e14 e15 e16 e18 e19 e83 e84 e85 e194 e195;subst hT;clear hg hl;have iv:(p++v).length=W:=by simpa using qf
 have kt:=ah.T.top;simp only [bl.1,bl.2.1,bl.2.2,iv,du,jk,gh,intA] at kt;by_cases hpW:p.length<W
 ·have c2:decide ((p.length:Int)<(W:Int))=true:=by simpa using hpW
  obtain ⟨a0,v,rfl⟩:∃ a0 v',v=a0 :: v':=by
   cases v with
   | nil=>simp at qf; omega
   | cons x v=>exact ⟨x,v,rfl⟩
  obtain ⟨r0,ci⟩:=Ab (show p.length<rowZ.length by omega);have g8:=Au ci;have oa0:qF.ok a0:=ah.T.okc a0 (by simp);have or0:qF.ok r0:=orowZ r0 (Ak ci);have hw:Ce.wrap ((p.length:Int)+1)=(((p++[a0]).length:Nat):Int):=bU
  have xq:v.length<(a0 :: v).length:=by simp
  have hlp:∀ a:Q,(p++[a]).length=p.length+1:=fun a=>by simp
  rw [g8] at kr;simp only [costL] at kr;by_cases ul:p.length<c
  ·have c6:decide ((p.length:Int)<(c:Int))=true:=by simpa using ul
   have ag:Jw qF c W p.length a0 r0=qF.minus a0 r0:=by unfold Jw; rw [if_pos (Or.inl ul)]
   have c7:=c6;have c7b:=c6;exact Ya4
  ·have c6:decide ((p.length:Int)<(c:Int))=false:=by simpa using ul
   by_cases ck:p.length=W - 1
   ·have c7:decide ((p.length:Int)=((W - 1:Nat):Int))=true:=by exact decide_eq_true aA
    have c7b:((p.length:Int) == ((W - 1:Nat):Int))=true:=by exact decide_eq_true aA
    have ag:Jw qF c W p.length a0 r0=qF.minus a0 r0:=by unfold Jw; rw [if_pos (Or.inr ck)]
    exact Ya4
   ·have yk:¬ ((p.length:Int)=((W - 1:Nat):Int)):=fun h=>ck aA;have c7:decide ((p.length:Int)=((W - 1:Nat):Int))=false:=by simpa using yk
    have c7b:((p.length:Int) == ((W - 1:Nat):Int))=false:=by simpa using yk
    have ag:Jw qF c W p.length a0 r0=(a0,false):=by unfold Jw; rw [if_neg aA]
    rw [ag] at kr;simp (maxSteps:=10^6)+contextual(disch:=try exact dqd)only[evg1,simprocAttr,Cc,Ca,Cd,ga29,e0,e1,e2,e7,e10,e11,e12,e14,e15,e16,e18,e19,e83,e84,e85,e194,e195,c2,c6,c7,c7b,hw,se,kt];exact IH (S',n',p++[a0],v,fq) _ aF ⟨rfl,by rw [kr,hlp]; simp only [Fh,Cp,Cz,I5],by show (p++[a0]).length+v.length=W; simp only [Cs,Cm,C7] at qf ⊢; omega,by simpa using ah,cC⟩
 ·have c2:decide ((p.length:Int)<(W:Int))=false:=by simpa using hpW
  have a09:v=[]:=Fc.1 aA;subst a09;simp only [costL,Fp,Fs] at kr ah iv kt;rw [kr] at hR;simp only at hR;clear IH kr;obtain ⟨m7,hm7⟩:∃ m7,m7=n':=⟨_,rfl⟩;subst hm7;obtain ⟨SW,hSW⟩:∃ SW,SW=S':=⟨_,rfl⟩;subst hSW;have hlW:=ah.len;have hSL:=ah.SL;have hqL:=ah.qL;have q7:(t1.flip.map Dx).length+1<=1048576:=by rw [F8,ah.T.nf]; simp only; omega
  have zj:Dz 1 (t1.flip.map Dx)=true:=by
   unfold Dz;rw [C4];intro e he;obtain ⟨b,-,rfl⟩:=Fg.1 he;rfl
  have bo:=apB_one (y:=[.prim (.bool fb)]) ae zj rfl q7;have ff:=Bw ae;have yl:(t1.flip++[fb]).map Dx=t1.flip.map Dx++[[.prim (.bool fb)]]:=by simp [Dx]
  rcases Vo i with ku|ku
  ·rw [ku] at kt;simp only [dq] at kt;have hlS:S.length<SW.length:=aA
   have hP:∀ e x:Ent,put (SW++[e]) S.length x=put SW S.length x++[e]:=fun e x=>Du hlS;have hQ:∀ y e x:Ent,put (put SW S.length y++[e]) S.length x=put SW S.length x++[e]:=fun y e x=>by rw [Du (by rw [Am]; exact hlS),Pq]
   have zw:∀ y e e' x:Ent,put (put SW S.length y++[e]++[e']) S.length x=put SW S.length x++[e]++[e']:=fun y e e' x=>by rw [Du (by rw [Cs,Am]; omega),hQ]
   have hE:∀ cs,entAt (put SW S.length ⟨k,cs⟩) S.length k=some cs:=fun cs=>Ai hlS;have hEa:∀ cs e,entAt (put SW S.length ⟨k,cs⟩++[e]) S.length k=some cs:=fun cs e=>Ad (hE cs);have hEb:∀ cs e e',entAt (put SW S.length ⟨k,cs⟩++[e]++[e']) S.length k=some cs:=fun cs e e'=>Ad (hEa cs e);have uj:∀ e,entAt (SW++[e]) S.length k=_:=fun e=>Ad kt;have vj:∀ y e:Ent,(put SW S.length y++[e]).length=L+4:=fun y e=>by rw [Cs,Am,hlW]; rfl
   have sj:∀ S n,apO prog ua13 (.frz [] .nilc) (.lit 1 [.sref (L+1) (m0+1) 0 W ua2]) S n=some (.sref S.length n 0 1 1,S++[⟨n,[.sref (L+1) (m0+1) 0 W ua2]⟩],n+1):=fun S n=>Akd aJ rfl;have sk:∀ (c:Cap) x S n,apO prog 58 (.frz [] .nilc) (.frz [[.prim (.int .i64 x)]] c) S n=some (.sref S.length n 0 1 1,S++[⟨n,[.prim (.int .i64 x)]⟩],n+1):=fun c x S n=>Akc aJ rfl;simp (maxSteps:=10^6)+contextual(disch:=try exact dqd)only[evg1,simprocAttr,Cc,Ca,Cd,ga29,e0,e1,e2,e7,e10,e11,e12,e14,e15,e16,e18,e19,e83,e84,e85,e194,e195,c2,kt,uj,j1,zi,bo,sj,sk,R2,hP,hQ,zw,hE,hEa,hEb,vj,hlW];have hne:0<i->t1.rows≠[]:=fun h=>aA
   have jj:I.ids=[]:=Fc.1 (by rw [ah.T.nids]; simp only; omega);have sd:t1.basis=[]:=Fc.1 (by have:=ah.T.nb; simp only at this; omega);obtain ⟨SF,j3⟩:∃ SF,SF=put SW S.length ⟨k,[.ifc ua0 (rcvQ iq eq),.int (vars.length:Nat),.int (c:Nat),.sref (L+3) m7 0 1 1,.sref (S.length+2) I.ec 0 W ua2,.sref (L+4) (m7+1) 0 1 1,.frz (t1.flip.map Dx++[[.prim (.bool fb)]]) (A4 tk' cp 1)]⟩++[⟨m7,[.sref (L+1) (m0+1) 0 W ua2]⟩]++[⟨m7+1,[.prim (.int .i64 ((c+i:Nat):Int))]⟩]:=⟨_,rfl⟩;rw [<- j3];have ue:(put SW S.length ⟨k,[.ifc ua0 (rcvQ iq eq),.int (vars.length:Nat),.int (c:Nat),.sref (L+3) m7 0 1 1,.sref (S.length+2) I.ec 0 W ua2,.sref (L+4) (m7+1) 0 1 1,.frz (t1.flip.map Dx++[[.prim (.bool fb)]]) (A4 tk' cp 1)]⟩).length=L+3:=by rw [Am,hlW]
   have htF:entAt SF S.length k=some [.ifc ua0 (rcvQ iq eq),.int (vars.length:Nat),.int (c:Nat),.sref (L+3) m7 0 (i+1) 1,.sref (S.length+2) I.ec 0 W ua2,.sref (L+4) (m7+1) 0 (i+1) 1,.frz (t1.flip.map Dx++[[.prim (.bool fb)]]) (A4 tk' cp 1)]:=by rw [j3,hEb,ku]
   have hrF:entAt SF (L+3) m7=some ((I.ids++[(L+1,m0+1)]).map (g8 W ua2)):=by rw [j3,jj]; exact Ad (Al ue)
   have hbF:entAt SF (L+4) (m7+1)=some ((t1.basis++[c+i]).map intA):=by rw [j3,sd]; exact Al (by rw [Cs,ue]; rfl)
   have j4:∀ j,j<L+3->j≠S.length->(0<i->j≠I.ir/\j≠I.ib)->nth SF j=nth SW j:=fun j h1 h2 _=>by
    rw [j3,Bv (by rw [Cs,ue]; omega),Bv (by rw [ue]; exact h1),Af (O3 h2)]
   have hlF:SF.length=L+5:=by rw [j3,Cs,Cs,ue]; rfl
   have hIR:S.length+2<L+3:=aA
   have hIB:S.length+2<L+4:=aA
   have hAp:Apart ⟨I.it,I.et,L+3,m7,I.ic,I.ec,L+4,m7+1,I.ids++[(L+1,m0+1)]⟩ iq:=by
    rw [jj];constructor <;> first|(simp only; omega)|skip
    ·intro q hq;simp only [Cz,F0] at hq;subst hq;simp only;exact ⟨aA,aA,aA,aA,aA⟩
    ·intro a b x y hx hy hab;have h1:=A8 hx;have h2:=A8 hy;simp only [Cz,Cm,C7] at h1 h2;omega
   have hRA:A2 SF iq eq ⟨I.it,I.et,(L+3),m7,I.ic,I.ec,(L+4),(m7+1),I.ids++[(L+1,m0+1)]⟩ { t1 with rows:=t1.rows++[rowZ],cost:=p,basis:=t1.basis++[c+i],flip:=t1.flip++[fb],fl:=Ck (Ck t1.fl fr) fq } (A4 tk' cp 1):=by
    exact Yab
   refine Rj rfl (back _ ⟨sl2,_,_,A4 tk' cp 1,aA,hR,hRA,by simp [gh],iv,du,jk,j0,ff,?_,?_,fun j h1 h2=>?_,⟨bl.1,bl.2.1,bl.2.2⟩,⟨hIR,hIB,fun q hq=>?_⟩,rfl,rfl,rfl,rfl,rfl,rfl,rfl,rfl,rfl,rfl,rfl⟩)
   ·exact Ya38
   ·show _<=SF.length;omega
   ·exact Ya39
   ·rcases Cw.1 hq with hq|hq
    ·exact jl.2.2 q hq
    ·simp only [F0] at hq; subst hq; simp only; omega
  ·rw [Bm ku,Bm ku] at kt;have hne:0<i->t1.rows≠[]:=fun h h0=>by rw [h0] at gh; simp only [C7] at gh; omega
   have hlS:S.length<SW.length:=aA
   have bo:=ah.T.ap;have a3f:I.ir<L:=ah.low.ir (hne ku);have a3g:I.ib<L:=ah.low.ib (hne ku);have hrb:=bo.rb;have nj:entAt SW I.ir I.er=some (I.ids.map (g8 W ua2)):=by have h:=ah.T.rowsE (hne ku); simp only [iv] at h; exact h
   have ve:entAt SW I.ib I.eb=some (t1.basis.map intA):=ah.T.basisE (hne ku);have jp:(I.ids.map (g8 W ua2)).length=i:=by rw [F8,ah.T.nids]; exact gh
   have wc:(t1.basis.map intA).length=i:=by rw [F8]; have:=ah.T.nb; simp only at this; omega
   obtain ⟨U1,ui⟩:∃ U1,U1=put SW I.ir ⟨m7,I.ids.map (g8 W ua2)++[.sref (L+1) (m0+1) 0 W ua2]⟩:=⟨_,rfl⟩;have hl1:U1.length=L+3:=by rw [ui,Am]; exact hlW
   have dj:entAt U1 S.length k=some [.ifc ua0 (rcvQ iq eq),.int (vars.length:Nat),.int (c:Nat),.sref I.ir I.er 0 i 1,.sref (S.length+2) I.ec 0 W ua2,.sref I.ib I.eb 0 i 1,.frz (t1.flip.map Dx) cp]:=by rw [ui,Ah aA]; exact kt
   obtain ⟨U2,vk⟩:∃ U2,U2=put U1 S.length ⟨k,[.ifc ua0 (rcvQ iq eq),.int (vars.length:Nat),.int (c:Nat),.sref I.ir m7 0 (i+1) 1,.sref (S.length+2) I.ec 0 W ua2,.sref I.ib I.eb 0 i 1,.frz (t1.flip.map Dx) cp]⟩:=⟨_,rfl⟩;have hl2:U2.length=L+3:=by rw [vk,Am]; exact hl1
   have l8:entAt U2 S.length k=some [.ifc ua0 (rcvQ iq eq),.int (vars.length:Nat),.int (c:Nat),.sref I.ir m7 0 (i+1) 1,.sref (S.length+2) I.ec 0 W ua2,.sref I.ib I.eb 0 i 1,.frz (t1.flip.map Dx) cp]:=by rw [vk]; exact Ai aA
   have hb2:entAt U2 I.ib I.eb=some (t1.basis.map intA):=by rw [vk,Ah aA,ui,Ah hrb]; exact ve
   obtain ⟨U3,vn⟩:∃ U3,U3=put U2 I.ib ⟨m7+1,t1.basis.map intA++[.prim (.int .i64 ((c+i:Nat):Int))]⟩:=⟨_,rfl⟩;have fg:U3.length=L+3:=by rw [vn,Am]; exact hl2
   have p9:entAt U3 S.length k=some [.ifc ua0 (rcvQ iq eq),.int (vars.length:Nat),.int (c:Nat),.sref I.ir m7 0 (i+1) 1,.sref (S.length+2) I.ec 0 W ua2,.sref I.ib I.eb 0 i 1,.frz (t1.flip.map Dx) cp]:=by rw [vn,Ah aA]; exact l8
   obtain ⟨U4,vp⟩:∃ U4,U4=put U3 S.length ⟨k,[.ifc ua0 (rcvQ iq eq),.int (vars.length:Nat),.int (c:Nat),.sref I.ir m7 0 (i+1) 1,.sref (S.length+2) I.ec 0 W ua2,.sref I.ib (m7+1) 0 (i+1) 1,.frz (t1.flip.map Dx) cp]⟩:=⟨_,rfl⟩;have oi:U4.length=L+3:=by rw [vp,Am]; exact fg
   have z8:entAt U4 S.length k=some [.ifc ua0 (rcvQ iq eq),.int (vars.length:Nat),.int (c:Nat),.sref I.ir m7 0 (i+1) 1,.sref (S.length+2) I.ec 0 W ua2,.sref I.ib (m7+1) 0 (i+1) 1,.frz (t1.flip.map Dx) cp]:=by rw [vp]; exact Ai aA
   obtain ⟨SF,j3⟩:∃ SF,SF=put U4 S.length ⟨k,[.ifc ua0 (rcvQ iq eq),.int (vars.length:Nat),.int (c:Nat),.sref I.ir m7 0 (i+1) 1,.sref (S.length+2) I.ec 0 W ua2,.sref I.ib (m7+1) 0 (i+1) 1,.frz (t1.flip.map Dx++[[.prim (.bool fb)]]) (A4 tk' cp 1)]⟩:=⟨_,rfl⟩;have hlF:SF.length=L+3:=by rw [j3,Am]; exact oi
   have a1a:=apB_one (y:=[.prim (.bool fb)]) ae zj rfl q7;have sj:apO prog ua13 (.sref I.ir I.er 0 i 1) (.lit 1 [.sref (L+1) (m0+1) 0 W ua2]) SW m7=some (.sref I.ir m7 0 (i+1) 1,U1,m7+1):=by rw [ui]; exact Afg aJ rfl nj jp ku aA
   have sk:∀ cc:Cap,apO prog 58 (.sref I.ib I.eb 0 i 1) (.frz [[.prim (.int .i64 ((c+i:Nat):Int))]] cc) U2 (m7+1)=some (.sref I.ib (m7+1) 0 (i+1) 1,U3,m7+1+1):=fun cc=>by rw [vn]; exact Aff aJ rfl hb2 wc ku aA
   have cz:=vk.symm;have vq:=vp.symm;have hs5:=j3.symm;simp (maxSteps:=10^6)+contextual(disch:=try exact dqd)only[evg1,simprocAttr,Cc,Ca,Cd,ga29,e0,e1,e2,e7,e10,e11,e12,e14,e15,e16,e18,e19,e83,e84,e85,e194,e195,c2,kt,j1,zi,a1a,sj,sk,R2,dj,l8,p9,z8,cz,vq,hs5];have htF:entAt SF S.length k=some [.ifc ua0 (rcvQ iq eq),.int (vars.length:Nat),.int (c:Nat),.sref I.ir m7 0 (i+1) 1,.sref (S.length+2) I.ec 0 W ua2,.sref I.ib (m7+1) 0 (i+1) 1,.frz (t1.flip.map Dx++[[.prim (.bool fb)]]) (A4 tk' cp 1)]:=by rw [j3]; exact Ai aA
   have hrF:entAt SF I.ir m7=some ((I.ids++[(L+1,m0+1)]).map (g8 W ua2)):=by
    rw [j3,Ah aA,vp,Ah aA,vn,Ah (O3 hrb),vk,Ah aA,ui,Ai aA];simp [g8]
   have hbF:entAt SF I.ib (m7+1)=some ((t1.basis++[c+i]).map intA):=by
    rw [j3,Ah aA,vp,Ah aA,vn,Ai aA];simp [intA]
   have j4:∀ j,j<L+3->j≠S.length->(0<i->j≠I.ir/\j≠I.ib)->nth SF j=nth SW j:=fun j h1 h2 h3=>by
    have h4:=h3 ku;rw [j3,Af (O3 h2),vp,Af (O3 h2),vn,Af (O3 h4.2),vk,Af (O3 h2),ui,Af (O3 h4.1)]
   have hIR:S.length+2<I.ir:=jl.1;have hIB:S.length+2<I.ib:=jl.2.1;have hAp:Apart ⟨I.it,I.et,I.ir,m7,I.ic,I.ec,I.ib,m7+1,I.ids++[(L+1,m0+1)]⟩ iq:=by
    refine ⟨bo.tr,bo.tc,bo.tb,bo.rc,bo.rb,bo.cb,bo.qt,bo.qr,bo.qc,bo.qb,fun q hq=>?_,fun a b x y hx hy hab=>?_⟩
    ·rcases Cw.1 hq with hq|hq
     ·exact bo.row q hq
     ·simp only [F0] at hq;subst hq;simp only;exact ⟨aA,aA,aA,aA,aA⟩
    ·have h1:=A8 hx;have h2:=A8 hy;rw [Cs] at h1 h2;simp only [Cm,C7] at h1 h2;rw [Ae] at hx hy;by_cases ha:a<I.ids.length
     ·rw [Cu ha,<- Ae] at hx;by_cases hb:b<I.ids.length
      ·rw [Cu hb,<- Ae] at hy;exact bo.rows a b x y hx hy hab
      ·have hb2:b=I.ids.length:=aA
       rw [hb2,C3 (Cf _),Mg] at hy;simp only [M2,A3] at hy;subst hy;have:=ah.low.row x (Ak hx);simp only; omega
     ·have ni:a=I.ids.length:=aA
      have hb:b<I.ids.length:=aA
      rw [ni,C3 (Cf _),Mg] at hx;simp only [M2,A3] at hx;subst hx;rw [Cu hb,<- Ae] at hy;have:=ah.low.row y (Ak hy);simp only; omega
   have hRA:A2 SF iq eq ⟨I.it,I.et,I.ir,m7,I.ic,I.ec,I.ib,(m7+1),I.ids++[(L+1,m0+1)]⟩ { t1 with rows:=t1.rows++[rowZ],cost:=p,basis:=t1.basis++[c+i],flip:=t1.flip++[fb],fl:=Ck (Ck t1.fl fr) fq } (A4 tk' cp 1):=by
    exact Yab
   refine Rj rfl (back _ ⟨sl2,_,_,A4 tk' cp 1,aA,hR,hRA,by simp [gh],iv,du,jk,j0,ff,?_,?_,fun j h1 h2=>?_,⟨bl.1,bl.2.1,bl.2.2⟩,⟨hIR,hIB,fun q hq=>?_⟩,rfl,rfl,rfl,rfl,rfl,rfl,rfl,rfl,rfl,rfl,rfl⟩)
   ·exact Ya38
   ·show _<=SF.length;omega
   ·exact Ya39
   ·rcases Cw.1 hq with hq|hq
    ·exact jl.2.2 q hq
    ·simp only [F0] at hq; subst hq; simp only; omega):p:=h
namespace QQ
theorem Awr:Ay21:=Ma21
end QQ
end
end
section
open Go Go.Proofs.Tryz
open Go.Proofs.Tryz renaming f115->ga28,results115->ga29
open Go.Proofs.YthelkgdmgihhiaaGreat renaming ceQ->ga0,Aw->ga1,Bx->ga5,A1->ga6
set_option maxRecDepth 100000
set_option maxHeartbeats 20000000
set_option maxRecDepth 100000
section
variable (S:List Ent) (l:List RowT) (vars:List ByteArray) (fl:Bool) (k iq eq c W nz:Nat) (z:Q)
abbrev Ay22 (p:Prop:=by exact ∀ (S:List Ent)(l:List RowT)(vars:List ByteArray)(fl:Bool)(k iq eq c W nz:Nat)(z:Q)(hB:BegC S l vars iq c W)(oz:qF.ok z)(Φ:Rs->Prop)(i:Nat)(bh:i<l.length)(r:RowT)(hr:nth l i=some r)(sl:Nat)(tx:sl+neqs (l.drop i)=c)(t1:Tb)(I:TI)(cp:Cap)(tk:List Nat)(gh:t1.rows.length=i)(hcl:t1.cost.length=W)(du:t1.real=c)(jk:t1.vars=vars.length)(ae:Be tk cp 1=true)(bl:I.it=S.length/\I.et=k/\I.ic=S.length+2)(jl:S.length+2<I.ir/\S.length+2<I.ib/\∀ p ∈ I.ids,S.length+2<p.1)(L m0 nu:Nat)(u:Q × Bool)(hU:Kc qF (Dm r)=u)(ou:qF.ok u.1)(SX:List Ent)(nx lv:Nat)(gi:G1 S SX iq eq I { t1 with fl:=Ck t1.fl u.2 } cp L nz m0 (m0+1) nu z r (Cg W z) u.1)(hR:Bl qF l vars fl=begS qF z vars c W (l.drop i) i sl t1)(back:∀ st,Ajq S l vars fl k iq eq c W nz z (i+1) st->Gd finM Φ (KA prog ga28 18 [] st))(T:List AV)(hT:T.length=270)(e0:getT T 0=.ifc ua0 (rcvQ iq eq))(e1:getT T 1=.frz (l.map rowC) .unk)(e2:getT T 2=.frz (vars.map strC) .unk)(e7:getT T 7=.ref S.length k 0)(e10:getT T 10=.int (sl:Nat))(e11:getT T 11=.int (W:Nat))(e12:getT T 12=.ref (S.length+1) nz 0)(e14:getT T 14=.int (i:Nat))(e15:getT T 15=.ref L m0 0)(e16:getT T 16=.sref (L+1) (m0+1) 0 W ua2)(e18:getT T 18=.prim (.bool (Dm r)))(e19:getT T 19=.ref (L+2) nu 0)(e83:getT T 83=.frz (l.map rowC) .unk)(e84:getT T 84=.int (l.length:Nat))(e85:getT T 85=.int (i:Nat))(e113:getT T 113=.frz (r.1.map coefC) .unk)(e114:getT T 114=.int (r.1.length:Nat))(e115:getT T 115=.int ((0:Nat):Int)),Gd finM Φ (KA prog ga28 31 [lv] ⟨T,SX,tk,nx⟩)):=p
theorem Ma22 {p:Prop} (h:p:=by
 intro S l vars fl k iq eq c W nz z hB oz Φ i bh r hr sl tx t1 I cp tk gh hcl du jk ae bl jl L m0 nu u hU ou SX nx lv gi hR back T hT e0 e1 e2 e7 e10 e11 e12 e14 e15 e16 e18 e19 e83 e84 e85 e113 e114 e115;have hB2:=hB;obtain ⟨hl,nw,hv,hc,fj,oc,pp,wd⟩:=hB2;have ub:=Nj l;have vr:r ∈ l:=Ak hr;have me:i64 r.2.1:=(hc r vr).1;refine Ahv rfl (t:=.mk) ?_;refine Gm (P:=prog) (fun x st=>st.T.length=270/\(x.2.2.1<=r.1.length)/\(coefsC qF u.1 z vars r.1 (Cg W z)=((coefsC qF u.1 z vars (r.1.drop x.2.2.1) x.2.2.2.1).1,Ck x.2.2.2.2 (coefsC qF u.1 z vars (r.1.drop x.2.2.1) x.2.2.2.1).2))/\(x.2.2.2.1.length=W)/\(okL qF x.2.2.2.1)/\(G1 S x.1 iq eq I { t1 with fl:=Ck (Ck t1.fl u.2) x.2.2.2.2 } cp L nz m0 (m0+1) nu z r x.2.2.2.1 u.1)/\getT st.T 0=.ifc ua0 (rcvQ iq eq)/\getT st.T 1=.frz (l.map rowC) .unk/\getT st.T 2=.frz (vars.map strC) .unk/\getT st.T 7=.ref S.length k 0/\getT st.T 10=.int (sl:Nat)/\getT st.T 11=.int (W:Nat)/\getT st.T 12=.ref (S.length+1) nz 0/\getT st.T 14=.int (i:Nat)/\getT st.T 15=.ref L m0 0/\getT st.T 16=.sref (L+1) (m0+1) 0 W ua2/\getT st.T 18=.prim (.bool (Dm r))/\getT st.T 19=.ref (L+2) nu 0/\getT st.T 83=.frz (l.map rowC) .unk/\getT st.T 84=.int (l.length:Nat)/\getT st.T 85=.int (i:Nat)/\getT st.T 113=.frz (r.1.map coefC) .unk/\getT st.T 114=.int (r.1.length:Nat)/\getT st.T 115=.int (x.2.2.1:Nat)/\st.S=x.1/\st.tk=tk/\st.n=x.2.1) (fun x=>r.1.length - x.2.2.1) (SX,nx,0,(Cg W z),false) ?_ ?_;case refine_2=>exact ⟨aL,Cl _,rfl,by simp,fun q hq=>by rw [Iu] at hq; rw [hq.2]; exact oz,by simp only [Fs]; exact gi,aL,aL,aL,aL,aL,aL,aL,aL,aL,aL,aL,aL,aL,aL,aL,aL,aL,aL,aL,aL,aL⟩
 rintro ⟨SS,n1,j,row,f1⟩ ⟨T,S',tk',n'⟩ ⟨hl,o8,qg,dy,orow,gi,e0,e1,e2,e7,e10,e11,e12,e14,e15,e16,e18,e19,e83,e84,e85,e113,e114,e115,eS,eT,eN⟩ IH;simp only at o8 qg dy orow gi e0 e1 e2 e7 e10 e11 e12 e14 e15 e16 e18 e19 e83 e84 e85 e113 e114 e115 eS eT eN;subst eS eT eN;obtain ⟨g,hg,hT⟩:=Ao hl;rw [hg] at e0 e1 e2 e7 e10 e11 e12 e14 e15 e16 e18 e19 e83 e84 e85 e113 e114 e115;subst hT;clear hg hl;have lw:=fj r vr;by_cases sa:j<r.1.length
 ·have c2:decide ((j:Int)<(r.1.length:Int))=true:=fQ
  have hw:Ce.wrap ((j:Int)+1)=((j+1:Nat):Int):=aY
  obtain ⟨ct,hct⟩:=Ab sa;have a1b:nth (r.1.map coefC) j=some [.prim (.string ct.1),.prim (.int .i64 ct.2)]:=by rw [Bj,hct]; rfl
  have ym:ct ∈ r.1:=Ak hct;have py:=Ma (hv r vr ct ym);obtain ⟨x,hx⟩:∃ x,x=idxV vars ct.1:=⟨_,rfl⟩;rw [<- hx] at py;have qh S tk k:=Xd S tk k vars ct.1 aA;simp only [py.1] at qh;have hb1:2*x<W:=aA
  have hb2:2*x+1<W:=aA
  have a1c:Ce.wrap (2*(x:Int))=((2*x:Nat):Int):=aY
  have a1d:Ce.wrap (((2*x:Nat):Int)+1)=((2*x+1:Nat):Int):=aY
  have qa:=Au hct;have hlX:=gi.len;have d9:=gi.T.fa;have yn:i64 ct.2:=(hc r vr).2 ct ym;obtain ⟨w,kq⟩:∃ w,w=qF.whole ct.2:=⟨_,rfl⟩;have ow:qF.ok w.1:=by rw [kq]; exact E3 _ yn
  have je:=Ly (S'++[(⟨n',[.prim (.string ct.1),.prim (.int .i64 ct.2)]⟩:Ent)]) tk' (n'+1) iq eq _ ct.2 yn d9.app;have hg1:=Es (c:=w.2) (d9.app (L:=[(⟨n',[.prim (.string ct.1),.prim (.int .i64 ct.2)]⟩:Ent)]));rw [<- kq] at je;rw [Hs d9] at je hg1;obtain ⟨S1a,md⟩:∃ S1a,S1a=flS S' iq eq w.2:=⟨_,rfl⟩;have j2:=gi.flag (S':=flS S' iq eq w.2) (fun j hj=>ga6 hj) Bi d9.fS;rw [<- md] at je hg1 j2;have jm:=j2.T.fa;obtain ⟨y,mf⟩:∃ y,y=qF.times u.1 w.1:=⟨_,rfl⟩;have oy:qF.ok y.1:=Za2c
  have kx:=Ahm (S1a++[(⟨n',[.prim (.string ct.1),.prim (.int .i64 ct.2)]⟩:Ent)]) tk' (n'+1+ua3) iq eq _ u.1 w.1 ou ow jm.app;have hg2:=Es (c:=y.2) (jm.app (L:=[(⟨n',[.prim (.string ct.1),.prim (.int .i64 ct.2)]⟩:Ent)]));rw [<- mf] at kx;rw [Hs jm] at kx hg2;obtain ⟨S2a,a1e⟩:∃ S2a,S2a=flS S1a iq eq y.2:=⟨_,rfl⟩;have gg:=j2.flag (S':=flS S1a iq eq y.2) (fun j hj=>ga6 hj) Bi jm.fS;rw [<- a1e] at kx hg2 gg;have ji:=gg.put (put row (2*x) y.1);obtain ⟨S3a,yo⟩:∃ S3a,S3a=put S2a (L+1) ⟨m0+1,flat ga0 (put row (2*x) y.1)⟩:=⟨_,rfl⟩;rw [<- yo] at ji;have a3h:=gg.len;have hP3:∀ e:Ent,put (S2a++[e]) (L+1) ⟨m0+1,flat ga0 (put row (2*x) y.1)⟩=S3a++[e]:=fun e=>by rw [Du aA,yo]
  have gj:=ji.T.fa;obtain ⟨d,ii⟩:∃ d,d=qF.minus z y.1:=⟨_,rfl⟩;have od:qF.ok d.1:=Za2d
  have dn:=M1 (S3a++[(⟨n',[.prim (.string ct.1),.prim (.int .i64 ct.2)]⟩:Ent)]) tk' (n'+1+ua3+ua4) iq eq _ z y.1 oz oy gj.app;have hg3:=Es (c:=d.2) (gj.app (L:=[(⟨n',[.prim (.string ct.1),.prim (.int .i64 ct.2)]⟩:Ent)]));rw [<- ii] at dn;rw [Hs gj] at dn hg3;obtain ⟨S4a,a1f⟩:∃ S4a,S4a=flS S3a iq eq d.2:=⟨_,rfl⟩;have hR4:=ji.flag (S':=flS S3a iq eq d.2) (fun j hj=>ga6 hj) Bi gj.fS;rw [<- a1f] at dn hg3 hR4;have a3i:=hR4.len;have mg:=hR4.put (put (put row (2*x) y.1) (2*x+1) d.1);obtain ⟨S5a,j5⟩:∃ S5a,S5a=put S4a (L+1) ⟨m0+1,flat ga0 (put (put row (2*x) y.1) (2*x+1) d.1)⟩:=⟨_,rfl⟩;rw [<- j5] at mg;have hP5:∀ e:Ent,put (S4a++[e]) (L+1) ⟨m0+1,flat ga0 (put (put row (2*x) y.1) (2*x+1) d.1)⟩=S5a++[e]:=fun e=>by rw [Du aA,j5]
  have hl5:=mg.len;have ma:∀ e:Ent,Oq S'.length (S5a++[e])=S5a:=fun e=>by rw [hlX,<- hl5]; simp
  have ye:∀ e:Ent,entAt (S'++[e]) (L+2) nu=some (ga0 u.1):=fun e=>Ad gi.E19;have vg:∀ e:Ent,entAt (S2a++[e]) (L+1) (m0+1)=some (flat ga0 row):=fun e=>Ad gg.E16;have hE3:∀ e:Ent,entAt (S3a++[e]) (S.length+1) nz=some (ga0 z):=fun e=>Ad ji.Z;have sb:∀ e:Ent,entAt (S3a++[e]) (L+1) (m0+1)=some (flat ga0 (put row (2*x) y.1)):=fun e=>Ad ji.E16;have sc:∀ e:Ent,entAt (S4a++[e]) (L+1) (m0+1)=some (flat ga0 (put row (2*x) y.1)):=fun e=>Ad hR4.E16;have gv:=Bf (ce:=ga0) ga1 (l:=row) (k:=2*x) (q':=y.1) aA;have np:=Bf (ce:=ga0) ga1 (l:=put row (2*x) y.1) (k:=2*x+1) (q':=d.1) (by rw [Aj]; omega);have htx:=Ax (ce:=ga0) ga1 (l:=put row (2*x) y.1) (k:=2*x) (q:=y.1) (Dt aA);simp (maxSteps:=10^6)+contextual(disch:=try exact dqd)only[evg1,simprocAttr,Cc,Ca,Cd,ga29,e0,e1,e2,e7,e10,e11,e12,e14,e15,e16,e18,e19,e83,e84,e85,e113,e114,e115,c2,hw,a1b,qh,a1c,a1d,hb1,hb2,je,hg1,kx,hg2,hP3,dn,hg3,hP5,ma,ye,vg,hE3,sb,sc,gv,np,htx,Ga,xfs,puQ,tkQ,ga1,ga5];have hsc:setC qF u.1 z (idxV vars ct.1) row ct.2=(put (put row (2*x) y.1) (2*x+1) d.1,Ck (Ck w.2 y.2) d.2):=by unfold setC; rw [<- hx,<- kq,<- mf,<- ii]
  rw [qa] at qg;simp only [coefsC,hsc] at qg;have orow2:okL qF (put (put row (2*x) y.1) (2*x+1) d.1):=by
   intro q hq;rcases Bu hq with rfl|hq
   ·exact od
   ·rcases Bu hq with rfl|hq
    ·exact oy
    ·exact orow q hq
  exact IH (S5a,n'+1+ua3+ua4+ua4,j+1,put (put row (2*x) y.1) (2*x+1) d.1,Ck f1 (Ck (Ck w.2 y.2) d.2)) _ aF ⟨rfl,aE,by rw [qg]; simp only [F7],by rw [Aj,Aj]; exact dy,orow2,by simpa only [F7] using mg,cC⟩
 ·have c2:decide ((j:Int)<(r.1.length:Int))=false:=fQ
  have hj0:r.1.drop j=[]:=Fx aA;rw [hj0] at qg;simp only [coefsC,Fs] at qg;clear IH hj0 sa o8;obtain ⟨n6,hn6⟩:∃ n6,n6=n':=⟨_,rfl⟩;subst hn6;obtain ⟨SU,hSU⟩:∃ SU,SU=S':=⟨_,rfl⟩;subst hSU;have yp:=Pm hr;have mh:=gi.E15;have qi:=gi.E19;have ek:=gi.E16;simp only [rowC,Ag] at mh;have hlU:=gi.len;cases heq:r.2.2
  ·rw [heq,if_neg Nz] at yp;have d6:sl<W:=aA
   have cz:=Bf (ce:=ga0) ga1 (l:=row) (k:=sl) (q':=u.1) aA;have n9:Ce.wrap ((sl:Int)+1)=((sl+1:Nat):Int):=aY
   have ah:=gi.put (put row sl u.1);obtain ⟨rowY,cl⟩:∃ rowY,rowY=put row sl u.1:=⟨_,rfl⟩;have hsF:P2 r.2.2 row sl u.1=rowY:=by rw [cl,heq]; rfl
   have sm:rowY.length=W:=by rw [cl,Aj]; exact dy
   have orowY:okL qF rowY:=by
    rw [cl];intro q hq;rcases Bu hq with rfl|hq
    ·exact ou
    ·exact orow q hq
   rw [<- cl] at cz ah;obtain ⟨SY,yq⟩:∃ SY,SY=put SU (L+1) ⟨m0+1,flat ga0 rowY⟩:=⟨_,rfl⟩;rw [<- yq] at ah;have vq:=yq.symm;obtain ⟨sl2,yr⟩:∃ sl2,sl2=sl+1:=⟨_,rfl⟩;have sn:(if r.2.2=true then sl else sl+1)=sl2:=by rw [heq,yr]; rfl
   have j0:sl2+neqs (l.drop (i+1))=c:=aA
   rw [<- yr] at n9;clear yq;have yt:=ah.T.top;simp only [bl.1,bl.2.1,bl.2.2,hcl,du,jk,gh,intA] at yt;have uz:c+i<W:=aA
   have j1:Ce.wrap ((c:Int)+(i:Int))=((c+i:Nat):Int):=aY
   have se:Ce.wrap ((W:Int) - 1)=((W - 1:Nat):Int):=aP
   have jh:W - 1<W:=aA
   have d9:=ah.T.fa;obtain ⟨o,nk⟩:∃ o,o=qF.whole 1:=⟨_,rfl⟩;have oo:qF.ok o.1:=by rw [nk]; exact E3 1 aD
   have su:=Ly SY tk' n6 iq eq _ 1 aD d9;have j8:=Es (c:=o.2) d9;rw [<- nk] at su;obtain ⟨S5a,j5⟩:∃ S5a,S5a=flS SY iq eq o.2:=⟨_,rfl⟩;have mg:=ah.flag (S':=flS SY iq eq o.2) (fun j hj=>ga6 hj) Bi d9.fS;rw [<- j5] at su j8 mg;have yu:=Bf (ce:=ga0) ga1 (l:=rowY) (k:=c+i) (q':=o.1) aA;have iw:=mg.put (put rowY (c+i) o.1);obtain ⟨row6,cn⟩:∃ row6,row6=put rowY (c+i) o.1:=⟨_,rfl⟩;have sv:row6.length=W:=by rw [cn,Aj]; exact sm
   obtain ⟨S6a,mi⟩:∃ S6a,S6a=put S5a (L+1) ⟨m0+1,flat ga0 row6⟩:=⟨_,rfl⟩;rw [<- cn] at yu iw;rw [<- mi] at iw;have mj:=mg.E16;have jm:=iw.T.fa;have hZ6:=iw.Z;have gm:=iw.E15;have ml:=iw.E19;simp only [rowC,Ag] at gm;obtain ⟨w,kq⟩:∃ w,w=qF.whole r.2.1:=⟨_,rfl⟩;have ow:qF.ok w.1:=by rw [kq]; exact E3 _ me
   have je:=Ly S6a tk' (n6+ua3) iq eq _ r.2.1 me jm;have hg1:=Es (c:=w.2) jm;rw [<- kq] at je;obtain ⟨S7a,sw⟩:∃ S7a,S7a=flS S6a iq eq w.2:=⟨_,rfl⟩;have sx:=iw.flag (S':=flS S6a iq eq w.2) (fun j hj=>ga6 hj) Bi jm.fS;rw [<- sw] at je hg1 sx;have gj:=sx.T.fa;obtain ⟨y,mf⟩:∃ y,y=qF.times u.1 w.1:=⟨_,rfl⟩;have oy:qF.ok y.1:=Za2c
   have kx:=Ahm S7a tk' (n6+ua3+ua3) iq eq _ u.1 w.1 ou ow gj;have hg2:=Es (c:=y.2) gj;rw [<- mf] at kx;obtain ⟨S8a,sy⟩:∃ S8a,S8a=flS S7a iq eq y.2:=⟨_,rfl⟩;have s5:=sx.flag (S':=flS S7a iq eq y.2) (fun j hj=>ga6 hj) Bi gj.fS;rw [<- sy] at kx hg2 s5;have s6:=s5.T.fa;obtain ⟨d,ii⟩:∃ d,d=qF.minus z y.1:=⟨_,rfl⟩;have od:qF.ok d.1:=Za2d
   have dn:=M1 S8a tk' (n6+ua3+ua3+ua4) iq eq _ z y.1 oz oy s6;have hg3:=Es (c:=d.2) s6;rw [<- ii] at dn;obtain ⟨S9a,s8⟩:∃ S9a,S9a=flS S8a iq eq d.2:=⟨_,rfl⟩;have s9:=s5.flag (S':=flS S8a iq eq d.2) (fun j hj=>ga6 hj) Bi s6.fS;rw [<- s8] at dn hg3 s9;have yv:=Bf (ce:=ga0) ga1 (l:=row6) (k:=W - 1) (q':=d.1) aA;have mn:=s9.E16;have ta:=s9.put (put row6 (W - 1) d.1);obtain ⟨rowZ,co⟩:∃ rowZ,rowZ=put row6 (W - 1) d.1:=⟨_,rfl⟩;have pe:rowZ.length=W:=by rw [co,Aj]; exact sv
   have orowZ:okL qF rowZ:=by
    exact Ya1i
   obtain ⟨SZ,yw⟩:∃ SZ,SZ=put S9a (L+1) ⟨m0+1,flat ga0 rowZ⟩:=⟨_,rfl⟩;rw [<- co] at yv ta;rw [<- yw] at ta;have ei:Uw qF u.1 z r.2.1=(d.1,Ck (Ck w.2 y.2) d.2):=by unfold Uw; rw [<- kq,<- mf,<- ii]
   have gn:rowF qF z vars c W i sl r=(rowZ,Ck (Ck (Ck u.2 f1) o.2) (Ck (Ck w.2 y.2) d.2)):=by
    unfold rowF;simp only [hU,qg,ei,hsF,<- nk,<- cn,<- co]
   obtain ⟨fr,mo⟩:∃ fr,fr=Ck (Ck (Ck u.2 f1) o.2) (Ck (Ck w.2 y.2) d.2):=⟨_,rfl⟩;rw [<- mo] at gn;have mc:G1 S SZ iq eq I { t1 with fl:=Ck t1.fl fr } cp L nz m0 (m0+1) nu z r rowZ u.1:=by
    rw [mo];simpa only [F7] using ta
   have td:=mi.symm;have te:=yw.symm;simp (maxSteps:=10^6)+contextual(disch:=try exact dqd)only[evg1,simprocAttr,Cc,Ca,Cd,ga29,e0,e1,e2,e7,e10,e11,e12,e14,e15,e16,e18,e19,e83,e84,e85,e113,e114,e115,c2,mh,qi,ek,heq,d6,cz,n9,vq,yt,uz,j1,se,jh,su,j8,yu,mj,td,hZ6,gm,ml,je,hg1,kx,hg2,dn,hg3,yv,mn,te,Ga,xfs,puQ,tkQ,ga1,ga5];have l9:begS qF z vars c W (l.drop i) i sl t1=begS qF z vars c W (l.drop (i+1)) (i+1) sl2 { t1 with rows:=t1.rows++[rowZ],cost:=(costL qF c W 0 t1.cost rowZ).1,basis:=t1.basis++[c+i],flip:=t1.flip++[Dm r],fl:=Ck (Ck t1.fl fr) (costL qF c W 0 t1.cost rowZ).2 }:=by
    rw [Au hr];simp only [begS,du];rw [gn,sn]
   rw [l9] at hR;exact Rj rfl (Awr S l vars fl k iq eq c W nz z hB Φ i bh r hr sl2 j0 t1 I cp tk' gh hcl du jk ae bl jl rowZ fr pe orowZ L m0 nu u (Dm r) rfl SZ _ _ mc hR back _ rfl rfl rfl rfl rfl rfl rfl rfl rfl rfl rfl rfl rfl rfl rfl rfl rfl rfl)
  ·rw [heq,if_pos rfl] at yp;have d6:0<W:=aA
   have cz:=d6;have n9:=d6;have vq:=d6;have ah:=gi;obtain ⟨rowY,cl⟩:∃ rowY,rowY=row:=⟨_,rfl⟩;have hsF:P2 r.2.2 row sl u.1=rowY:=by rw [cl,heq]; rfl
   have sm:rowY.length=W:=by rw [cl]; exact dy
   have orowY:okL qF rowY:=by rw [cl]; exact orow
   rw [<- cl] at ah;obtain ⟨SY,yq⟩:∃ SY,SY=SU:=⟨_,rfl⟩;subst yq;have sn:(if r.2.2=true then sl else sl+1)=sl:=by rw [heq]; rfl
   have j0:sl+neqs (l.drop (i+1))=c:=aA
   have yt:=ah.T.top;simp only [bl.1,bl.2.1,bl.2.2,hcl,du,jk,gh,intA] at yt;have uz:c+i<W:=aA
   have j1:Ce.wrap ((c:Int)+(i:Int))=((c+i:Nat):Int):=aY
   have se:Ce.wrap ((W:Int) - 1)=((W - 1:Nat):Int):=aP
   have jh:W - 1<W:=aA
   have d9:=ah.T.fa;obtain ⟨o,nk⟩:∃ o,o=qF.whole 1:=⟨_,rfl⟩;have oo:qF.ok o.1:=by rw [nk]; exact E3 1 aD
   have su:=Ly SY tk' n6 iq eq _ 1 aD d9;have j8:=Es (c:=o.2) d9;rw [<- nk] at su;obtain ⟨S5a,j5⟩:∃ S5a,S5a=flS SY iq eq o.2:=⟨_,rfl⟩;have mg:=ah.flag (S':=flS SY iq eq o.2) (fun j hj=>ga6 hj) Bi d9.fS;rw [<- j5] at su j8 mg;have yu:=Bf (ce:=ga0) ga1 (l:=rowY) (k:=c+i) (q':=o.1) aA;have iw:=mg.put (put rowY (c+i) o.1);obtain ⟨row6,cn⟩:∃ row6,row6=put rowY (c+i) o.1:=⟨_,rfl⟩;have sv:row6.length=W:=by rw [cn,Aj]; exact sm
   obtain ⟨S6a,mi⟩:∃ S6a,S6a=put S5a (L+1) ⟨m0+1,flat ga0 row6⟩:=⟨_,rfl⟩;rw [<- cn] at yu iw;rw [<- mi] at iw;have mj:=mg.E16;have jm:=iw.T.fa;have hZ6:=iw.Z;have gm:=iw.E15;have ml:=iw.E19;simp only [rowC,Ag] at gm;obtain ⟨w,kq⟩:∃ w,w=qF.whole r.2.1:=⟨_,rfl⟩;have ow:qF.ok w.1:=by rw [kq]; exact E3 _ me
   have je:=Ly S6a tk' (n6+ua3) iq eq _ r.2.1 me jm;have hg1:=Es (c:=w.2) jm;rw [<- kq] at je;obtain ⟨S7a,sw⟩:∃ S7a,S7a=flS S6a iq eq w.2:=⟨_,rfl⟩;have sx:=iw.flag (S':=flS S6a iq eq w.2) (fun j hj=>ga6 hj) Bi jm.fS;rw [<- sw] at je hg1 sx;have gj:=sx.T.fa;obtain ⟨y,mf⟩:∃ y,y=qF.times u.1 w.1:=⟨_,rfl⟩;have oy:qF.ok y.1:=Za2c
   have kx:=Ahm S7a tk' (n6+ua3+ua3) iq eq _ u.1 w.1 ou ow gj;have hg2:=Es (c:=y.2) gj;rw [<- mf] at kx;obtain ⟨S8a,sy⟩:∃ S8a,S8a=flS S7a iq eq y.2:=⟨_,rfl⟩;have s5:=sx.flag (S':=flS S7a iq eq y.2) (fun j hj=>ga6 hj) Bi gj.fS;rw [<- sy] at kx hg2 s5;have s6:=s5.T.fa;obtain ⟨d,ii⟩:∃ d,d=qF.minus z y.1:=⟨_,rfl⟩;have od:qF.ok d.1:=Za2d
   have dn:=M1 S8a tk' (n6+ua3+ua3+ua4) iq eq _ z y.1 oz oy s6;have hg3:=Es (c:=d.2) s6;rw [<- ii] at dn;obtain ⟨S9a,s8⟩:∃ S9a,S9a=flS S8a iq eq d.2:=⟨_,rfl⟩;have s9:=s5.flag (S':=flS S8a iq eq d.2) (fun j hj=>ga6 hj) Bi s6.fS;rw [<- s8] at dn hg3 s9;have yv:=Bf (ce:=ga0) ga1 (l:=row6) (k:=W - 1) (q':=d.1) aA;have mn:=s9.E16;have ta:=s9.put (put row6 (W - 1) d.1);obtain ⟨rowZ,co⟩:∃ rowZ,rowZ=put row6 (W - 1) d.1:=⟨_,rfl⟩;have pe:rowZ.length=W:=by rw [co,Aj]; exact sv
   have orowZ:okL qF rowZ:=by
    exact Ya1i
   obtain ⟨SZ,yw⟩:∃ SZ,SZ=put S9a (L+1) ⟨m0+1,flat ga0 rowZ⟩:=⟨_,rfl⟩;rw [<- co] at yv ta;rw [<- yw] at ta;have ei:Uw qF u.1 z r.2.1=(d.1,Ck (Ck w.2 y.2) d.2):=by unfold Uw; rw [<- kq,<- mf,<- ii]
   have gn:rowF qF z vars c W i sl r=(rowZ,Ck (Ck (Ck u.2 f1) o.2) (Ck (Ck w.2 y.2) d.2)):=by
    unfold rowF;simp only [hU,qg,ei,hsF,<- nk,<- cn,<- co]
   obtain ⟨fr,mo⟩:∃ fr,fr=Ck (Ck (Ck u.2 f1) o.2) (Ck (Ck w.2 y.2) d.2):=⟨_,rfl⟩;rw [<- mo] at gn;have mc:G1 S SZ iq eq I { t1 with fl:=Ck t1.fl fr } cp L nz m0 (m0+1) nu z r rowZ u.1:=by
    rw [mo];simpa only [F7] using ta
   have td:=mi.symm;have te:=yw.symm;simp (maxSteps:=10^6)+contextual(disch:=try exact dqd)only[evg1,simprocAttr,Cc,Ca,Cd,ga29,e0,e1,e2,e7,e10,e11,e12,e14,e15,e16,e18,e19,e83,e84,e85,e113,e114,e115,c2,mh,qi,ek,heq,d6,cz,n9,vq,yt,uz,j1,se,jh,su,j8,yu,mj,td,hZ6,gm,ml,je,hg1,kx,hg2,dn,hg3,yv,mn,te,Ga,xfs,puQ,tkQ,ga1,ga5];have l9:begS qF z vars c W (l.drop i) i sl t1=begS qF z vars c W (l.drop (i+1)) (i+1) sl { t1 with rows:=t1.rows++[rowZ],cost:=(costL qF c W 0 t1.cost rowZ).1,basis:=t1.basis++[c+i],flip:=t1.flip++[Dm r],fl:=Ck (Ck t1.fl fr) (costL qF c W 0 t1.cost rowZ).2 }:=by
    rw [Au hr];simp only [begS,du];rw [gn,sn]
   rw [l9] at hR;exact Rj rfl (Awr S l vars fl k iq eq c W nz z hB Φ i bh r hr sl j0 t1 I cp tk' gh hcl du jk ae bl jl rowZ fr pe orowZ L m0 nu u (Dm r) rfl SZ _ _ mc hR back _ rfl rfl rfl rfl rfl rfl rfl rfl rfl rfl rfl rfl rfl rfl rfl rfl rfl rfl)):p:=h
namespace QQ
theorem Awt:Ay22:=Ma22
end QQ
end
end
section
open Go Go.Proofs.Tryz
open Go.Proofs.Tryz renaming f115->ga28,results115->ga29,func115->ga30,ntmps115->ga31
open Go.Proofs.YthelkgdmgihhiaaGreat renaming ceQ->ga0,Aw->ga1,Bx->ga5,A1->ga6
set_option maxRecDepth 100000
namespace QQ
abbrev ua14:Nat:=115
end QQ
set_option maxHeartbeats 20000000
set_option maxRecDepth 100000
namespace QQ
def Nr (iq eq:Nat) (n real:Nat) (rows cost basis flip:AV):List AV:=[.ifc 118 (rcvQ iq eq),.int (n:Nat),.int (real:Nat),rows,cost,basis,flip]
end QQ
theorem Yp {a z:List AV} {j m:Nat} (h:j<m):nth (Cg j a++Cg (m - j) z) j=some z/\put (Cg j a++Cg (m - j) z) j a=Cg (j+1) a++Cg (m - (j+1)) z:=by
 have e:Cg (m - j) z=z :: Cg (m - (j+1)) z:=by rw [<- Iw]; congr 1; omega
 have hl:(Cg j a).length=j:=by simp
 rw [e];have h1:=Er (p:=Cg j a) (u:=Cg (m - (j+1)) z) (x:=z);have h2:=G8 (p:=Cg j a) (u:=Cg (m - (j+1)) z) (x:=z) (y:=a);rw [hl] at h1 h2;refine ⟨h1,?_⟩;rw [h2,jH];simp
theorem Ub {sz:Nat} {a z:List AV} {j m:Nat} (h:j<m) (ha:a.length=sz) (hz:z.length=sz):over (Cg j a++Cg (m - j) z).flatten (j*sz) a=some (Cg (j+1) a++Cg (m - (j+1)) z).flatten:=by
 have h1:=Yp (a:=a) (z:=z) h;rw [<- h1.2];refine N9 (e:=z) (fun e he=>?_) h1.1 ha;rcases Cw.1 he with h|h
 ·rw [Iu] at h; rw [h.2,ha]
 ·rw [Iu] at h; rw [h.2,hz]
theorem Ys {ce:Q->List AV} {W:Nat} {z:Q} : (Cg W (ce z)).flatten=flat ce (Cg W z):=by unfold flat; rw [iE]
namespace QQ
theorem mk_Q {W:Nat} (h:W<=1048576):mkA prog 178 (.int (W:Nat)) (.int (W:Nat))=some (W,2,(Cg W zeroQ).flatten):=by
 have hz:(Ay prog 178).bind (Av prog)=some zeroQ:=aQ
 have hs:(Ay prog 178).bind (szOf prog)=some 2:=aQ
 obtain ⟨bb,hb,wc⟩:∃ bb,(Ay prog 178).bind (Ep prog)=some bb/\bb<=1048576:=⟨16,aJ,aA⟩;exact Ya2e
def Ao5 (S:List Ent) (iq eq:Nat) (t':Tb) (r:Rs):Prop :=
 ∃ S' k' tk' I cc,r=(.ref I.it I.et 0,S',tk',k')/\S.length<=S'.length/\A2 S' iq eq I t' cc/\(∀ j,j<S.length->j≠iq->nth S' j=nth S j)/\(∀ j,j<S.length->j≠iq->OutQ I iq j)
end QQ
section
variable (S:List Ent) (tk:List Nat) (k iq eq:Nat)
abbrev Ay23 (p:Prop:=by exact ∀ (S:List Ent)(tk:List Nat)(k iq eq:Nat)(l:List RowT)(fl:Bool)(hl:l.length<=1000)(hn:(varsF l).length<=1000)(vars:List ByteArray)(nw:vars.length<=1000)(hv:∀ r ∈ l,∀ c ∈ r.1,c.1 ∈ vars)(hc:∀ r ∈ l,i64 r.2.1/\∀ c ∈ r.1,i64 c.2)(fj:fewC l)(oc:iq<S.length)(hf:FAq S iq eq fl),∃ r,cL prog ua14 [.ifc ua0 (rcvQ iq eq),An l,Bc vars] S tk k=some r/\Ao5 S iq eq (Bl qF l vars fl) r):=p
theorem Ma23 {p:Prop} (h:p:=by
 intro S tk k iq eq l fl hl hn vars nw hv hc fj oc hf;obtain ⟨Φ,hΦ⟩:∃ Φ,Φ=Ao5 S iq eq (Bl qF l vars fl):=⟨_,rfl⟩;rw [<- hΦ];have hw2:Ce.wrap (2*(vars.length:Int))=((2*vars.length:Nat):Int):=aY
 refine opM ga30 ga31 ?_;simp (maxSteps:=10^6)+contextual(disch:=try exact dqd)only[evg1,simprocAttr,Cc,Ca,Cd,ga29,An,Bc,hw2];have a18:∀ c,[AV.ifc ua0 (rcvQ iq eq),.int (vars.length:Nat),.int (c:Nat),.frz [] .nilc,.frz [] .nilc,.frz [] .nilc,.frz [] .nilc]=Nr iq eq vars.length c (.frz [] .nilc) (.frz [] .nilc) (.frz [] .nilc) (.frz [] .nilc):=fun _=>rfl;refine Gm (P:=prog) (fun x st=>st.T.length=270/\(x.2.2<=l.length)/\(x.2.1+neqs (l.drop x.2.2)=2*vars.length+neqs l)/\getT st.T 0=.ifc ua0 (rcvQ iq eq)/\getT st.T 1=.frz (l.map rowC) .unk/\getT st.T 2=.frz (vars.map strC) .unk/\getT st.T 7=.ref S.length k 0/\getT st.T 32=.frz (l.map rowC) .unk/\getT st.T 33=.int (l.length:Nat)/\getT st.T 34=.int (x.2.2:Nat)/\st.S=S++[⟨k,Nr iq eq vars.length x.2.1 (.frz [] .nilc) (.frz [] .nilc) (.frz [] .nilc) (.frz [] .nilc)⟩]/\st.tk=tk/\st.n=x.1) (fun x=>l.length - x.2.2) ((k+1),(2*vars.length),0) ?_ ?_;case refine_2=>exact ⟨rfl,Cl _,rfl,rfl,rfl,rfl,rfl,rfl,rfl,rfl,rfl,rfl,rfl⟩
 rintro ⟨n1,c,q⟩ ⟨T,S',tk',n'⟩ ⟨hl,hq,hcn,e0,e1,e2,e7,e32,e33,e34,eS,eT,eN⟩ IH;simp only at hq hcn e0 e1 e2 e7 e32 e33 e34 eS eT eN;subst eS eT eN;obtain ⟨g,hg,hT⟩:=Ao hl;rw [hg] at e0 e1 e2 e7 e32 e33 e34;subst hT;clear hg hl;have ub:=Nj l;have a1g:∀ x y z:Ent,Oq (S++[x]).length (S++[y]++[z])=S++[y]:=fun x y z=>by
  have e:(S++[x]).length=(S++[y]).length:=by simp
  rw [e,List.take_left]
 by_cases hql:q<l.length
 ·have c1:decide ((q:Int)<(l.length:Int))=true:=by simpa using hql
  have hw:Ce.wrap ((q:Int)+1)=((q+1:Nat):Int):=aY
  obtain ⟨r,hr⟩:=Ab hql;have b8:=Jz hr;have we:=Pm hr;have ye:entAt (S++[⟨k,Nr iq eq vars.length c (.frz [] .nilc) (.frz [] .nilc) (.frz [] .nilc) (.frz [] .nilc)⟩]++[⟨n',rowC r⟩]) S.length k=some (Nr iq eq vars.length c (.frz [] .nilc) (.frz [] .nilc) (.frz [] .nilc) (.frz [] .nilc)):=Ad B8;cases he:r.2.2 with
  | true =>
   rw [he,if_pos rfl] at we;simp (maxSteps:=10^6)+contextual(disch:=try exact dqd)only[evg1,simprocAttr,Cc,Ca,Cd,ga29,e0,e1,e2,e7,e32,e33,e34,c1,hw,b8,rowC,Ag,he];exact IH (n'+1,c,q+1) _ aF ⟨rfl,aE,aE,cC⟩
  | false =>
   rw [he,if_neg Nz] at we;have hw3:Ce.wrap ((c:Int)+1)=((c+1:Nat):Int):=aY
   simp (maxSteps:=10^6)+contextual(disch:=try exact dqd)only[evg1,simprocAttr,Cc,Ca,Cd,ga29,e0,e1,e2,e7,e32,e33,e34,c1,hw,hw3,b8,rowC,Ag,he,Nr,a1g];exact IH (n'+1,c+1,q+1) _ aF ⟨rfl,aE,aE,cC⟩
 ·have c1:decide ((q:Int)<(l.length:Int))=false:=by simpa using hql
  have pp:c=2*vars.length+neqs l:=by
   have h0:l.drop q=[]:=Fx aA;rw [h0] at hcn;have zt:neqs ([]:List RowT)=0:=rfl;omega
  obtain ⟨W,wd⟩:∃ W,W=c+l.length+1:=⟨_,rfl⟩;have a1h:Ce.wrap ((c:Int)+(l.length:Int))=((c+l.length:Nat):Int):=aY
  have a1i:Ce.wrap (((c+l.length:Nat):Int)+1)=(W:Int):=aP
  obtain ⟨z,hz⟩:∃ z,z=qF.whole 0:=⟨_,rfl⟩;have oz:qF.ok z.1:=by rw [hz]; exact E3 0 aD
  obtain ⟨T0,ai⟩:∃ T0:Ent,T0=⟨k,Nr iq eq vars.length c (.frz [] .nilc) (.frz [] .nilc) (.frz [] .nilc) (.frz [] .nilc)⟩:=⟨_,rfl⟩;have rr:=Ly (S++[⟨k,Nr iq eq vars.length c (.frz [] .nilc) (.frz [] .nilc) (.frz [] .nilc) (.frz [] .nilc)⟩]) tk' n' iq eq fl 0 aD hf.app;rw [<- hz,Hs hf] at rr;obtain ⟨S1,di⟩:∃ S1,S1=flS S iq eq z.2:=⟨_,rfl⟩;have nd:FAq S1 iq eq (Ck fl z.2):=by rw [di]; exact hf.fS
  have hl1:S1.length=S.length:=by rw [di]; exact Bi
  have cd:∀ v,v≠iq->nth S1 v=nth S v:=fun v hv=>by rw [di]; exact ga6 hv
  rw [<- di] at rr;obtain ⟨nz,zx⟩:∃ nz,nz=n'+ua3:=⟨_,rfl⟩;rw [<- zx] at rr;have vg:entAt (S1++[⟨k,Nr iq eq vars.length c (.frz [] .nilc) (.frz [] .nilc) (.frz [] .nilc) (.frz [] .nilc)⟩]++[⟨nz,ga0 z.1⟩]++[⟨nz+1,(Cg W zeroQ).flatten⟩]) S.length k=some (Nr iq eq vars.length c (.frz [] .nilc) (.frz [] .nilc) (.frz [] .nilc) (.frz [] .nilc)):=Ad (Ad (Al hl1));have hP2:∀ e e' a b:Ent,put (S1++[e]++[a]++[b]) S.length e'=S1++[e']++[a]++[b]:=fun e e' a b=>by
   rw [Du aC,Du aC,Dp hl1]
  have ft:=mk_Q (W:=W) aA;have hE3 cs a b:=Ad (L:=[b]) (Ad (L:=[a]) (Al (k:=k) (cs:=cs) hl1));simp only [Nr] at rr vg;simp (maxSteps:=10^6)+contextual(disch:=try exact dqd)only[evg1,simprocAttr,Cc,Ca,Cd,ga29,e0,e1,e2,e7,e32,e33,e34,c1,hw2,a1h,a1i,rr,ft,vg,hE3,hP2,hl1,Nr,Ga,xfs,puQ,ga1,ga5,ovQ];obtain ⟨TP,hTP⟩:∃ TP,TP=Nr iq eq vars.length c (.frz [] .nilc) (.sref (S.length+2) (nz+1) 0 W ua2) (.frz [] .nilc) (.frz [] .nilc):=⟨_,rfl⟩;obtain ⟨S2,bg⟩:∃ S2,S2=S1++[⟨k,TP⟩]++[⟨nz,ga0 z.1⟩]:=⟨_,rfl⟩;have hl2:S2.length=S.length+2:=by rw [bg]; simp [hl1]
  have au:entAt S2 S.length k=some TP:=by rw [bg]; exact Ad (Al hl1)
  have hZ2:entAt S2 (S.length+1) nz=some (ga0 z.1):=by rw [bg]; exact Al (by simp [hl1])
  have cj:FAq S2 iq eq (Ck fl z.2):=by rw [bg]; exact nd.app.app
  have bj:∀ j,j<S.length->j≠iq->nth S2 j=nth S j:=fun j h1 h2=>by rw [bg,Bv aC,Bv aA,cd j h2]
  have a3j:[AV.ifc ua0 (rcvQ iq eq),.int (vars.length:Nat),.int (c:Nat),.frz [] .nilc,.sref (S.length+2) (nz+1) 0 W ua2,.frz [] .nilc,.frz [] .nilc]=TP:=hTP.symm;have vj:∀ x:Ent,(S1++[x]).length=S.length+1:=fun x=>by simp [hl1]
  have hLb:∀ x y:Ent,(S1++[x]++[y]).length=S.length+2:=fun x y=>by simp [hl1]
  rw [hLb,vj];have tf:=bg;rw [hTP] at tf;simp only [Nr] at tf;rw [<- tf];obtain ⟨Fl,hFl⟩:∃ Fl:Nat->List AV,Fl=fun j=>(Cg j (ga0 z.1)++Cg (W - j) (zeroQ:List AV)).flatten:=⟨_,rfl⟩;have hF0:Fl 0=(Cg W (zeroQ:List AV)).flatten:=by rw [hFl]; rfl
  have hFW:Fl W=flat ga0 (Cg W z.1):=by rw [hFl]; simp only [Mg,List.replicate_zero,Fp]; exact Ys
  have yx:∀ j,j<W->over (Fl j) (j*ua2) (ga0 z.1)=some (Fl (j+1)):=fun j j6=>by rw [hFl]; exact Ub (sz:=ua2) (a:=ga0 z.1) (z:=(zeroQ:List AV)) j6 (ga1 _) rfl
  rw [<- hF0];refine Gm (P:=prog) (fun x st=>st.T.length=270/\(x.2<=W)/\getT st.T 0=.ifc ua0 (rcvQ iq eq)/\getT st.T 1=.frz (l.map rowC) .unk/\getT st.T 2=.frz (vars.map strC) .unk/\getT st.T 7=.ref S.length k 0/\getT st.T 10=.int ((2*vars.length:Nat):Int)/\getT st.T 11=.int (W:Nat)/\getT st.T 12=.ref (S.length+1) nz 0/\getT st.T 71=.int (W:Nat)/\getT st.T 72=.int (x.2:Nat)/\st.S=S2++[⟨nz+1,Fl x.2⟩]/\st.tk=tk'/\st.n=x.1) (fun x=>W - x.2) ((nz+2),0) ?_ ?_;case refine_2=>exact ⟨rfl,Cl _,rfl,rfl,rfl,rfl,rfl,rfl,rfl,rfl,rfl,rfl,rfl,rfl⟩
  rintro ⟨n1,j⟩ ⟨T,S',tk',n'⟩ ⟨hl,hj,e0,e1,e2,e7,e10,e11,e12,e71,e72,eS,eT,eN⟩ IH;simp only at hj e0 e1 e2 e7 e10 e11 e12 e71 e72 eS eT eN;subst eS eT eN;obtain ⟨g,hg,hT⟩:=Ao hl;rw [hg] at e0 e1 e2 e7 e10 e11 e12 e71 e72;subst hT;clear hg hl;have hE6:∀ cs,entAt (S2++[⟨nz+1,cs⟩]) (S.length+2) (nz+1)=some cs:=fun cs=>Al hl2;have hP6 e e':=Dp (e:=e) (e':=e') hl2;have pf:∀ x y:Ent,Oq (S2++[x]).length (S2++[y])=S2++[y]:=fun x y=>by
   have e:(S2++[x]).length=(S2++[y]).length:=by simp
   rw [e,F2]
  by_cases j6:j<W
  ·have c2:decide ((j:Int)<(W:Int))=true:=fR
   have hw:Ce.wrap ((j:Int)+1)=((j+1:Nat):Int):=aY
   have cq:=yx j j6;have sb:∀ e:Ent,entAt (S2++[e]) S.length k=some TP:=fun e=>Ad au;have sc:∀ e:Ent,entAt (S2++[e]) (S.length+1) nz=some (ga0 z.1):=fun e=>Ad hZ2;rw [hTP] at sb;simp only [Nr] at sb;simp (maxSteps:=10^6)+contextual(disch:=try exact dqd)only[evg1,simprocAttr,Cc,Ca,Cd,ga29,e0,e1,e2,e7,e10,e11,e12,e71,e72,c2,hw,j6,cq,sb,sc,hE6,hP6,pf,puQ,tkQ,ga1,ga5];exact IH (n',j+1) _ aF ⟨rfl,aE,cC⟩
  ·have c2:decide ((j:Int)<(W:Int))=false:=fR
   have mq:j=W:=aA
   rw [mq] at c2 e72 ⊢;clear j6 mq hj;rw [hFW];obtain ⟨S3,de⟩:∃ S3,S3=S2++[⟨nz+1,flat ga0 (Cg W z.1)⟩]:=⟨_,rfl⟩;have fg:S3.length=S.length+3:=by rw [de]; simp [hl2]
   have cr:∀ j,j<S.length->j≠iq->nth S3 j=nth S j:=fun j h1 h2=>by rw [de,Bv aA,bj j h1 h2]
   have hZ3:entAt S3 (S.length+1) nz=some (ga0 z.1):=by rw [de]; exact Ad hZ2
   obtain ⟨t0,ro⟩:∃ t0:Tb,t0={ vars:=vars.length,real:=c,rows:=[],cost:=Cg W z.1,basis:=[],flip:=[],fl:=Ck fl z.2 }:=⟨_,rfl⟩;obtain ⟨I0,hI0⟩:∃ I0:TI,I0=⟨S.length,k,S.length+3,0,S.length+2,nz+1,S.length+4,0,[]⟩:=⟨_,rfl⟩;have ee:A2 S3 iq eq I0 t0 .nilc:=by
    rw [hI0,ro,de];refine ⟨?_,rfl,fun h=>absurd rfl h,fun i p r h=>bP,fun r h=>aO,?_,fun h=>absurd rfl h,rfl,rfl,cj.app,?_,fun r h=>aO,fun q hq=>?_,?_,by simp,?_,fun b h=>aO⟩
    ·rw [Ad au,hTP];simp only [Nr,dq,Oy,C7,Ct];rfl
    ·exact Al hl2
    ·constructor <;> first|(simp only; omega)|(intro p hp; simp at hp)|(intro i j p q hp; simp [nth] at hp)
    ·rw [Iu] at hq; rw [hq.2]; exact oz
    ·simp only [Oy]; omega
    ·simp only [Oy]; omega
   have a1j:Bl qF l vars fl=begS qF z.1 vars c W l 0 (2*vars.length) t0:=by
    unfold Bl;simp only;rw [<- pp,<- wd,<- hz,ro]
   simp (maxSteps:=10^6)+contextual(disch:=try exact dqd)only[evg1,simprocAttr,Cc,Ca,Cd,ga29,e0,e1,e2,e7,e10,e11,e12,e71,e72,c2];rw [<- de];clear hE6 hP6 pf e0 e1 e2 e7 e10 e11 e12 e71 e72 c1 c2;refine Gm (P:=prog) (fun x st=>st.T.length=270/\(x.2.2.2.2.1<=l.length)/\(Bl qF l vars fl=begS qF z.1 vars c W (l.drop x.2.2.2.2.1) x.2.2.2.2.1 x.2.2.2.2.2.1 x.2.2.2.2.2.2.1)/\(A2 x.1 iq eq x.2.2.2.2.2.2.2 x.2.2.2.2.2.2.1 x.2.2.2.1)/\(x.2.2.2.2.2.2.1.rows.length=x.2.2.2.2.1)/\(x.2.2.2.2.2.2.1.cost.length=W)/\(x.2.2.2.2.2.2.1.real=c)/\(x.2.2.2.2.2.2.1.vars=vars.length)/\(x.2.2.2.2.2.1+neqs (l.drop x.2.2.2.2.1)=c)/\(Be x.2.2.1 x.2.2.2.1 1=true)/\(entAt x.1 (S.length+1) nz=some (ga0 z.1))/\(S.length+3<=x.1.length)/\(∀ j,j<S.length->j≠iq->nth x.1 j=nth S j)/\(x.2.2.2.2.2.2.2.it=S.length/\x.2.2.2.2.2.2.2.et=k/\x.2.2.2.2.2.2.2.ic=S.length+2)/\(S.length+2<x.2.2.2.2.2.2.2.ir/\S.length+2<x.2.2.2.2.2.2.2.ib/\∀ p ∈ x.2.2.2.2.2.2.2.ids,S.length+2<p.1)/\getT st.T 0=.ifc ua0 (rcvQ iq eq)/\getT st.T 1=.frz (l.map rowC) .unk/\getT st.T 2=.frz (vars.map strC) .unk/\getT st.T 7=.ref S.length k 0/\getT st.T 10=.int (x.2.2.2.2.2.1:Nat)/\getT st.T 11=.int (W:Nat)/\getT st.T 12=.ref (S.length+1) nz 0/\getT st.T 83=.frz (l.map rowC) .unk/\getT st.T 84=.int (l.length:Nat)/\getT st.T 85=.int (x.2.2.2.2.1:Nat)/\st.S=x.1/\st.tk=x.2.2.1/\st.n=x.2.1) (fun x=>l.length - x.2.2.2.2.1) (S3,n',tk',Cap.nilc,0,(2*vars.length),t0,I0) ?_ ?_;case refine_2=>exact ⟨rfl,Cl _,a1j,ee,by rw [ro]; rfl,by rw [ro]; simp,by rw [ro],by rw [ro],by rw [pp]; rfl,rfl,hZ3,Nat.le_of_eq fg.symm,cr,by rw [hI0]; exact ⟨rfl,rfl,rfl⟩,by rw [hI0]; exact ⟨aV,aV,fun p hp=>by simp at hp⟩,rfl,rfl,rfl,rfl,rfl,rfl,rfl,rfl,rfl,rfl,rfl,rfl,rfl⟩
   rintro ⟨SS,n1,tk1,cp,i,sl,t1,I⟩ ⟨T,S',tk',n'⟩ ⟨hl,hi,hR,hT,gh,hcl,du,jk,tx,ae,hZ,hL3,bm,bl,jl,e0,e1,e2,e7,e10,e11,e12,e83,e84,e85,eS,eT,eN⟩ IH;simp only at hi hR hT gh hcl du jk tx ae hZ hL3 bm bl jl e0 e1 e2 e7 e10 e11 e12 e83 e84 e85 eS eT eN;subst eS eT eN;obtain ⟨g,hg,hT⟩:=Ao hl;rw [hg] at e0 e1 e2 e7 e10 e11 e12 e83 e84 e85;subst hT;clear hg hl;have IHA:=IH;clear IH;obtain ⟨m0,dk⟩:∃ m0,m0=n':=⟨_,rfl⟩;subst dk;obtain ⟨SA,hSA⟩:∃ SA,SA=S':=⟨_,rfl⟩;subst hSA;obtain ⟨tkA,a1k⟩:∃ tkA,tkA=tk':=⟨_,rfl⟩;subst a1k;obtain ⟨L,hL⟩:∃ L,L=SA.length:=⟨_,rfl⟩;by_cases bh:i<l.length
   ·have c1:decide ((i:Int)<(l.length:Int))=true:=dY
    have zi:Ce.wrap ((i:Int)+1)=((i+1:Nat):Int):=aY
    obtain ⟨r,hr⟩:=Ab bh;have b8:=Jz hr;have vr:r ∈ l:=Ak hr;have vj:∀ x:Ent,(SA++[x]).length=L+1:=fun x=>by simp [hL]
    have back:∀ st,Ajq S l vars fl k iq eq c W nz z.1 (i+1) st->Gd finM Φ (KA prog ga28 18 [] st):=fun st h=>by
     obtain ⟨sl',t1',I',cp',h1,h2,h3,h4,h5,h6,h7,h8,h9,h10,h11,h12,h13,h14,yy,s0,s1,s2,s7,s10,s11,s12,s83,s84,s85⟩:=h;exact Ahv rfl (t:=.mk) (IHA (st.S,st.n,st.tk,cp',i+1,sl',t1',I') st (by show l.length - (i+1)<l.length - i; omega) ⟨yy,h1,h2,h3,h4,h5,h6,h7,h8,h9,h10,h11,h12,h13,h14,s0,s1,s2,s7,s10,s11,s12,s83,s84,s85,rfl,rfl,rfl⟩)
    clear IHA;simp (maxSteps:=10^6)+contextual(disch:=try exact dqd)only[evg1,simprocAttr,Cc,Ca,Cd,ga29,e0,e1,e2,e7,e10,e11,e12,e83,e84,e85,c1,b8,rowC,Ag,ft,Cf];rw [vj,<- hL,<- hF0];obtain ⟨SB,qj⟩:∃ SB,SB=SA++[(⟨m0,rowC r⟩:Ent)]:=⟨_,rfl⟩;have ze:SB.length=L+1:=by rw [qj]; exact vj _
    have th:=qj;simp only [rowC,Ag] at th;rw [<- th];refine Gm (P:=prog) (fun x st=>st.T.length=270/\(x.2<=W)/\getT st.T 0=.ifc ua0 (rcvQ iq eq)/\getT st.T 1=.frz (l.map rowC) .unk/\getT st.T 2=.frz (vars.map strC) .unk/\getT st.T 7=.ref S.length k 0/\getT st.T 10=.int (sl:Nat)/\getT st.T 11=.int (W:Nat)/\getT st.T 12=.ref (S.length+1) nz 0/\getT st.T 14=.int (i:Nat)/\getT st.T 15=.ref L m0 0/\getT st.T 16=.sref (L+1) (m0+1) 0 W ua2/\getT st.T 83=.frz (l.map rowC) .unk/\getT st.T 84=.int (l.length:Nat)/\getT st.T 85=.int (i:Nat)/\getT st.T 93=.int (W:Nat)/\getT st.T 94=.int (x.2:Nat)/\st.S=SB++[⟨m0+1,Fl x.2⟩]/\st.tk=tkA/\st.n=x.1) (fun x=>W - x.2) ((m0+2),0) ?_ ?_;case refine_2=>exact ⟨rfl,Cl _,rfl,rfl,rfl,rfl,rfl,rfl,rfl,rfl,rfl,rfl,rfl,rfl,rfl,rfl,rfl,rfl,rfl,rfl⟩
    rintro ⟨n1,j⟩ ⟨T,S',tk',n'⟩ ⟨hl,hj,e0,e1,e2,e7,e10,e11,e12,e14,e15,e16,e83,e84,e85,e93,e94,eS,eT,eN⟩ IH;simp only at hj e0 e1 e2 e7 e10 e11 e12 e14 e15 e16 e83 e84 e85 e93 e94 eS eT eN;subst eS eT eN;obtain ⟨g,hg,hT⟩:=Ao hl;rw [hg] at e0 e1 e2 e7 e10 e11 e12 e14 e15 e16 e83 e84 e85 e93 e94;subst hT;clear hg hl;by_cases j6:j<W
    ·have c2:decide ((j:Int)<(W:Int))=true:=fR
     have hw:Ce.wrap ((j:Int)+1)=((j+1:Nat):Int):=aY
     have cq:=yx j j6;have sc:∀ b:Ent,entAt (SB++[b]) (S.length+1) nz=some (ga0 z.1):=fun b=>by rw [qj]; exact Ad (Ad hZ)
     have hE6:∀ cs,entAt (SB++[⟨m0+1,cs⟩]) (L+1) (m0+1)=some cs:=fun cs=>Al ze;have hP6 e e':=Dp (e:=e) (e':=e') ze;have pf:∀ x y:Ent,Oq (SB++[x]).length (SB++[y])=SB++[y]:=fun x y=>by
      have e:(SB++[x]).length=(SB++[y]).length:=by simp
      rw [e,F2]
     simp (maxSteps:=10^6)+contextual(disch:=try exact dqd)only[evg1,simprocAttr,Cc,Ca,Cd,ga29,e0,e1,e2,e7,e10,e11,e12,e14,e15,e16,e83,e84,e85,e93,e94,c2,hw,j6,cq,sc,hE6,hP6,pf,puQ,tkQ,ga1,ga5];exact IH (n',j+1) _ aF ⟨rfl,aE,cC⟩
    ·have c2:decide ((j:Int)<(W:Int))=false:=fR
     have mq:j=W:=aA
     rw [mq] at c2 e94 ⊢;clear j6 mq hj;rw [hFW];obtain ⟨n5,hn5⟩:∃ n5,n5=n':=⟨_,rfl⟩;subst hn5;obtain ⟨SC,qk⟩:∃ SC,SC=SB++[(⟨m0+1,flat ga0 (Cg W z.1)⟩:Ent)]:=⟨_,rfl⟩;rw [<- qk];have hlC:SC.length=L+2:=by rw [qk]; simp [ze]
     have yz:A2 SC iq eq I t1 cp:=by rw [qk,qj]; exact (hT.app _).app _
     have az:LowQ I iq L t1:=by rw [hL]; exact hT.low
     have mr:entAt SC L m0=some (rowC r):=by rw [qk,qj]; exact Ad (Al hL.symm)
     have tj:entAt SC (L+1) (m0+1)=some (flat ga0 (Cg W z.1)):=by rw [qk]; exact Al ze
     have hZC:entAt SC (S.length+1) nz=some (ga0 z.1):=by rw [qk,qj]; exact Ad (Ad hZ)
     have hfC:∀ j,j<S.length->j≠iq->nth SC j=nth S j:=fun j h1 h2=>by rw [qk,qj,Bv aC,Bv aA,bm j h1 h2]
     have me:i64 r.2.1:=(hc r vr).1;obtain ⟨one,cg⟩:∃ one,one=qF.whole 1:=⟨_,rfl⟩;have o1:qF.ok one.1:=by rw [cg]; exact E3 1 aD
     have df:=Ly SC tk' n5 iq eq t1.fl 1 aD yz.fa;rw [<- cg] at df;obtain ⟨SD,vt⟩:∃ SD,SD=flS SC iq eq one.2:=⟨_,rfl⟩;have mu:SD.length=L+2:=by rw [vt,Bi]; exact hlC
     have tl:∀ v,v≠iq->nth SD v=nth SC v:=fun v hv=>by rw [vt]; exact ga6 hv
     have y3:FAq SD iq eq (Ck t1.fl one.2):=by rw [vt]; exact yz.fa.fS
     rw [<- vt] at df;obtain ⟨nu,hnu⟩:∃ nu,nu=n5+ua3:=⟨_,rfl⟩;rw [<- hnu] at df;have hTD:A2 SD iq eq I { t1 with fl:=Ck t1.fl one.2 } cp:=yz.flag tl y3;have hLd:SD.length=L+2:=mu;have mw:G1 S (SD++[⟨nu,ga0 one.1⟩]) iq eq I { t1 with fl:=Ck t1.fl one.2 } cp L nz m0 (m0+1) nu z.1 r (Cg W z.1) one.1 :=
      ⟨hTD.app _,az.of fun h=>h,by rw [Ad (e:=nz) (by rw [Ac (tl _ aA)]; exact hZC)],by rw [Ad (by rw [Ac (tl _ aA)]; exact mr)],by rw [Ad (by rw [Ac (tl _ aA)]; exact tj)],Al mu,by simp [mu],fun j h1 h2=>by rw [Bv aA,tl j h2]; exact hfC j h1 h2,oc,aA,bl.2.2⟩
     have gp:=mw.E15;have ql:=mw.E19;have l6:(SD++[(⟨nu,ga0 one.1⟩:Ent)]).length=L+3:=mw.len;have hLD:∀ x:Ent,(SD++[x]).length=L+3:=fun x=>by simp [mu]
     simp only [rowC] at gp;have hEn:∀ cs,entAt (SD++[⟨nu,cs⟩]) (L+2) nu=some cs:=fun cs=>Al mu;have r6 e e':=Dp (e:=e) (e':=e') mu;clear qk qj th;cases ew:Dm r
     ·have c3:decide (0<r.2.1)=false:=ew;have hU:Kc qF (Dm r)=one:=by rw [ew,cg]; rfl
      simp (maxSteps:=10^6)+contextual(disch:=try exact dqd)only[evg1,simprocAttr,Cc,Ca,Cd,ga29,e0,e1,e2,e7,e10,e11,e12,e14,e15,e16,e83,e84,e85,e93,e94,c2,c3,mr,rowC,Ag,df,gp,hEn,r6,mu,Ga,xfs,puQ,ga1,ga5,ovQ];clear e0 e1 e2 e7 e10 e11 e12 e14 e15 e16 e83 e84 e85 e93 e94 c2 c3 IH r6 hEn;obtain ⟨SX,tm⟩:∃ SX,SX=SD++[(⟨nu,ga0 one.1⟩:Ent)]:=⟨_,rfl⟩;obtain ⟨nx,u5⟩:∃ nx,nx=nu+1:=⟨_,rfl⟩;rw [<- tm,<- u5];rw [<- tm] at mw;obtain ⟨u,hu⟩:∃ u:Q × Bool,u=one:=⟨_,rfl⟩;rw [<- hu] at mw hU;have ou:qF.ok u.1:=by rw [hu]; exact o1
      have gi:=mw;clear mw gp ql l6 hLD hnu hTD hLd y3 tl mu df vt tm u5 tj mr hZC hfC yz hlC hu o1 cg;have h18:AV.prim (.bool false)=.prim (.bool (Dm r)):=by rw [ew]
      exact Ya00
     ·have c3:decide (0<r.2.1)=true:=ew;obtain ⟨neg,hneg⟩:∃ neg,neg=qF.whole (-1):=⟨_,rfl⟩;have on:qF.ok neg.1:=by rw [hneg]; exact E3 (-1) aD
      have hU:Kc qF (Dm r)=(neg.1,Ck one.2 neg.2):=by rw [ew,cg,hneg]; rfl
      have hw1:=Ly (SD++[⟨nu,ga0 one.1⟩]) tk' (nu+1) iq eq (Ck t1.fl one.2) (-1) aD mw.T.fa;rw [<- hneg,Hs y3] at hw1;obtain ⟨SE,hSE⟩:∃ SE,SE=flS SD iq eq neg.2:=⟨_,rfl⟩;have l6:SE.length=L+2:=by rw [hSE,Bi]; exact mu
      have hRE:=mw.flag (S':=flS (SD++[⟨nu,ga0 one.1⟩]) iq eq neg.2) (fun j hj=>ga6 hj) Bi mw.T.fa.fS;rw [Hs y3,<- hSE] at hRE;rw [<- hSE] at hw1;have y4:=hRE.unit neg.1;have qo:∀ cs,entAt (SE++[⟨nu,cs⟩]) (L+2) nu=some cs:=fun cs=>Al l6;have tn e e':=Dp (e:=e) (e':=e') l6;rw [tn] at y4;have my:=y4.E15;simp only [rowC] at my;simp (maxSteps:=10^6)+contextual(disch:=try exact dqd)only[evg1,simprocAttr,Cc,Ca,Cd,ga29,e0,e1,e2,e7,e10,e11,e12,e14,e15,e16,e83,e84,e85,e93,e94,c2,c3,mr,rowC,Ag,df,gp,hEn,r6,mu,hw1,qo,tn,my,Ga,xfs,puQ,ga1,ga5,ovQ,ovQ2];clear e0 e1 e2 e7 e10 e11 e12 e14 e15 e16 e83 e84 e85 e93 e94 c2 c3 IH r6 hEn tn qo;obtain ⟨SX,tm⟩:∃ SX,SX=SE++[(⟨nu,ga0 neg.1⟩:Ent)]:=⟨_,rfl⟩;obtain ⟨nx,u5⟩:∃ nx,nx=nu+1+ua3:=⟨_,rfl⟩;rw [<- tm,<- u5];rw [<- tm] at y4;obtain ⟨u,hu⟩:∃ u:Q × Bool,u=(neg.1,Ck one.2 neg.2):=⟨_,rfl⟩;rw [<- hu] at hU;have ou:qF.ok u.1:=by rw [hu]; exact on
      have gi:G1 S SX iq eq I { t1 with fl:=Ck t1.fl u.2 } cp L nz m0 (m0+1) nu z.1 r (Cg W z.1) u.1:=by
       rw [hu];simp only [<- F7];exact y4
      clear mw gp ql l6 hLD hnu hTD hLd y3 tl mu df vt tm u5 tj mr hZC hfC yz hlC hu o1 cg on hneg hw1 hSE hRE y4 my;have h18:AV.prim (.bool true)=.prim (.bool (Dm r)):=by rw [ew]
      exact Ya00
   ·have c1:decide ((i:Int)<(l.length:Int))=false:=dY
    have h0:l.drop i=[]:=Fx aA;rw [h0] at hR;simp only [begS] at hR;simp (maxSteps:=10^6)+contextual(disch:=try exact dqd)only[evg1,simprocAttr,Cc,Ca,Cd,ga29,e0,e1,e2,e7,e10,e11,e12,e83,e84,e85,c1];rw [hΦ,hR];exact ⟨SA,m0,tkA,I,cp,by rw [bl.1,bl.2.1],aA,hT,bm,fun j h1 h2=>⟨h2,aA,aA,fun p hp=>by have:=jl.2.2 p hp; omega⟩⟩):p:=h
namespace QQ
theorem Awv:Ay23:=Ma23
end QQ
end
end
section
open Go
end
section
open Go
set_option maxRecDepth 100000
def ceW0Q:List AV:=[.prim (.bool false),.frz [] .nilc,.prim (.bool false),.frz [] .nilc]
namespace QQ
structure Ajo (S SS:List Ent) (iq eq:Nat) (I:TI) (t:Tb) (cc:Cap) (k n8:Nat) (z:Q) (cf:AV) (n:Int):Prop where
 T:A2 SS iq eq I t cc
 E4:entAt SS S.length k=some [cf,.prim (.int .i64 n)]
 E6:entAt SS (S.length+1) (k+1)=some ceW0Q
 E8:entAt SS (S.length+2) n8=some (ceQ z)
 len:SS.length=S.length+3
 fr:∀ j,j<S.length->OutQ I iq j->nth SS j=nth S j
end QQ
abbrev Ay24 (p:Prop:=by exact ∀ {S:List Ent}{iq eq:Nat}{I:TI}{t:Tb}{cc:Cap}(hT:A2 S iq eq I t cc)(oc:iq<S.length)(hib:I.ib<S.length\/S.length+10<I.ib)(d:Nat)(hd:d<=10),OutQ I iq (S.length+d)):=p
theorem Ma24 {p:Prop} (h:p:=by
 intro hT oc hib d hd;have h:=hT.low;have:=h.ic;exact ⟨aA,aA,aA,fun p hp=>by have:=h.row p hp; omega⟩):p:=h
namespace QQ
theorem Au7:Ay24:=fun {S iq eq I t cc}=>Ma24
end QQ
abbrev Ay25 (p:Prop:=by exact ∀ {S SS S':List Ent}{iq eq:Nat}{I:TI}{t t':Tb}{cc:Cap}{k n8:Nat}{z:Q}{cf:AV}{n:Int}(h:Ajo S SS iq eq I t cc k n8 z cf n)(ho:∀ d,d<=10->OutQ I iq (S.length+d))(hT:A2 S' iq eq I t' cc)(hS:∀ j,OutQ I iq j->nth S' j=nth SS j)(hl:S'.length=SS.length),Ajo S S' iq eq I t' cc k n8 z cf n):=p
theorem Ma25 {p:Prop} (h:p:=by
 intro h ho hT hS hl;exact ⟨hT,by rw [Ac (hS S.length (ho 0 aA))]; exact h.E4,by rw [Ac (hS _ (ho 1 aA))]; exact h.E6,by rw [Ac (hS _ (ho 2 aA))]; exact h.E8,by rw [hl]; exact h.len,fun j h1 h2=>by rw [hS j h2]; exact h.fr j h1 h2⟩):p:=h
namespace QQ
theorem Ajo.step:Ay25:=fun {S SS S' iq eq I t t' cc k n8 z cf n}=>Ma25
end QQ
end
section
open Go
set_option maxRecDepth 100000
abbrev Ay26 (p:Prop:=by exact ∀ {S:List Ent}{iq eq:Nat}{I:TI}{t:Tb}{c:Cap}(h:A2 S iq eq I t c)(h0:t.rows=[])(oc:iq<S.length){x y:Nat}(hx:S.length<=x)(hy:S.length<=y)(i5:x≠y),A2 S iq eq ⟨I.it,I.et,x,0,I.ic,I.ec,y,0,I.ids⟩ t c):=p
theorem Ma26 {p:Prop} (h:p:=by
 intro h h0 oc x y hx hy i5;have hl:=h.low;have h1:=hl.it;have h2:=hl.ic;have jj:I.ids=[]:=Fc.1 (by rw [h.nids,h0]; rfl);refine ⟨?_,h.nids,fun hn=>absurd h0 hn,h.rowE,h.rowW,h.costE,fun hn=>absurd h0 hn,h.nb,h.nf,h.fa,?_,h.okr,h.okc,h.bigW,h.bigM,h.real,h.bB⟩
 ·have h3:=h.top;rw [h0] at h3 ⊢;exact h3
 ·have ha:=h.ap;refine ⟨aV,ha.tc,aV,aV,i5,aV,ha.qt,aV,ha.qc,aV,fun p hp=>?_,ha.rows⟩;rw [jj] at hp; simp at hp):p:=h
namespace QQ
theorem A2.junk:Ay26:=fun {S iq eq I t c}=>Ma26
def BegRQ (S:List Ent) (iq eq:Nat) (t':Tb) (r:Rs):Prop :=
 ∃ S' k' tk' I cc,r=(.ref I.it I.et 0,S',tk',k')/\S.length<=S'.length/\A2 S' iq eq I t' cc/\(∀ j,j<S.length->j≠iq->nth S' j=nth S j)/\(∀ j,j<S.length->j≠iq->OutQ I iq j)/\(I.ib<S'.length\/S'.length+15<I.ib)
end QQ
abbrev Ay27 (p:Prop:=by exact ∀ {S:List Ent}{iq eq:Nat}{t':Tb}{r:Rs}(oc:iq<S.length)(h:Ao5 S iq eq t' r),BegRQ S iq eq t' r):=p
theorem Ma27 {p:Prop} (h:p:=by
 intro oc h;obtain ⟨S',k',tk',I,cc,hr,h1,h2,h3,h4⟩:=h;by_cases h0:t'.rows=[]
 ·refine ⟨S',k',tk',⟨I.it,I.et,S'.length+20,0,I.ic,I.ec,S'.length+21,0,I.ids⟩,cc,hr,h1,h2.junk h0 aA aA aA aA,h3,fun j a b=>?_,.inr aV⟩;have h5:=h4 j a b;exact ⟨h5.1,h5.2.1,aV,h5.2.2.2⟩
 ·exact ⟨S',k',tk',I,cc,hr,h1,h2,h3,h4,.inl (h2.low.ib h0)⟩):p:=h
namespace QQ
theorem Ao5.far:Ay27:=fun {S iq eq t' r}=>Ma27
end QQ
end
section
open Go
def K6 (t t':Tb):Prop:=t'.real=t.real/\t'.vars=t.vars/\t'.cost.length=t.cost.length/\t'.rows.length=t.rows.length
theorem K6.refl (t:Tb):K6 t t:=⟨rfl,rfl,rfl,rfl⟩
theorem K6.trans {a b c:Tb} (h:K6 a b) (h':K6 b c):K6 a c:=⟨h'.1.trans h.1,h'.2.1.trans h.2.1,h'.2.2.1.trans h.2.2.1,h'.2.2.2.trans h.2.2.2⟩
theorem Y0 {F:Fld} {l m:List Q} {c:Nat} : (lessT F l m c).1.length=l.length:=by
 unfold lessT;split
 ·split
  ·rfl
  ·exact Ph
 ·rfl
theorem Kp {F:Fld} {row:List Q} {c i:Nat} : ∀ {l:List (List Q)} {k:Nat},(lessRows F row c i k l).1.length=l.length
 | [],_=>rfl
 | r :: l,k=>by simp only [lessRows,Cm,Kp]
theorem Anm {F:Fld} {t:Tb} {i c:Nat} : K6 t (Ef F t i c):=⟨rfl,rfl,Y0,by simp only [Ef,Kp,Aj]⟩
theorem Rv {F:Fld} : ∀ {K:Nat} {t t':Tb} {b:Bool},Hr F K t=some (b,t')->K6 t t'
 | 0,_,_,_,h=>by simp [Hr] at h
 | K+1,t,t',b,h=>by
  unfold Hr at h;split at h
  ·exact Ya2h
  ·split at h
   ·exact Ya2h
   ·split at h
    ·simp only [A3,Ch] at h; obtain ⟨-,rfl⟩:=h; exact ⟨rfl,rfl,rfl,rfl⟩
    ·have h2:=Rv h;have h3:∀ (u:Tb) (i c:Nat),K6 u (Ef F u i c):=fun u i c=>Anm;have h4:=(h3 _ _ _).trans h2;exact ⟨h4.1,h4.2.1,h4.2.2.1,h4.2.2.2⟩
theorem Yi {F:Fld} {real W:Nat} : ∀ {c r:List Q} {k:Nat},(costL F real W k c r).1.length=c.length
 | [],_,_=>by simp [costL]
 | a :: c,[],_=>rfl
 | a :: c,b :: r,k=>by simp only [costL,Cm,Yi]
theorem Akk {F:Fld} {z:Q} {vars:List ByteArray} {real W:Nat} : ∀ {l:List RowT} {i sl:Nat} {t:Tb},(begS F z vars real W l i sl t).real=t.real/\(begS F z vars real W l i sl t).vars=t.vars/\(begS F z vars real W l i sl t).cost.length=t.cost.length/\(begS F z vars real W l i sl t).rows.length=t.rows.length+l.length
 | [],_,_,_=>⟨rfl,rfl,rfl,rfl⟩
 | r :: l,i,sl,t=>by
  unfold begS;simp only;have h:=Akk (F:=F) (z:=z) (vars:=vars) (real:=real) (W:=W) (l:=l) (i:=i+1) (sl:=if r.2.2=true then sl else sl+1) (t:={ t with rows:=t.rows++[(rowF F z vars real W i sl r).1],cost:=(costL F real W 0 t.cost (rowF F z vars real W i sl r).1).1,basis:=t.basis++[real+i],flip:=t.flip++[Dm r],fl:=(t.fl || (rowF F z vars real W i sl r).2) || (costL F real W 0 t.cost (rowF F z vars real W i sl r).1).2 });simp only [Yi,Cs,Cm,C7] at h ⊢;exact ⟨h.1,h.2.1,h.2.2.1,aA⟩
theorem Nx {F:Fld} {l:List RowT} {vars:List ByteArray} {fl:Bool} : (Bl F l vars fl).real=2*vars.length+neqs l/\(Bl F l vars fl).vars=vars.length/\(Bl F l vars fl).cost.length=2*vars.length+neqs l+l.length+1/\(Bl F l vars fl).rows.length=l.length:=by
 unfold Bl;have h:=Akk (F:=F) (z:=(F.whole 0).1) (vars:=vars) (real:=2*vars.length+neqs l) (W:=2*vars.length+neqs l+l.length+1) (l:=l) (i:=0) (sl:=2*vars.length) (t:={ vars:=vars.length,real:=2*vars.length+neqs l,rows:=[],cost:=Cg (2*vars.length+neqs l+l.length+1) (F.whole 0).1,basis:=[],flip:=[],fl:=fl || (F.whole 0).2 });simp only [Oy,C7,Fo] at h ⊢;exact h
def lsC:Option Q->List AV
 | none=>[.prim (.bool false),.frz [] .nilc,.prim (.bool false),.frz [] .nilc]
 | some q=>ceW q
def ansC (f:Bool) (pt nu:List Q) (c1 c2:Cap) (least:Option Q) (bd:Bool):List AV:=[.prim (.bool f),.frz (pt.map ceW) c1,.frz (nu.map ceW) c2]++lsC least++[.prim (.bool bd)]
def ans0:List AV:=[.prim (.bool false),.frz [] .nilc,.frz [] .nilc,.prim (.bool false),.frz [] .nilc,.prim (.bool false),.frz [] .nilc,.prim (.bool false)]
structure Ans where
 f:Bool
 pt:List Q
 nu:List Q
 least:Option (Q × Bool)
def Ju (F:Fld) (K:Nat) (l:List RowT) (vars:List ByteArray) (fl:Bool):Option (Ans × Bool) :=
 match Hr F K (Bl F l vars fl) with
 | none=>none
 | some (_,t)=>if (F.stop && t.fl)=true then some (⟨false,[],[],none⟩,false) else
  if Jc t=true then some (⟨true,(Gg F t).1.map F.rat,[],none⟩,!(F.stop && (t.fl || (Gg F t).2)))
  else some (⟨false,[],(Hc F t).1.map F.rat,none⟩,!(F.stop && (t.fl || (Hc F t).2)))
end
section
open Go Go.Proofs.Tryz
open Go.Proofs.Tryz renaming func84->ga32,ntmps84->ga33,results84->ga34
set_option maxRecDepth 100000
namespace QQ
abbrev ua15:Nat:=84
end QQ
set_option maxHeartbeats 20000000
set_option maxRecDepth 100000
def Awk (S:List Ent) (iq:Nat) (a:Ans) (ok:Bool) (r:Rs):Prop :=
 ∃ S' tk' k' c1 c2 q b,r=(.tup [.agg (ansC a.f a.pt a.nu c1 c2 q b),.bool ok],S',tk',k')/\S'.length=S.length/\(∀ j,j<S.length->j≠iq->nth S' j=nth S j)/\(∀ v,a.least=some v->q=some v.1/\b=v.2)/\(a.least=none->q=none/\b=false)
section
variable (S:List Ent) (tk:List Nat) (k iq eq:Nat)
abbrev Ay28 (p:Prop:=by exact ∀ (S:List Ent)(tk:List Nat)(k iq eq:Nat)(l:List RowT)(fl:Bool)(hl:l.length<=1000)(hn:(varsF l).length<=1000)(vars:List ByteArray)(nw:vars.length<=1000)(hv:∀ r ∈ l,∀ c ∈ r.1,c.1 ∈ vars)(hc:∀ r ∈ l,i64 r.2.1/\∀ c ∈ r.1,i64 c.2)(fj:fewC l)(oc:iq<S.length)(hf:FAq S iq eq fl)(K:Nat)(a:Ans)(ok:Bool)(hS:Ju qF K l vars fl=some (a,ok)),∃ r,cL prog ua15 [.ifc ua0 (rcvQ iq eq),An l,Bc vars,.prim (.pointer none)] S tk k=some r/\Awk S iq a ok r):=p
theorem Ma28 {p:Prop} (h:p:=by
 intro S tk k iq eq l fl hl hn vars nw hv hc fj oc hf K a ok hS;obtain ⟨Φ,hΦ⟩:∃ Φ,Φ=Awk S iq a ok:=⟨_,rfl⟩;rw [<- hΦ];obtain ⟨rb,hbc,hbP⟩:=Awv (S++[(⟨k,ans0⟩:Ent)]) tk (k+1) iq eq l fl hl hn vars nw hv hc fj aC hf.app;obtain ⟨Sb,kb,tkb,I,cc,rfl,hlb,hTb,uq,hob,hib⟩:=hbP.far aC;simp only [ans0,An,Bc] at hbc;cases hd:Hr qF K (Bl qF l vars fl) with
 | none=>unfold Ju at hS; rw [hd] at hS; simp at hS
 | some bt =>
  obtain ⟨b,t⟩:=bt;obtain ⟨rd,qa,Sd,kd,rfl,qx,hTd,we⟩:=Aqe Sb tkb kb iq eq I _ t cc K b hTb hd;have i9:=Af5 Sd tkb kd iq eq t.fl hTd.fa;unfold Ju at hS;rw [hd] at hS;simp only at hS;have pg:∀ j,j<S.length+1->j≠iq->OutQ I iq j:=fun j h1 h2=>hob j aC h2;have hSb:S.length+1<=Sb.length:=by simpa using hlb
  have uj:entAt Sd S.length k=some ans0:=by
   rw [Ac (we _ (pg _ aA aA)),Ac (uq _ (by simp) aA)];exact B8
  have bm:∀ j,j<S.length->j≠iq->nth Sd j=nth S j:=fun j h1 h2=>by
   rw [we _ (pg _ aA h2),uq _ aC h2,Bv h1]
  have hP0:∀ cs,entAt (put Sd S.length ⟨k,cs⟩) S.length k=some cs:=fun cs=>Ai aA;have y5:over ans0 0 ans0=some ans0:=rfl;have a1l:=uj;simp only [ans0] at y5 uj;refine opG ga32 ga33 ?_;cases ag:(qF.stop && t.fl) with
  | true =>
   rw [ag] at i9 hS;simp (maxSteps:=10^6)+contextual(disch:=try exact dqd)only[evg1,simprocAttr,Cc,Ca,Cd,ga34,An,Bc,hbc,qa,i9,uj,y5,hP0,Ga,xfs];rw [if_pos rfl] at hS;simp only [A3,Ch] at hS;obtain ⟨rfl,rfl⟩:=hS;rw [hΦ];refine ⟨_,_,_,.nilc,.nilc,none,false,rfl,by rw [Im,Am]; omega,fun j h1 h2=>?_,fun v hv=>by simp at hv,fun _=>⟨rfl,rfl⟩⟩;rw [Gs h1,Af aA]; exact bm j h1 h2
  | false =>
   rw [ag] at i9 hS;rw [if_neg Nz] at hS;obtain ⟨rf,gj,Sf,kf,rfl,hlf,hTf,hnf⟩:=Al2 Sd tkb kd iq eq I t cc hTd;have hsz:=Rv hd;have pm:=Nx (F:=qF) (l:=l) (vars:=vars) (fl:=fl);have hoN:∀ d,d<=10->OutQ I iq (Sf.length+d):=fun d hd=>by
    rw [hlf,qx]; exact Au7 hTb aA aA d hd
   have hEf:entAt Sf S.length k=some ans0:=by rw [Ac (hnf _ (pg _ aA aA))]; exact a1l
   cases hfe:Jc t with
   | false =>
    rw [hfe] at gj hS;rw [if_neg Nz] at hS;simp only [A3,Ch] at hS;obtain ⟨rfl,rfl⟩:=hS;obtain ⟨rm,vz,Sm,km,tkm,cm,rfl,hlm,hTm,gb⟩:=Ab8 (Sf++[(⟨kf,ans0⟩:Ent)]) tkb (kf+1) iq eq I t cc (hTf.app _) (by rw [hsz.1,hsz.2.2.1,hsz.2.2.2,pm.1,pm.2.2.1,pm.2.2.2]; omega);have a1m:Sm.length=Sf.length+1:=by rw [hlm]; simp
    have qo:entAt Sm Sf.length kf=some ans0:=Za5r
    have mz:entAt Sm S.length k=some ans0:=Za5s
    have hR:Lp (Hc qF t).1=(Hc qF t).1.map fun q=>ceW (qF.rat q):=rfl;have tn:∀ cs,entAt (put Sm Sf.length ⟨kf,cs⟩) Sf.length kf=some cs:=fun cs=>Ai aA;have m6:∀ x,entAt (put Sm Sf.length x) S.length k=some ans0:=fun x=>by rw [Ah aA]; exact mz
    have tp:∀ x,FAq (put Sm Sf.length x) iq eq (Ck t.fl (Hc qF t).2):=fun x=>hTm.fa.put aA;have tq x:=Af5 (put Sm Sf.length x) tkm km iq eq _ (tp x);have hPP:∀ x cs,entAt (put (put Sm Sf.length x) S.length ⟨k,cs⟩) S.length k=some cs:=fun x cs=>Ai dZ;simp only [ans0] at qo mz m6 vz;simp (maxSteps:=10^6)+contextual(disch:=try exact dqd)only[evg1,simprocAttr,Cc,Ca,Cd,ga34,An,Bc,hbc,qa,i9,gj,vz,qo,tn,m6,tq,hPP,Ga,xfs];rw [hΦ];refine ⟨_,_,_,.nilc,cm,none,false,Za2t,by rw [Im,Am,Am]; omega,fun j h1 h2=>?_,fun v hv=>by simp at hv,fun _=>⟨rfl,rfl⟩⟩;rw [Gs h1,Af aA,Af aA,gb _ (pg _ aA h2),Bv aA,hnf _ (pg _ aA h2)];exact bm j h1 h2
   | true =>
    rw [hfe] at gj hS;rw [if_pos rfl] at hS;simp only [A3,Ch] at hS;obtain ⟨rfl,rfl⟩:=hS;obtain ⟨ans1,y6⟩:∃ ans1:List AV,ans1=[.prim (.bool true),.frz [] .nilc,.frz [] .nilc,.prim (.bool false),.frz [] .nilc,.prim (.bool false),.frz [] .nilc,.prim (.bool false)]:=⟨_,rfl⟩;obtain ⟨rm,vz,Sm,km,tkm,cm,rfl,hlm,hTm,gb⟩:=Ax1 (Sf++[(⟨kf,ans1⟩:Ent)]) tkb (kf+1) iq eq I t cc (hTf.app _) (by rw [hsz.1,hsz.2.1,pm.1,pm.2.1]; omega);have a1m:Sm.length=Sf.length+1:=by rw [hlm]; simp
    have qo:entAt Sm Sf.length kf=some ans1:=Za5r
    have mz:entAt Sm S.length k=some ans0:=Za5s
    have hR:Lp (Gg qF t).1=(Gg qF t).1.map fun q=>ceW (qF.rat q):=rfl;have tn:∀ cs,entAt (put Sm Sf.length ⟨kf,cs⟩) Sf.length kf=some cs:=fun cs=>Ai aA;have m6:∀ x,entAt (put Sm Sf.length x) S.length k=some ans0:=fun x=>by rw [Ah aA]; exact mz
    have tp:∀ x,FAq (put Sm Sf.length x) iq eq (Ck t.fl (Gg qF t).2):=fun x=>hTm.fa.put aA;have tq x:=Af5 (put Sm Sf.length x) tkm km iq eq _ (tp x);have hPP:∀ x cs,entAt (put (put Sm Sf.length x) S.length ⟨k,cs⟩) S.length k=some cs:=fun x cs=>Ai dZ;rw [y6] at qo vz;have a1n:Kz BinOp.neq (Wf prog 113) true=some (.prim (.bool false)):=aJ
    simp only [ans0] at mz m6;simp (maxSteps:=10^6)+contextual(disch:=try exact dqd)only[evg1,simprocAttr,Cc,Ca,Cd,ga34,An,Bc,hbc,qa,i9,gj,vz,qo,tn,m6,tq,hPP,a1n,Ga,xfs];rw [hΦ];refine ⟨_,_,_,cm,.nilc,none,false,Za2t,by rw [Im,Am,Am]; omega,fun j h1 h2=>?_,fun v hv=>by simp at hv,fun _=>⟨rfl,rfl⟩⟩;rw [Gs h1,Af aA,Af aA,gb _ (pg _ aA h2),Bv aA,hnf _ (pg _ aA h2)];exact bm j h1 h2):p:=h
namespace QQ
theorem Avo:Ay28:=Ma28
end QQ
end
end
section
open Go
theorem Kh {f b:Bool} {p n:List Q} {c1 c2:Cap} {q:Option Q} : (ansC f p n c1 c2 q b).length=8:=by cases q <;> rfl
theorem Aah {f b:Bool} {p n:List Q} {c1 c2:Cap} {q:Option Q} : (ansC f p n c1 c2 q b).all leafOk=true:=by cases q <;> rfl
theorem Va {e e':List AV} (h:e.length=e'.length):over e 0 e'=some e':=by
 have:=R5 (r:=[]) h;exact Ya1f
end
section
open Go Go.Proofs.Tryz
open Go.Proofs.Tryz renaming func153->ga2,ntmps153->ga3,results153->ga4
open Go.Proofs.YthelkgdmgihhiaaGreat renaming ceW->ga0,Aq->ga1,Bg->ga5,Bo->ga6
set_option maxRecDepth 100000
namespace WW
abbrev ua0:Nat:=123
abbrev ua1:Nat:=153
abbrev ua2:Nat:=4
abbrev ua3:Nat:=0
abbrev ua4:Nat:=0
end WW
set_option maxHeartbeats 4000000
set_option maxRecDepth 100000
namespace WW
def Ar9 (S:List Ent) (tk:List Nat) (ia ea iq eq:Nat) (l:List Q) (fl:Bool) (r:Rs):Prop :=
 ∃ S' k',r=(.tup [],S',tk,k')/\S'.length=S.length/\entAt S' ia ea=some (flat ceW l)/\FAq S' iq eq fl/\∀ j,j≠ia->j≠iq->nth S' j=nth S j
end WW
section
variable (S:List Ent) (tk:List Nat) (k iq eq:Nat) (fl:Bool)
namespace WW
theorem Axi:Ay0:=Ma0
end WW
end
end
section
open Go
open Go.Proofs.YthelkgdmgihhiaaGreat renaming ceW->ga0
set_option maxRecDepth 100000
namespace WW
structure A2 (S:List Ent) (iq eq:Nat) (I:TI) (t:Tb) (c:Cap):Prop where
 top:entAt S I.it I.et=some [.ifc 123 (rcvQ iq eq),intA t.vars,intA t.real,dq I.ir I.er 1 t.rows.length,.sref I.ic I.ec 0 t.cost.length 4,dq I.ib I.eb 1 t.rows.length,.frz (t.flip.map Dx) c]
 nids:I.ids.length=t.rows.length
 rowsE:t.rows≠[]->entAt S I.ir I.er=some (I.ids.map (g8 t.cost.length 4))
 rowE:∀ i p r,nth I.ids i=some p->nth t.rows i=some r->entAt S p.1 p.2=some (flat ceW r)
 rowW:∀ r ∈ t.rows,r.length=t.cost.length
 costE:entAt S I.ic I.ec=some (flat ceW t.cost)
 basisE:t.rows≠[]->entAt S I.ib I.eb=some (t.basis.map intA)
 nb:t.basis.length=t.rows.length
 nf:t.flip.length=t.rows.length
 fa:FAq S iq eq t.fl
 ap:Apart I iq
 okr:∀ r ∈ t.rows,okL qF r
 okc:okL qF t.cost
 bigW:t.cost.length<=1000000
 bigM:t.rows.length<=1000000
 real:t.real<t.cost.length
 bB:∀ b ∈ t.basis,b<t.cost.length
end WW
section
variable {S S':List Ent} {iq eq:Nat} {I:TI} {t:Tb} {c:Cap}
namespace WW
theorem A2.row:Ay1:=fun {S S' iq eq I t c}=>Ma1
theorem A2.setCost:Ay2:=fun {S S' iq eq I t c}=>Ma2
theorem A2.setBasis:Ay3:=fun {S iq eq I t c}=>Ma3
theorem A2.flag:Ay4:=fun {S S' iq eq I t c}=>Ma4
theorem A2.app:Ay5:=fun {S iq eq I t c}=>Ma5
structure LowQ (I:TI) (iq n:Nat) (t:Tb):Prop where
 it:I.it<n
 ic:I.ic<n
 ir:t.rows≠[]->I.ir<n
 ib:t.rows≠[]->I.ib<n
 row:∀ p ∈ I.ids,p.1<n
 iq:True
theorem A2.low (h:A2 S iq eq I t c):LowQ I iq S.length t:=by
 refine ⟨Ba h.top,Ba h.costE,fun hn=>Ba (h.rowsE hn),fun hn=>Ba (h.basisE hn),fun p hp=>?_,trivial⟩;exact Yak
theorem A2.take:Ay6:=fun {S iq eq I t c}=>Ma6
theorem LowQ.of {n:Nat} {t':Tb} (h:LowQ I iq n t) (hn:t'.rows≠[]->t.rows≠[]):LowQ I iq n t':=⟨h.it,h.ic,fun h'=>h.ir (hn h'),fun h'=>h.ib (hn h'),h.row,h.iq⟩
theorem A2.frame:Ay7:=fun {S S' iq eq I t c}=>Ma7
def Z9 (S:List Ent) (tk:List Nat) (iq eq:Nat) (I:TI) (t':Tb) (cc:Cap) (v:AV) (r:Rs):Prop :=
 ∃ S' k',r=(v,S',tk,k')/\S'.length=S.length/\A2 S' iq eq I t' cc/\∀ j,OutQ I iq j->nth S' j=nth S j
end WW
end
end
section
open Go Go.Proofs.Tryz
open Go.Proofs.Tryz renaming func150->ga7,ntmps150->ga8,results150->ga9
open Go.Proofs.YthelkgdmgihhiaaGreat renaming ceW->ga0,Aq->ga1,Bg->ga5,Bo->ga6
set_option maxRecDepth 100000
namespace WW
abbrev ua5:Nat:=150
end WW
set_option maxHeartbeats 8000000
set_option maxRecDepth 100000
section
variable (S:List Ent) (tk:List Nat) (k iq eq:Nat)
namespace WW
theorem Axz:Ay8:=Ma8
end WW
end
end
section
open Go Go.Proofs.Tryz
open Go.Proofs.Tryz renaming func149->ga10,ntmps149->ga11,results149->ga12
open Go.Proofs.YthelkgdmgihhiaaGreat renaming ceW->ga0,Aq->ga1,Bg->ga5,Bo->ga6
set_option maxRecDepth 100000
namespace WW
abbrev ua6:Nat:=149
end WW
set_option maxHeartbeats 8000000
set_option maxRecDepth 100000
section
variable (S:List Ent) (tk:List Nat) (k iq eq:Nat)
namespace WW
theorem Aq1:Ay9:=Ma9
end WW
end
end
section
open Go Go.Proofs.Tryz
open Go.Proofs.Tryz renaming func122->ga13,ntmps122->ga14,results122->ga15
open Go.Proofs.YthelkgdmgihhiaaGreat renaming ceW->ga0,Aq->ga1
set_option maxRecDepth 100000
namespace WW
abbrev ua7:Nat:=122
end WW
set_option maxHeartbeats 8000000
set_option maxRecDepth 100000
section
variable (S:List Ent) (tk:List Nat) (k iq eq:Nat)
namespace WW
theorem Aqe:Ay10:=Ma10
end WW
end
end
section
open Go Go.Proofs.Tryz
open Go.Proofs.Tryz renaming func123->ga16,ntmps123->ga17,results123->ga18,func151->ga19,ntmps151->ga20,results151->ga21
open Go.Proofs.YthelkgdmgihhiaaGreat renaming ceW->ga0,Aq->ga1,Bg->ga5
set_option maxRecDepth 100000
namespace WW
abbrev ua8:Nat:=123
abbrev ua9:Nat:=151
end WW
set_option maxHeartbeats 4000000
set_option maxRecDepth 100000
namespace WW
def Av3 (S:List Ent) (tk:List Nat) (iq eq:Nat) (y:Q × Bool) (r:Rs):Prop:=∃ k',r=(.agg (ceW y.1),flS S iq eq y.2,tk,k')
end WW
section
variable (S:List Ent) (tk:List Nat) (k iq eq:Nat)
namespace WW
theorem Al2:Ay11:=Ma11
theorem Ala:Ay12:=Ma12
end WW
end
end
section
open Go
set_option maxRecDepth 100000
namespace WW
theorem E3 (n:Int) (hn:i64 n):qF.ok (qF.whole n).1:=Dk.whole n hn
theorem Ak7:Ay13:=fun {S iq eq I t cc c}=>Ma13
end WW
end
section
open Go Go.Proofs.Tryz
open Go.Proofs.Tryz renaming func125->ga22,ntmps125->ga23,results125->ga24,func124->ga25,ntmps124->ga26,results124->ga27
open Go.Proofs.YthelkgdmgihhiaaGreat renaming ceW->ga0,Aq->ga1,Bg->ga5,Bo->ga6
set_option maxRecDepth 100000
namespace WW
abbrev ua10:Nat:=125
abbrev ua11:Nat:=0
abbrev ua12:Nat:=124
end WW
set_option maxHeartbeats 8000000
set_option maxRecDepth 100000
namespace WW
def Lp (l:List Q):List (List AV):=l.map fun q=>ceW (qF.rat q)
theorem Ag5 (l:List Q):Dz 4 (Lp l)=true:=Za1b
def Apa (S:List Ent) (iq eq:Nat) (I:TI) (t':Tb) (cc:Cap) (l:List Q) (r:Rs):Prop :=
 ∃ S' k' tk' c,r=(.frz (Lp l) c,S',tk',k')/\S'.length=S.length/\A2 S' iq eq I t' cc/\∀ j,OutQ I iq j->nth S' j=nth S j
end WW
section
variable (S:List Ent) (tk:List Nat) (k iq eq:Nat)
namespace WW
theorem Ax1:Ay14:=Ma14
theorem Ab8:Ay15:=Ma15
end WW
end
end
section
open Go
open Go.Proofs.YthelkgdmgihhiaaGreat renaming ceW->ga0
set_option maxRecDepth 100000
namespace WW
theorem A2.add:Ay16:=fun {S S' iq eq I t c c' ir er ib eb id nr b f fl' row}=>Ma16
structure G1 (S SS:List Ent) (iq eq:Nat) (I:TI) (t:Tb) (cp:Cap) (L nz n15 n16 n19:Nat) (z:Q) (r:RowT) (row:List Q) (u:Q):Prop where
 T:A2 SS iq eq I t cp
 low:LowQ I iq L t
 Z:entAt SS (S.length+1) nz=some (ceW z)
 E15:entAt SS L n15=some (rowC r)
 E16:entAt SS (L+1) n16=some (flat ceW row)
 E19:entAt SS (L+2) n19=some (ceW u)
 len:SS.length=L+3
 fr:∀ j,j<S.length->j≠iq->nth SS j=nth S j
 qL:iq<S.length
 SL:S.length+3<=L
 ic:I.ic=S.length+2
end WW
section
variable {S SS S':List Ent} {iq eq:Nat} {I:TI} {t:Tb} {cp:Cap} {L nz n15 n16 n19:Nat} {z u:Q} {r:RowT} {row:List Q}
namespace WW
theorem G1.flag:Ay17:=fun {S SS S' iq eq I t cp L nz n15 n16 n19 z u r row fl'}=>Ma17
theorem G1.put:Ay18:=fun {S SS iq eq I t cp L nz n15 n16 n19 z u r row}=>Ma18
theorem G1.unit:Ay19:=fun {S SS iq eq I t cp L nz n15 n16 n19 z u r row}=>Ma19
theorem G1.cost:Ay20:=fun {S SS iq eq I t cp L nz n15 n16 n19 z u r row k'}=>Ma20
end WW
end
end
section
open Go
namespace WW
def Ajq (S:List Ent) (l:List RowT) (vars:List ByteArray) (fl:Bool) (k iq eq c W nz:Nat) (z:Q) (i:Nat) (st:St):Prop :=
 ∃ sl t1 I cp,i<=l.length/\Bl qF l vars fl=begS qF z vars c W (l.drop i) i sl t1/\A2 st.S iq eq I t1 cp/\t1.rows.length=i/\t1.cost.length=W/\t1.real=c/\t1.vars=vars.length/\sl+neqs (l.drop i)=c/\Be st.tk cp 1=true/\entAt st.S (S.length+1) nz=some (ceW z)/\S.length+3<=st.S.length/\(∀ j,j<S.length->j≠iq->nth st.S j=nth S j)/\(I.it=S.length/\I.et=k/\I.ic=S.length+2)/\(S.length+2<I.ir/\S.length+2<I.ib/\∀ p ∈ I.ids,S.length+2<p.1) /\
  st.T.length=270/\getT st.T 0=.ifc 123 (rcvQ iq eq)/\getT st.T 1=.frz (l.map rowC) .unk/\getT st.T 2=.frz (vars.map strC) .unk/\getT st.T 7=.ref S.length k 0/\getT st.T 10=.int (sl:Nat)/\getT st.T 11=.int (W:Nat)/\getT st.T 12=.ref (S.length+1) nz 0/\getT st.T 83=.frz (l.map rowC) .unk/\getT st.T 84=.int (l.length:Nat)/\getT st.T 85=.int (i:Nat)
end WW
end
end Go.Proofs.YthelkgdmgihhiaaGreat
