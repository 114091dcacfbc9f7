/- Part 19. -/
import Derived.Test.YtcjffhadclngmaaGreatZC18
open Bool renaming or->Cj,or_false->Fk,or_assoc->Fo,false_ne_true->F6,false_or->Oi
open Classical renaming choose_spec->jS
open Go.IntKind renaming i64->Ca
open Go.Proofs.YtcjffhadclngmaaGreat.AV renaming bool->Bg,int->Cb,str->Cc
open List renaming replicate->Cf,length_cons->Ch,length_append->Cm,cons_append->Cn,length_nil->Co,nil_append->Cq,map_cons->Ct,getElem?_eq_none->Cu,mem_cons->Cv,getElem?_map->Cw,drop_eq_nil_of_le->Cy,getElem?_append_left->C3,length_eq_zero_iff->C4,mem_append->C5,take_of_length_le->C6,map_nil->Ei,append_assoc->Fa,all_eq_true->Fb,getElem?_append_right->Fc,length_map->Fj,take_length->Fm,mem_map->Ft,mem_singleton->Fu,append_nil->Fy,map_append->F4,take->Ib,length_take->Iu,mem_replicate->Ix,length_replicate->I1,drop->I7,getElem?_cons_zero->Oc,replicate_succ->Om,singleton_append->O2,map_map->jE,replicate_succ'->kB,map_replicate->kT
open Nat renaming le_refl->Ce,zero_le->Cl,mul_one->C9,sub_self->Ol,eq_zero_or_pos->jA
open Ne renaming symm->Ih
open Option renaming map_some->C8,getD_some->Nl,bind_some->Ou
open Option.some renaming injEq->A8
open Prod.mk renaming injEq->Cg
namespace Go.Proofs.YtcjffhadclngmaaGreat
section
open Go Tryz
open Go.Proofs.Tryz renaming f81->ga35,results81->ga36
open Go.Proofs.YtcjffhadclngmaaGreat renaming ceQ->ga0,Ay->ga1,puQ->ga5,Bs->ga6,A2->ga8,tkQ->ga9
set_option maxRecDepth 100000
namespace QQ
abbrev ua14:Nat:=137
end QQ
set_option maxHeartbeats 20000000
set_option maxRecDepth 100000
section
variable (S:List Ent) (l:List RowT) (vars:List ByteArray) (fl:Bool) (k iq eq c W nz:Nat) (z:Q)
abbrev Aw22 (p:Prop:=by exact ∀ (S:List Ent)(l:List RowT)(vars:List ByteArray)(fl:Bool)(k iq eq c W nz:Nat)(z:Q)(hB:BegC S l vars iq c W)(Φ:Rs->Prop)(i:Nat)(b7:i<l.length)(r:RowT)(hr:nth l i=some r)(sl2:Nat)(mn:sl2+neqs (l.drop (i+1))=c)(t1:Tb)(I:TI)(cp:Cap)(tk:List Nat)(jo:t1.rows.length=i)(hcl:t1.cost.length=W)(b9:t1.real=c)(ly:t1.vars=vars.length)(ah:Bn tk cp 1=true)(a8:I.it=S.length/\I.et=k/\I.ic=S.length+2)(lz:S.length+2<I.ir/\S.length+2<I.ib/\∀ p ∈ I.ids,S.length+2<p.1)(rowZ:List Q)(fr:Bool)(sx:rowZ.length=W)(orowZ:okL qF rowZ)(L m0 nu:Nat)(u:Q × Bool)(fb:Bool)(mo:fb=Eg r)(SZ:List Ent)(n7 lv:Nat)(pm:G7 S SZ iq eq I { t1 with fl:=Cj t1.fl fr } cp L nz m0 (m0+1) nu z r rowZ u.1)(hR:Bj qF l vars fl=begS qF z vars c W (l.drop (i+1)) (i+1) sl2 { t1 with rows:=t1.rows++[rowZ],cost:=(costL qF c W 0 t1.cost rowZ).1,basis:=t1.basis++[c+i],flip:=t1.flip++[fb],fl:=Cj (Cj t1.fl fr) (costL qF c W 0 t1.cost rowZ).2 })(back:∀ st,Ajz S l vars fl k iq eq c W nz z (i+1) st->Gd finM Φ (KA prog ga35 18 [] st))(T:List AV)(hT:T.length=270)(e0:getT T 0=.ifc ua0 (rcvQ iq eq))(e1:getT T 1=.frz (l.map rowC) .unk)(e2:getT T 2=.frz (vars.map strC) .unk)(e7:getT T 7=.ref S.length k 0)(e10:getT T 10=.int (sl2:Nat))(e11:getT T 11=.int (W:Nat))(e12:getT T 12=.ref (S.length+1) nz 0)(e14:getT T 14=.int (i:Nat))(e15:getT T 15=.ref L m0 0)(e16:getT T 16=.sref (L+1) (m0+1) 0 W ua2)(e18:getT T 18=.prim (.bool fb))(e19:getT T 19=.ref (L+2) nu 0)(e83:getT T 83=.frz (l.map rowC) .unk)(e84:getT T 84=.int (l.length:Nat))(e85:getT T 85=.int (i:Nat))(e194:getT T 194=.int (W:Nat))(e195:getT T 195=.int ((0:Nat):Int)),Gd finM Φ (KA prog ga35 43 [lv] ⟨T,SZ,tk,n7⟩)):=p
theorem Ma22 {p:Prop} (h:p:=by
 intro S l vars fl k iq eq c W nz z hB Φ i b7 r hr sl2 mn t1 I cp tk jo hcl b9 ly ah a8 lz rowZ fr sx orowZ L m0 nu u fb mo SZ n7 lv pm hR back T hT e0 e1 e2 e7 e10 e11 e12 e14 e15 e16 e18 e19 e83 e84 e85 e194 e195;obtain ⟨hl,gm,hv,hc,dq,m9,yj,nv⟩:=hB;have hnl:=Pf l;have wv:Ca.wrap ((W:Int) - 1)=((W - 1:Nat):Int):=aS
 have ig:W - 1<W:=aA
 have mq:Ca.wrap ((c:Int)+(i:Int))=((c+i:Nat):Int):=aK
 have hwi:Ca.wrap ((i:Int)+1)=((i+1:Nat):Int):=aK
 have yt:c+i<W:=aA
 refine W3 rfl (t:=.mk) ?_;refine Dp (P:=prog) (fun x st=>st.T.length=270/\(costL qF c W 0 t1.cost rowZ=(x.2.2.1++(costL qF c W x.2.2.1.length x.2.2.2.1 (rowZ.drop x.2.2.1.length)).1,Cj x.2.2.2.2 (costL qF c W x.2.2.1.length x.2.2.2.1 (rowZ.drop x.2.2.1.length)).2))/\(x.2.2.1.length+x.2.2.2.1.length=W)/\(G7 S x.1 iq eq I { t1 with cost:=x.2.2.1++x.2.2.2.1,fl:=Cj (Cj t1.fl fr) x.2.2.2.2 } cp L nz m0 (m0+1) nu z r rowZ u.1)/\getT st.T 0=.ifc ua0 (rcvQ iq eq)/\getT st.T 1=.frz (l.map rowC) .unk/\getT st.T 2=.frz (vars.map strC) .unk/\getT st.T 7=.ref S.length k 0/\getT st.T 10=.int (sl2:Nat)/\getT st.T 11=.int (W:Nat)/\getT st.T 12=.ref (S.length+1) nz 0/\getT st.T 14=.int (i:Nat)/\getT st.T 15=.ref L m0 0/\getT st.T 16=.sref (L+1) (m0+1) 0 W ua2/\getT st.T 18=.prim (.bool fb)/\getT st.T 19=.ref (L+2) nu 0/\getT st.T 83=.frz (l.map rowC) .unk/\getT st.T 84=.int (l.length:Nat)/\getT st.T 85=.int (i:Nat)/\getT st.T 194=.int (W:Nat)/\getT st.T 195=.int (x.2.2.1.length:Nat)/\st.S=x.1/\st.tk=tk/\st.n=x.2.1) (fun x=>x.2.2.2.1.length) (SZ,n7,([]:List Q),t1.cost,false) ?_ ?_;case refine_2=>exact ⟨aH,rfl,by simpa using hcl,by simp only [Cq,Fk]; exact pm,aH,aH,aH,aH,aH,aH,aH,aH,aH,aH,aH,aH,aH,aH,aH,aH,aH,aH,aH,aH⟩
 rintro ⟨SS,n1,p,v,fq⟩ ⟨T,S',tk',n'⟩ ⟨hl,ny,jc,ak,e0,e1,e2,e7,e10,e11,e12,e14,e15,e16,e18,e19,e83,e84,e85,e194,e195,eS,eT,eN⟩ IH;simp only at ny jc ak e0 e1 e2 e7 e10 e11 e12 e14 e15 e16 e18 e19 e83 e84 e85 e194 e195 eS eT eN;subst eS eT eN;obtain ⟨g,hg,hT⟩:=Au hl;rw [hg] at e0 e1 e2 e7 e10 e11 e12 e14 e15 e16 e18 e19 e83 e84 e85 e194 e195;subst hT;clear hg hl;have gi:(p++v).length=W:=by simpa using jc
 have ev:=ak.T.top;simp only [a8.1,a8.2.1,a8.2.2,gi,b9,ly,jo,intA] at ev;by_cases sy:p.length<W
 ·have c2:decide ((p.length:Int)<(W:Int))=true:=gQ
  obtain ⟨a0,v,rfl⟩:∃ a0 v',v=a0 :: v':=by
   exact Ya3z
  obtain ⟨r0,cg⟩:=Af (show p.length<rowZ.length by omega);have da:=A1 cg;have oa0:qF.ok a0:=ak.T.okc a0 (by simp);have or0:qF.ok r0:=orowZ r0 (Ak cg);have hw:Ca.wrap ((p.length:Int)+1)=(((p++[a0]).length:Nat):Int):=bI
  have vj:v.length<(a0 :: v).length:=by simp
  have y8:∀ a:Q,(p++[a]).length=p.length+1:=fun a=>by simp
  rw [da] at ny;simp only [costL] at ny;by_cases hk1:p.length<c
  ·have c6:decide ((p.length:Int)<(c:Int))=true:=by simpa using hk1
   have aj:Kq qF c W p.length a0 r0=qF.minus a0 r0:=by unfold Kq; rw [if_pos (Or.inl hk1)]
   have c7:=c6;have c7b:=c6;exact Ya5
  ·have c6:decide ((p.length:Int)<(c:Int))=false:=by simpa using hk1
   by_cases cq:p.length=W - 1
   ·have c7:decide ((p.length:Int)=((W - 1:Nat):Int))=true:=by exact decide_eq_true aA
    have c7b:((p.length:Int) == ((W - 1:Nat):Int))=true:=by exact decide_eq_true aA
    have aj:Kq qF c W p.length a0 r0=qF.minus a0 r0:=by unfold Kq; rw [if_pos (Or.inr cq)]
    exact Ya5
   ·have a06:¬ ((p.length:Int)=((W - 1:Nat):Int)):=fun h=>cq aA;have c7:decide ((p.length:Int)=((W - 1:Nat):Int))=false:=by simpa using a06
    have c7b:((p.length:Int) == ((W - 1:Nat):Int))=false:=by simpa using a06
    have aj:Kq qF c W p.length a0 r0=(a0,false):=by unfold Kq; rw [if_neg aA]
    rw [aj] at ny;simp (maxSteps:=10^6)+contextual(disch:=try exact dqd)only[evg1,simprocAttr,Cb,Bg,Cc,ga36,e0,e1,e2,e7,e10,e11,e12,e14,e15,e16,e18,e19,e83,e84,e85,e194,e195,c2,c6,c7,c7b,hw,wv,ev];exact IH (S',n',p++[a0],v,fq) _ aF ⟨rfl,by rw [ny,y8]; simp only [Fa,Cn,Cq,Oi],by show (p++[a0]).length+v.length=W; simp only [Cm,Ch,Co] at jc ⊢; omega,by simpa using ak,bJ⟩
 ·have c2:decide ((p.length:Int)<(W:Int))=false:=gQ
  have ww:v=[]:=C4.1 aA;subst ww;simp only [costL,Fy,Fk] at ny ak gi ev;rw [ny] at hR;simp only at hR;clear IH ny;obtain ⟨m7,hm7⟩:∃ m7,m7=n':=⟨_,rfl⟩;subst hm7;obtain ⟨SW,hSW⟩:∃ SW,SW=S':=⟨_,rfl⟩;subst hSW;have hlW:=ak.len;have hSL:=ak.SL;have hqL:=ak.qL;have lu:(t1.flip.map De).length+1<=1048576:=by rw [Fj,ak.T.nf]; simp only; omega
  have hfo:Dk 1 (t1.flip.map De)=true:=by
   unfold Dk;rw [Fb];intro e he;obtain ⟨b,-,rfl⟩:=Ft.1 he;rfl
  have cd:=apB_one (y:=[.prim (.bool fb)]) ah hfo rfl lu;have gt:=B3 ah;have a07:(t1.flip++[fb]).map De=t1.flip.map De++[[.prim (.bool fb)]]:=by simp [De]
  rcases jA i with fo|fo
  ·rw [fo] at ev;simp only [di] at ev;have y9:S.length<SW.length:=aA
   have hP:∀ e x:Ent,put (SW++[e]) S.length x=put SW S.length x++[e]:=fun e x=>B4 y9;have hQ:∀ y e x:Ent,put (put SW S.length y++[e]) S.length x=put SW S.length x++[e]:=fun y e x=>by rw [B4 (by rw [Ai]; exact y9),Ms]
   have tx:∀ y e e' x:Ent,put (put SW S.length y++[e]++[e']) S.length x=put SW S.length x++[e]++[e']:=fun y e e' x=>by rw [B4 (by rw [Cm,Ai]; omega),hQ]
   have hE:∀ cs,entAt (put SW S.length ⟨k,cs⟩) S.length k=some cs:=fun cs=>Ae y9;have hEa:∀ cs e,entAt (put SW S.length ⟨k,cs⟩++[e]) S.length k=some cs:=fun cs e=>Ad (hE cs);have hEb:∀ cs e e',entAt (put SW S.length ⟨k,cs⟩++[e]++[e']) S.length k=some cs:=fun cs e e'=>Ad (hEa cs e);have gc:∀ e,entAt (SW++[e]) S.length k=_:=fun e=>Ad ev;have za:∀ y e:Ent,(put SW S.length y++[e]).length=L+4:=fun y e=>by rw [Cm,Ai,hlW]; rfl
   have ew:∀ S n,apO prog ua14 (.frz [] .nilc) (.lit 1 [.sref (L+1) (m0+1) 0 W ua2]) S n=some (.sref S.length n 0 1 1,S++[⟨n,[.sref (L+1) (m0+1) 0 W ua2]⟩],n+1):=fun S n=>Aks aI rfl;have wx:∀ (c:Cap) x S n,apO prog 37 (.frz [] .nilc) (.frz [[.prim (.int .i64 x)]] c) S n=some (.sref S.length n 0 1 1,S++[⟨n,[.prim (.int .i64 x)]⟩],n+1):=fun c x S n=>Akr aI rfl;simp (maxSteps:=10^6)+contextual(disch:=try exact dqd)only[evg1,simprocAttr,Cb,Bg,Cc,ga36,e0,e1,e2,e7,e10,e11,e12,e14,e15,e16,e18,e19,e83,e84,e85,e194,e195,c2,ev,gc,mq,hwi,cd,ew,wx,Qs,hP,hQ,tx,hE,hEa,hEb,za,hlW];have hne:0<i->t1.rows≠[]:=fun h=>aA
   have lx:I.ids=[]:=C4.1 (by rw [ak.T.nids]; simp only; omega);have wt:t1.basis=[]:=C4.1 (by have:=ak.T.nb; simp only at this; omega);obtain ⟨SF,mu⟩:∃ SF,SF=put SW S.length ⟨k,[.ifc ua0 (rcvQ iq eq),.int (vars.length:Nat),.int (c:Nat),.sref (L+3) m7 0 1 1,.sref (S.length+2) I.ec 0 W ua2,.sref (L+4) (m7+1) 0 1 1,.frz (t1.flip.map De++[[.prim (.bool fb)]]) (A6 tk' cp 1)]⟩++[⟨m7,[.sref (L+1) (m0+1) 0 W ua2]⟩]++[⟨m7+1,[.prim (.int .i64 ((c+i:Nat):Int))]⟩]:=⟨_,rfl⟩;rw [<- mu];have yv:(put SW S.length ⟨k,[.ifc ua0 (rcvQ iq eq),.int (vars.length:Nat),.int (c:Nat),.sref (L+3) m7 0 1 1,.sref (S.length+2) I.ec 0 W ua2,.sref (L+4) (m7+1) 0 1 1,.frz (t1.flip.map De++[[.prim (.bool fb)]]) (A6 tk' cp 1)]⟩).length=L+3:=by rw [Ai,hlW]
   have htF:entAt SF S.length k=some [.ifc ua0 (rcvQ iq eq),.int (vars.length:Nat),.int (c:Nat),.sref (L+3) m7 0 (i+1) 1,.sref (S.length+2) I.ec 0 W ua2,.sref (L+4) (m7+1) 0 (i+1) 1,.frz (t1.flip.map De++[[.prim (.bool fb)]]) (A6 tk' cp 1)]:=by rw [mu,hEb,fo]
   have hrF:entAt SF (L+3) m7=some ((I.ids++[(L+1,m0+1)]).map (da W ua2)):=by rw [mu,lx]; exact Ad (Am yv)
   have hbF:entAt SF (L+4) (m7+1)=some ((t1.basis++[c+i]).map intA):=by rw [mu,wt]; exact Am (by rw [Cm,yv]; rfl)
   have mw:∀ j,j<L+3->j≠S.length->(0<i->j≠I.ir/\j≠I.ib)->nth SF j=nth SW j:=fun j h1 h2 _=>by
    rw [mu,Ax (by rw [Cm,yv]; omega),Ax (by rw [yv]; exact h1),Ab (Ih h2)]
   have hlF:SF.length=L+5:=by rw [mu,Cm,Cm,yv]; rfl
   have hIR:S.length+2<L+3:=aA
   have hIB:S.length+2<L+4:=aA
   have hAp:Apart ⟨I.it,I.et,L+3,m7,I.ic,I.ec,L+4,m7+1,I.ids++[(L+1,m0+1)]⟩ iq:=by
    rw [lx];constructor <;> first|(simp only; omega)|skip
    ·intro q hq;simp only [Cq,Fu] at hq;subst hq;simp only;exact ⟨aA,aA,aA,aA,aA⟩
    ·intro a b x y hx hy hab;have h1:=Br hx;have h2:=Br hy;simp only [Cq,Ch,Co] at h1 h2;omega
   have hRA:A7 SF iq eq ⟨I.it,I.et,(L+3),m7,I.ic,I.ec,(L+4),(m7+1),I.ids++[(L+1,m0+1)]⟩ { t1 with rows:=t1.rows++[rowZ],cost:=p,basis:=t1.basis++[c+i],flip:=t1.flip++[fb],fl:=Cj (Cj t1.fl fr) fq } (A6 tk' cp 1):=by
    exact Yaf
   refine Mo rfl (back _ ⟨sl2,_,_,A6 tk' cp 1,aA,hR,hRA,by simp [jo],gi,b9,ly,mn,gt,?_,?_,fun j h1 h2=>?_,⟨a8.1,a8.2.1,a8.2.2⟩,⟨hIR,hIB,fun q hq=>?_⟩,rfl,rfl,rfl,rfl,rfl,rfl,rfl,rfl,rfl,rfl,rfl⟩)
   ·exact Ya3i
   ·show _<=SF.length;omega
   ·exact Ya3j
   ·rcases C5.1 hq with hq|hq
    ·exact lz.2.2 q hq
    ·simp only [Fu] at hq; subst hq; simp only; omega
  ·rw [A9 fo,A9 fo] at ev;have hne:0<i->t1.rows≠[]:=fun h h0=>by rw [h0] at jo; simp only [Co] at jo; omega
   have y9:S.length<SW.length:=aA
   have cd:=ak.T.ap;have a50:I.ir<L:=ak.low.ir (hne fo);have a52:I.ib<L:=ak.low.ib (hne fo);have hrb:=cd.rb;have ff:entAt SW I.ir I.er=some (I.ids.map (da W ua2)):=by have h:=ak.T.rowsE (hne fo); simp only [gi] at h; exact h
   have jf:entAt SW I.ib I.eb=some (t1.basis.map intA):=ak.T.basisE (hne fo);have iw:(I.ids.map (da W ua2)).length=i:=by rw [Fj,ak.T.nids]; exact jo
   have hbl:(t1.basis.map intA).length=i:=by rw [Fj]; have:=ak.T.nb; simp only at this; omega
   obtain ⟨U1,zc⟩:∃ U1,U1=put SW I.ir ⟨m7,I.ids.map (da W ua2)++[.sref (L+1) (m0+1) 0 W ua2]⟩:=⟨_,rfl⟩;have hl1:U1.length=L+3:=by rw [zc,Ai]; exact hlW
   have cj:entAt U1 S.length k=some [.ifc ua0 (rcvQ iq eq),.int (vars.length:Nat),.int (c:Nat),.sref I.ir I.er 0 i 1,.sref (S.length+2) I.ec 0 W ua2,.sref I.ib I.eb 0 i 1,.frz (t1.flip.map De) cp]:=by rw [zc,Ah aA]; exact ev
   obtain ⟨U2,zd⟩:∃ U2,U2=put U1 S.length ⟨k,[.ifc ua0 (rcvQ iq eq),.int (vars.length:Nat),.int (c:Nat),.sref I.ir m7 0 (i+1) 1,.sref (S.length+2) I.ec 0 W ua2,.sref I.ib I.eb 0 i 1,.frz (t1.flip.map De) cp]⟩:=⟨_,rfl⟩;have hl2:U2.length=L+3:=by rw [zd,Ai]; exact hl1
   have lw:entAt U2 S.length k=some [.ifc ua0 (rcvQ iq eq),.int (vars.length:Nat),.int (c:Nat),.sref I.ir m7 0 (i+1) 1,.sref (S.length+2) I.ec 0 W ua2,.sref I.ib I.eb 0 i 1,.frz (t1.flip.map De) cp]:=by rw [zd]; exact Ae aA
   have hb2:entAt U2 I.ib I.eb=some (t1.basis.map intA):=by rw [zd,Ah aA,zc,Ah hrb]; exact jf
   obtain ⟨U3,ze⟩:∃ U3,U3=put U2 I.ib ⟨m7+1,t1.basis.map intA++[.prim (.int .i64 ((c+i:Nat):Int))]⟩:=⟨_,rfl⟩;have dz:U3.length=L+3:=by rw [ze,Ai]; exact hl2
   have md:entAt U3 S.length k=some [.ifc ua0 (rcvQ iq eq),.int (vars.length:Nat),.int (c:Nat),.sref I.ir m7 0 (i+1) 1,.sref (S.length+2) I.ec 0 W ua2,.sref I.ib I.eb 0 i 1,.frz (t1.flip.map De) cp]:=by rw [ze,Ah aA]; exact lw
   obtain ⟨U4,zf⟩:∃ U4,U4=put U3 S.length ⟨k,[.ifc ua0 (rcvQ iq eq),.int (vars.length:Nat),.int (c:Nat),.sref I.ir m7 0 (i+1) 1,.sref (S.length+2) I.ec 0 W ua2,.sref I.ib (m7+1) 0 (i+1) 1,.frz (t1.flip.map De) cp]⟩:=⟨_,rfl⟩;have oq:U4.length=L+3:=by rw [zf,Ai]; exact dz
   have sw:entAt U4 S.length k=some [.ifc ua0 (rcvQ iq eq),.int (vars.length:Nat),.int (c:Nat),.sref I.ir m7 0 (i+1) 1,.sref (S.length+2) I.ec 0 W ua2,.sref I.ib (m7+1) 0 (i+1) 1,.frz (t1.flip.map De) cp]:=by rw [zf]; exact Ae aA
   obtain ⟨SF,mu⟩:∃ SF,SF=put U4 S.length ⟨k,[.ifc ua0 (rcvQ iq eq),.int (vars.length:Nat),.int (c:Nat),.sref I.ir m7 0 (i+1) 1,.sref (S.length+2) I.ec 0 W ua2,.sref I.ib (m7+1) 0 (i+1) 1,.frz (t1.flip.map De++[[.prim (.bool fb)]]) (A6 tk' cp 1)]⟩:=⟨_,rfl⟩;have hlF:SF.length=L+3:=by rw [mu,Ai]; exact oq
   have a25:=apB_one (y:=[.prim (.bool fb)]) ah hfo rfl lu;have ew:apO prog ua14 (.sref I.ir I.er 0 i 1) (.lit 1 [.sref (L+1) (m0+1) 0 W ua2]) SW m7=some (.sref I.ir m7 0 (i+1) 1,U1,m7+1):=by rw [zc]; exact Af8 aI rfl ff iw fo aA
   have wx:∀ cc:Cap,apO prog 37 (.sref I.ib I.eb 0 i 1) (.frz [[.prim (.int .i64 ((c+i:Nat):Int))]] cc) U2 (m7+1)=some (.sref I.ib (m7+1) 0 (i+1) 1,U3,m7+1+1):=fun cc=>by rw [ze]; exact Af7 aI rfl hb2 hbl fo aA
   have fh:=zd.symm;have wy:=zf.symm;have hs5:=mu.symm;simp (maxSteps:=10^6)+contextual(disch:=try exact dqd)only[evg1,simprocAttr,Cb,Bg,Cc,ga36,e0,e1,e2,e7,e10,e11,e12,e14,e15,e16,e18,e19,e83,e84,e85,e194,e195,c2,ev,mq,hwi,a25,ew,wx,Qs,cj,lw,md,sw,fh,wy,hs5];have htF:entAt SF S.length k=some [.ifc ua0 (rcvQ iq eq),.int (vars.length:Nat),.int (c:Nat),.sref I.ir m7 0 (i+1) 1,.sref (S.length+2) I.ec 0 W ua2,.sref I.ib (m7+1) 0 (i+1) 1,.frz (t1.flip.map De++[[.prim (.bool fb)]]) (A6 tk' cp 1)]:=by rw [mu]; exact Ae aA
   have hrF:entAt SF I.ir m7=some ((I.ids++[(L+1,m0+1)]).map (da W ua2)):=by
    rw [mu,Ah aA,zf,Ah aA,ze,Ah (Ih hrb),zd,Ah aA,zc,Ae aA];simp [da]
   have hbF:entAt SF I.ib (m7+1)=some ((t1.basis++[c+i]).map intA):=by
    rw [mu,Ah aA,zf,Ah aA,ze,Ae aA];simp [intA]
   have mw:∀ j,j<L+3->j≠S.length->(0<i->j≠I.ir/\j≠I.ib)->nth SF j=nth SW j:=fun j h1 h2 h3=>by
    have h4:=h3 fo;rw [mu,Ab (Ih h2),zf,Ab (Ih h2),ze,Ab (Ih h4.2),zd,Ab (Ih h2),zc,Ab (Ih h4.1)]
   have hIR:S.length+2<I.ir:=lz.1;have hIB:S.length+2<I.ib:=lz.2.1;have hAp:Apart ⟨I.it,I.et,I.ir,m7,I.ic,I.ec,I.ib,m7+1,I.ids++[(L+1,m0+1)]⟩ iq:=by
    refine ⟨cd.tr,cd.tc,cd.tb,cd.rc,cd.rb,cd.cb,cd.qt,cd.qr,cd.qc,cd.qb,fun q hq=>?_,fun a b x y hx hy hab=>?_⟩
    ·rcases C5.1 hq with hq|hq
     ·exact cd.row q hq
     ·simp only [Fu] at hq;subst hq;simp only;exact ⟨aA,aA,aA,aA,aA⟩
    ·have h1:=Br hx;have h2:=Br hy;rw [Cm] at h1 h2;simp only [Ch,Co] at h1 h2;rw [Ag] at hx hy;by_cases ha:a<I.ids.length
     ·rw [C3 ha,<- Ag] at hx;by_cases hb:b<I.ids.length
      ·rw [C3 hb,<- Ag] at hy;exact cd.rows a b x y hx hy hab
      ·have hb2:b=I.ids.length:=aA
       rw [hb2,Fc (Ce _),Ol] at hy;simp only [Oc,A8] at hy;subst hy;have:=ak.low.row x (Ak hx);simp only; omega
     ·have rg:a=I.ids.length:=aA
      have hb:b<I.ids.length:=aA
      rw [rg,Fc (Ce _),Ol] at hx;simp only [Oc,A8] at hx;subst hx;rw [C3 hb,<- Ag] at hy;have:=ak.low.row y (Ak hy);simp only; omega
   have hRA:A7 SF iq eq ⟨I.it,I.et,I.ir,m7,I.ic,I.ec,I.ib,(m7+1),I.ids++[(L+1,m0+1)]⟩ { t1 with rows:=t1.rows++[rowZ],cost:=p,basis:=t1.basis++[c+i],flip:=t1.flip++[fb],fl:=Cj (Cj t1.fl fr) fq } (A6 tk' cp 1):=by
    exact Yaf
   refine Mo rfl (back _ ⟨sl2,_,_,A6 tk' cp 1,aA,hR,hRA,by simp [jo],gi,b9,ly,mn,gt,?_,?_,fun j h1 h2=>?_,⟨a8.1,a8.2.1,a8.2.2⟩,⟨hIR,hIB,fun q hq=>?_⟩,rfl,rfl,rfl,rfl,rfl,rfl,rfl,rfl,rfl,rfl,rfl⟩)
   ·exact Ya3i
   ·show _<=SF.length;omega
   ·exact Ya3j
   ·rcases C5.1 hq with hq|hq
    ·exact lz.2.2 q hq
    ·simp only [Fu] at hq; subst hq; simp only; omega):p:=h
namespace QQ
theorem Au3:Aw22:=Ma22
end QQ
end
end
section
open Go Tryz
open Go.Proofs.Tryz renaming f81->ga35,results81->ga36
open Go.Proofs.YtcjffhadclngmaaGreat renaming ceQ->ga0,Ay->ga1,puQ->ga5,Bs->ga6,A2->ga8,tkQ->ga9
set_option maxRecDepth 100000
set_option maxHeartbeats 20000000
set_option maxRecDepth 100000
section
variable (S:List Ent) (l:List RowT) (vars:List ByteArray) (fl:Bool) (k iq eq c W nz:Nat) (z:Q)
abbrev Aw23 (p:Prop:=by exact ∀ (S:List Ent)(l:List RowT)(vars:List ByteArray)(fl:Bool)(k iq eq c W nz:Nat)(z:Q)(hB:BegC S l vars iq c W)(oz:qF.ok z)(Φ:Rs->Prop)(i:Nat)(b7:i<l.length)(r:RowT)(hr:nth l i=some r)(sl:Nat)(q7:sl+neqs (l.drop i)=c)(t1:Tb)(I:TI)(cp:Cap)(tk:List Nat)(jo:t1.rows.length=i)(hcl:t1.cost.length=W)(b9:t1.real=c)(ly:t1.vars=vars.length)(ah:Bn tk cp 1=true)(a8:I.it=S.length/\I.et=k/\I.ic=S.length+2)(lz:S.length+2<I.ir/\S.length+2<I.ib/\∀ p ∈ I.ids,S.length+2<p.1)(L m0 nu:Nat)(u:Q × Bool)(hU:Lg qF (Eg r)=u)(ou:qF.ok u.1)(SX:List Ent)(nx lv:Nat)(jp:G7 S SX iq eq I { t1 with fl:=Cj t1.fl u.2 } cp L nz m0 (m0+1) nu z r (Cf W z) u.1)(hR:Bj qF l vars fl=begS qF z vars c W (l.drop i) i sl t1)(back:∀ st,Ajz S l vars fl k iq eq c W nz z (i+1) st->Gd finM Φ (KA prog ga35 18 [] st))(T:List AV)(hT:T.length=270)(e0:getT T 0=.ifc ua0 (rcvQ iq eq))(e1:getT T 1=.frz (l.map rowC) .unk)(e2:getT T 2=.frz (vars.map strC) .unk)(e7:getT T 7=.ref S.length k 0)(e10:getT T 10=.int (sl:Nat))(e11:getT T 11=.int (W:Nat))(e12:getT T 12=.ref (S.length+1) nz 0)(e14:getT T 14=.int (i:Nat))(e15:getT T 15=.ref L m0 0)(e16:getT T 16=.sref (L+1) (m0+1) 0 W ua2)(e18:getT T 18=.prim (.bool (Eg r)))(e19:getT T 19=.ref (L+2) nu 0)(e83:getT T 83=.frz (l.map rowC) .unk)(e84:getT T 84=.int (l.length:Nat))(e85:getT T 85=.int (i:Nat))(e113:getT T 113=.frz (r.1.map D2) .unk)(e114:getT T 114=.int (r.1.length:Nat))(e115:getT T 115=.int ((0:Nat):Int)),Gd finM Φ (KA prog ga35 31 [lv] ⟨T,SX,tk,nx⟩)):=p
theorem Ma23 {p:Prop} (h:p:=by
 intro S l vars fl k iq eq c W nz z hB oz Φ i b7 r hr sl q7 t1 I cp tk jo hcl b9 ly ah a8 lz L m0 nu u hU ou SX nx lv jp hR back T hT e0 e1 e2 e7 e10 e11 e12 e14 e15 e16 e18 e19 e83 e84 e85 e113 e114 e115;have hB2:=hB;obtain ⟨hl,gm,hv,hc,dq,m9,yj,nv⟩:=hB2;have hnl:=Pf l;have rz:r ∈ l:=Ak hr;have po:i64 r.2.1:=(hc r rz).1;refine W3 rfl (t:=.mk) ?_;refine Dp (P:=prog) (fun x st=>st.T.length=270/\(x.2.2.1<=r.1.length)/\(coefsC qF u.1 z vars r.1 (Cf W z)=((coefsC qF u.1 z vars (r.1.drop x.2.2.1) x.2.2.2.1).1,Cj x.2.2.2.2 (coefsC qF u.1 z vars (r.1.drop x.2.2.1) x.2.2.2.1).2))/\(x.2.2.2.1.length=W)/\(okL qF x.2.2.2.1)/\(G7 S x.1 iq eq I { t1 with fl:=Cj (Cj t1.fl u.2) x.2.2.2.2 } cp L nz m0 (m0+1) nu z r x.2.2.2.1 u.1)/\getT st.T 0=.ifc ua0 (rcvQ iq eq)/\getT st.T 1=.frz (l.map rowC) .unk/\getT st.T 2=.frz (vars.map strC) .unk/\getT st.T 7=.ref S.length k 0/\getT st.T 10=.int (sl:Nat)/\getT st.T 11=.int (W:Nat)/\getT st.T 12=.ref (S.length+1) nz 0/\getT st.T 14=.int (i:Nat)/\getT st.T 15=.ref L m0 0/\getT st.T 16=.sref (L+1) (m0+1) 0 W ua2/\getT st.T 18=.prim (.bool (Eg r))/\getT st.T 19=.ref (L+2) nu 0/\getT st.T 83=.frz (l.map rowC) .unk/\getT st.T 84=.int (l.length:Nat)/\getT st.T 85=.int (i:Nat)/\getT st.T 113=.frz (r.1.map D2) .unk/\getT st.T 114=.int (r.1.length:Nat)/\getT st.T 115=.int (x.2.2.1:Nat)/\st.S=x.1/\st.tk=tk/\st.n=x.2.1) (fun x=>r.1.length - x.2.2.1) (SX,nx,0,(Cf W z),false) ?_ ?_;case refine_2=>exact ⟨aH,Cl _,rfl,by simp,fun q hq=>by rw [Ix] at hq; rw [hq.2]; exact oz,by simp only [Fk]; exact jp,aH,aH,aH,aH,aH,aH,aH,aH,aH,aH,aH,aH,aH,aH,aH,aH,aH,aH,aH,aH,aH⟩
 rintro ⟨SS,n1,j,row,f1⟩ ⟨T,S',tk',n'⟩ ⟨hl,kv,jz,dh,orow,jp,e0,e1,e2,e7,e10,e11,e12,e14,e15,e16,e18,e19,e83,e84,e85,e113,e114,e115,eS,eT,eN⟩ IH;simp only at kv jz dh orow jp e0 e1 e2 e7 e10 e11 e12 e14 e15 e16 e18 e19 e83 e84 e85 e113 e114 e115 eS eT eN;subst eS eT eN;obtain ⟨g,hg,hT⟩:=Au hl;rw [hg] at e0 e1 e2 e7 e10 e11 e12 e14 e15 e16 e18 e19 e83 e84 e85 e113 e114 e115;subst hT;clear hg hl;have jy:=dq r rz;by_cases rk:j<r.1.length
 ·have c2:decide ((j:Int)<(r.1.length:Int))=true:=cQ
  have hw:Ca.wrap ((j:Int)+1)=((j+1:Nat):Int):=aK
  obtain ⟨ct,s5⟩:=Af rk;have wz:nth (r.1.map D2) j=some [.prim (.string ct.1),.prim (.int .i64 ct.2)]:=by rw [Dx,s5]; rfl
  have pp:ct ∈ r.1:=Ak s5;have j4:=Kf (hv r rz ct pp);obtain ⟨x,hx⟩:∃ x,x=idxV vars ct.1:=⟨_,rfl⟩;rw [<- hx] at j4;have jq:=fun S tk k=>Np S tk k vars ct.1 aA;simp only [j4.1] at jq;have hb1:2*x<W:=aA
  have hb2:2*x+1<W:=aA
  have w7:Ca.wrap (2*(x:Int))=((2*x:Nat):Int):=aK
  have xa:Ca.wrap (((2*x:Nat):Int)+1)=((2*x+1:Nat):Int):=aK
  have lq:=A1 s5;have hlX:=jp.len;have dk:=jp.T.fa;have pq:i64 ct.2:=(hc r rz).2 ct pp;obtain ⟨w,gh⟩:∃ w,w=qF.whole ct.2:=⟨_,rfl⟩;have ow:qF.ok w.1:=by rw [gh]; exact Ee _ pq
  have fk:=Km (S'++[(⟨n',[.prim (.string ct.1),.prim (.int .i64 ct.2)]⟩:Ent)]) tk' (n'+1) iq eq _ ct.2 pq dk.app;have hg1:=Ek (c:=w.2) (dk.app (L:=[(⟨n',[.prim (.string ct.1),.prim (.int .i64 ct.2)]⟩:Ent)]));rw [<- gh] at fk;rw [Hj dk] at fk hg1;obtain ⟨S1a,kr⟩:∃ S1a,S1a=flS S' iq eq w.2:=⟨_,rfl⟩;have l6:=jp.flag (S':=flS S' iq eq w.2) (fun j hj=>ga8 hj) Bm dk.fS;rw [<- kr] at fk hg1 l6;have mo:=l6.T.fa;obtain ⟨y,pu⟩:∃ y,y=qF.times u.1 w.1:=⟨_,rfl⟩;have oy:qF.ok y.1:=Za2u
  have oc:=Ah6 (S1a++[(⟨n',[.prim (.string ct.1),.prim (.int .i64 ct.2)]⟩:Ent)]) tk' (n'+1+ua3) iq eq _ u.1 w.1 ou ow mo.app;have hg2:=Ek (c:=y.2) (mo.app (L:=[(⟨n',[.prim (.string ct.1),.prim (.int .i64 ct.2)]⟩:Ent)]));rw [<- pu] at oc;rw [Hj mo] at oc hg2;obtain ⟨S2a,s6⟩:∃ S2a,S2a=flS S1a iq eq y.2:=⟨_,rfl⟩;have fi:=l6.flag (S':=flS S1a iq eq y.2) (fun j hj=>ga8 hj) Bm mo.fS;rw [<- s6] at oc hg2 fi;have ko:=fi.put (put row (2*x) y.1);obtain ⟨S3a,s8⟩:∃ S3a,S3a=put S2a (L+1) ⟨m0+1,flat ga0 (put row (2*x) y.1)⟩:=⟨_,rfl⟩;rw [<- s8] at ko;have a54:=fi.len;have hP3:∀ e:Ent,put (S2a++[e]) (L+1) ⟨m0+1,flat ga0 (put row (2*x) y.1)⟩=S3a++[e]:=fun e=>by rw [B4 aA,s8]
  have ed:=ko.T.fa;obtain ⟨d,f9⟩:∃ d,d=qF.minus z y.1:=⟨_,rfl⟩;have od:qF.ok d.1:=Za2v
  have db:=L2 (S3a++[(⟨n',[.prim (.string ct.1),.prim (.int .i64 ct.2)]⟩:Ent)]) tk' (n'+1+ua3+ua4) iq eq _ z y.1 oz oy ed.app;have hg3:=Ek (c:=d.2) (ed.app (L:=[(⟨n',[.prim (.string ct.1),.prim (.int .i64 ct.2)]⟩:Ent)]));rw [<- f9] at db;rw [Hj ed] at db hg3;obtain ⟨S4a,s9⟩:∃ S4a,S4a=flS S3a iq eq d.2:=⟨_,rfl⟩;have hR4:=ko.flag (S':=flS S3a iq eq d.2) (fun j hj=>ga8 hj) Bm ed.fS;rw [<- s9] at db hg3 hR4;have a55:=hR4.len;have oe:=hR4.put (put (put row (2*x) y.1) (2*x+1) d.1);obtain ⟨S5a,my⟩:∃ S5a,S5a=put S4a (L+1) ⟨m0+1,flat ga0 (put (put row (2*x) y.1) (2*x+1) d.1)⟩:=⟨_,rfl⟩;rw [<- my] at oe;have hP5:∀ e:Ent,put (S4a++[e]) (L+1) ⟨m0+1,flat ga0 (put (put row (2*x) y.1) (2*x+1) d.1)⟩=S5a++[e]:=fun e=>by rw [B4 aA,my]
  have hl5:=oe.len;have i6:∀ e:Ent,Ib S'.length (S5a++[e])=S5a:=fun e=>by rw [hlX,<- hl5]; simp
  have jn:∀ e:Ent,entAt (S'++[e]) (L+2) nu=some (ga0 u.1):=fun e=>Ad jp.E19;have uk:∀ e:Ent,entAt (S2a++[e]) (L+1) (m0+1)=some (flat ga0 row):=fun e=>Ad fi.E16;have hE3:∀ e:Ent,entAt (S3a++[e]) (S.length+1) nz=some (ga0 z):=fun e=>Ad ko.Z;have su:∀ e:Ent,entAt (S3a++[e]) (L+1) (m0+1)=some (flat ga0 (put row (2*x) y.1)):=fun e=>Ad ko.E16;have sv:∀ e:Ent,entAt (S4a++[e]) (L+1) (m0+1)=some (flat ga0 (put row (2*x) y.1)):=fun e=>Ad hR4.E16;have fc:=A5 (ce:=ga0) ga1 (l:=row) (k:=2*x) (q':=y.1) aA;have ja:=A5 (ce:=ga0) ga1 (l:=put row (2*x) y.1) (k:=2*x+1) (q':=d.1) fT;have htx:=Ap (ce:=ga0) ga1 (l:=put row (2*x) y.1) (k:=2*x) (q:=y.1) (Bw aA);simp (maxSteps:=10^6)+contextual(disch:=try exact dqd)only[evg1,simprocAttr,Cb,Bg,Cc,ga36,e0,e1,e2,e7,e10,e11,e12,e14,e15,e16,e18,e19,e83,e84,e85,e113,e114,e115,c2,hw,wz,jq,w7,xa,hb1,hb2,fk,hg1,oc,hg2,hP3,db,hg3,hP5,i6,jn,uk,hE3,su,sv,fc,ja,htx,Eh,xfs,ga5,ga9,ga1,ga6];have hsc:setC qF u.1 z (idxV vars ct.1) row ct.2=(put (put row (2*x) y.1) (2*x+1) d.1,Cj (Cj w.2 y.2) d.2):=by unfold setC; rw [<- hx,<- gh,<- pu,<- f9]
  rw [lq] at jz;simp only [coefsC,hsc] at jz;have orow2:okL qF (put (put row (2*x) y.1) (2*x+1) d.1):=by
   intro q hq;rcases Bk hq with rfl|hq
   ·exact od
   ·rcases Bk hq with rfl|hq
    ·exact oy
    ·exact orow q hq
  exact IH (S5a,n'+1+ua3+ua4+ua4,j+1,put (put row (2*x) y.1) (2*x+1) d.1,Cj f1 (Cj (Cj w.2 y.2) d.2)) _ aF ⟨rfl,aE,by rw [jz]; simp only [Fo],by rw [Aj,Aj]; exact dh,orow2,by simpa only [Fo] using oe,bJ⟩
 ·have c2:decide ((j:Int)<(r.1.length:Int))=false:=cQ
  have oj:r.1.drop j=[]:=Cy aA;rw [oj] at jz;simp only [coefsC,Fk] at jz;clear IH oj rk kv;obtain ⟨n6,hn6⟩:∃ n6,n6=n':=⟨_,rfl⟩;subst hn6;obtain ⟨SU,hSU⟩:∃ SU,SU=S':=⟨_,rfl⟩;subst hSU;have a08:=Qy hr;have pw:=jp.E15;have un:=jp.E19;have g9:=jp.E16;simp only [rowC,Ao] at pw;have hlU:=jp.len;cases heq:r.2.2
  ·rw [heq,if_neg F6] at a08;have jd:sl<W:=aA
   have fh:=A5 (ce:=ga0) ga1 (l:=row) (k:=sl) (q':=u.1) aA;have qx:Ca.wrap ((sl:Int)+1)=((sl+1:Nat):Int):=aK
   have ak:=jp.put (put row sl u.1);obtain ⟨rowY,dv⟩:∃ rowY,rowY=put row sl u.1:=⟨_,rfl⟩;have hsF:Rc r.2.2 row sl u.1=rowY:=by rw [dv,heq]; rfl
   have xc:rowY.length=W:=by rw [dv,Aj]; exact dh
   have orowY:okL qF rowY:=by
    rw [dv];intro q hq;rcases Bk hq with rfl|hq
    ·exact ou
    ·exact orow q hq
   rw [<- dv] at fh ak;obtain ⟨SY,hSY⟩:∃ SY,SY=put SU (L+1) ⟨m0+1,flat ga0 rowY⟩:=⟨_,rfl⟩;rw [<- hSY] at ak;have wy:=hSY.symm;obtain ⟨sl2,a09⟩:∃ sl2,sl2=sl+1:=⟨_,rfl⟩;have xd:(if r.2.2=true then sl else sl+1)=sl2:=by rw [heq,a09]; rfl
   have mn:sl2+neqs (l.drop (i+1))=c:=aA
   rw [<- a09] at qx;clear hSY;have htY:=ak.T.top;simp only [a8.1,a8.2.1,a8.2.2,hcl,b9,ly,jo,intA] at htY;have yt:c+i<W:=aA
   have mq:Ca.wrap ((c:Int)+(i:Int))=((c+i:Nat):Int):=aK
   have wv:Ca.wrap ((W:Int) - 1)=((W - 1:Nat):Int):=aS
   have ig:W - 1<W:=aA
   have dk:=ak.T.fa;obtain ⟨o,rp⟩:∃ o,o=qF.whole 1:=⟨_,rfl⟩;have oo:qF.ok o.1:=by rw [rp]; exact Ee 1 aC
   have xe:=Km SY tk' n6 iq eq _ 1 aC dk;have nj:=Ek (c:=o.2) dk;rw [<- rp] at xe;obtain ⟨S5a,my⟩:∃ S5a,S5a=flS SY iq eq o.2:=⟨_,rfl⟩;have oe:=ak.flag (S':=flS SY iq eq o.2) (fun j hj=>ga8 hj) Bm dk.fS;rw [<- my] at xe nj oe;have ho5:=A5 (ce:=ga0) ga1 (l:=rowY) (k:=c+i) (q':=o.1) aA;have j0:=oe.put (put rowY (c+i) o.1);obtain ⟨row6,dw⟩:∃ row6,row6=put rowY (c+i) o.1:=⟨_,rfl⟩;have xf:row6.length=W:=by rw [dw,Aj]; exact xc
   obtain ⟨S6a,px⟩:∃ S6a,S6a=put S5a (L+1) ⟨m0+1,flat ga0 row6⟩:=⟨_,rfl⟩;rw [<- dw] at ho5 j0;rw [<- px] at j0;have py:=oe.E16;have mo:=j0.T.fa;have hZ6:=j0.Z;have jr:=j0.E15;have pz:=j0.E19;simp only [rowC,Ao] at jr;obtain ⟨w,gh⟩:∃ w,w=qF.whole r.2.1:=⟨_,rfl⟩;have ow:qF.ok w.1:=by rw [gh]; exact Ee _ po
   have fk:=Km S6a tk' (n6+ua3) iq eq _ r.2.1 po mo;have hg1:=Ek (c:=w.2) mo;rw [<- gh] at fk;obtain ⟨S7a,xg⟩:∃ S7a,S7a=flS S6a iq eq w.2:=⟨_,rfl⟩;have xh:=j0.flag (S':=flS S6a iq eq w.2) (fun j hj=>ga8 hj) Bm mo.fS;rw [<- xg] at fk hg1 xh;have ed:=xh.T.fa;obtain ⟨y,pu⟩:∃ y,y=qF.times u.1 w.1:=⟨_,rfl⟩;have oy:qF.ok y.1:=Za2u
   have oc:=Ah6 S7a tk' (n6+ua3+ua3) iq eq _ u.1 w.1 ou ow ed;have hg2:=Ek (c:=y.2) ed;rw [<- pu] at oc;obtain ⟨S8a,xi⟩:∃ S8a,S8a=flS S7a iq eq y.2:=⟨_,rfl⟩;have xj:=xh.flag (S':=flS S7a iq eq y.2) (fun j hj=>ga8 hj) Bm ed.fS;rw [<- xi] at oc hg2 xj;have xk:=xj.T.fa;obtain ⟨d,f9⟩:∃ d,d=qF.minus z y.1:=⟨_,rfl⟩;have od:qF.ok d.1:=Za2v
   have db:=L2 S8a tk' (n6+ua3+ua3+ua4) iq eq _ z y.1 oz oy xk;have hg3:=Ek (c:=d.2) xk;rw [<- f9] at db;obtain ⟨S9a,xl⟩:∃ S9a,S9a=flS S8a iq eq d.2:=⟨_,rfl⟩;have xm:=xj.flag (S':=flS S8a iq eq d.2) (fun j hj=>ga8 hj) Bm xk.fS;rw [<- xl] at db hg3 xm;have ho9:=A5 (ce:=ga0) ga1 (l:=row6) (k:=W - 1) (q':=d.1) aA;have p6:=xm.E16;have xn:=xm.put (put row6 (W - 1) d.1);obtain ⟨rowZ,dx⟩:∃ rowZ,rowZ=put row6 (W - 1) d.1:=⟨_,rfl⟩;have sx:rowZ.length=W:=by rw [dx,Aj]; exact xf
   have orowZ:okL qF rowZ:=by
    exact Ya1r
   obtain ⟨SZ,hSZ⟩:∃ SZ,SZ=put S9a (L+1) ⟨m0+1,flat ga0 rowZ⟩:=⟨_,rfl⟩;rw [<- dx] at ho9 xn;rw [<- hSZ] at xn;have gp:Vy qF u.1 z r.2.1=(d.1,Cj (Cj w.2 y.2) d.2):=by unfold Vy; rw [<- gh,<- pu,<- f9]
   have js:rowF qF z vars c W i sl r=(rowZ,Cj (Cj (Cj u.2 f1) o.2) (Cj (Cj w.2 y.2) d.2)):=by
    unfold rowF;simp only [hU,jz,gp,hsF,<- rp,<- dw,<- dx]
   obtain ⟨fr,p7⟩:∃ fr,fr=Cj (Cj (Cj u.2 f1) o.2) (Cj (Cj w.2 y.2) d.2):=⟨_,rfl⟩;rw [<- p7] at js;have pm:G7 S SZ iq eq I { t1 with fl:=Cj t1.fl fr } cp L nz m0 (m0+1) nu z r rowZ u.1:=by
    rw [p7];simpa only [Fo] using xn
   have xo:=px.symm;have xp:=hSZ.symm;simp (maxSteps:=10^6)+contextual(disch:=try exact dqd)only[evg1,simprocAttr,Cb,Bg,Cc,ga36,e0,e1,e2,e7,e10,e11,e12,e14,e15,e16,e18,e19,e83,e84,e85,e113,e114,e115,c2,pw,un,g9,heq,jd,fh,qx,wy,htY,yt,mq,wv,ig,xe,nj,ho5,py,xo,hZ6,jr,pz,fk,hg1,oc,hg2,db,hg3,ho9,p6,xp,Eh,xfs,ga5,ga9,ga1,ga6];have ph:begS qF z vars c W (l.drop i) i sl t1=begS qF z vars c W (l.drop (i+1)) (i+1) sl2 { t1 with rows:=t1.rows++[rowZ],cost:=(costL qF c W 0 t1.cost rowZ).1,basis:=t1.basis++[c+i],flip:=t1.flip++[Eg r],fl:=Cj (Cj t1.fl fr) (costL qF c W 0 t1.cost rowZ).2 }:=by
    rw [A1 hr];simp only [begS,b9];rw [js,xd]
   rw [ph] at hR;exact Mo rfl (Au3 S l vars fl k iq eq c W nz z hB Φ i b7 r hr sl2 mn t1 I cp tk' jo hcl b9 ly ah a8 lz rowZ fr sx orowZ L m0 nu u (Eg r) rfl SZ _ _ pm hR back _ rfl rfl rfl rfl rfl rfl rfl rfl rfl rfl rfl rfl rfl rfl rfl rfl rfl rfl)
  ·rw [heq,if_pos rfl] at a08;have jd:0<W:=aA
   have fh:=jd;have qx:=jd;have wy:=jd;have ak:=jp;obtain ⟨rowY,dv⟩:∃ rowY,rowY=row:=⟨_,rfl⟩;have hsF:Rc r.2.2 row sl u.1=rowY:=by rw [dv,heq]; rfl
   have xc:rowY.length=W:=by rw [dv]; exact dh
   have orowY:okL qF rowY:=by rw [dv]; exact orow
   rw [<- dv] at ak;obtain ⟨SY,hSY⟩:∃ SY,SY=SU:=⟨_,rfl⟩;subst hSY;have xd:(if r.2.2=true then sl else sl+1)=sl:=by rw [heq]; rfl
   have mn:sl+neqs (l.drop (i+1))=c:=aA
   have htY:=ak.T.top;simp only [a8.1,a8.2.1,a8.2.2,hcl,b9,ly,jo,intA] at htY;have yt:c+i<W:=aA
   have mq:Ca.wrap ((c:Int)+(i:Int))=((c+i:Nat):Int):=aK
   have wv:Ca.wrap ((W:Int) - 1)=((W - 1:Nat):Int):=aS
   have ig:W - 1<W:=aA
   have dk:=ak.T.fa;obtain ⟨o,rp⟩:∃ o,o=qF.whole 1:=⟨_,rfl⟩;have oo:qF.ok o.1:=by rw [rp]; exact Ee 1 aC
   have xe:=Km SY tk' n6 iq eq _ 1 aC dk;have nj:=Ek (c:=o.2) dk;rw [<- rp] at xe;obtain ⟨S5a,my⟩:∃ S5a,S5a=flS SY iq eq o.2:=⟨_,rfl⟩;have oe:=ak.flag (S':=flS SY iq eq o.2) (fun j hj=>ga8 hj) Bm dk.fS;rw [<- my] at xe nj oe;have ho5:=A5 (ce:=ga0) ga1 (l:=rowY) (k:=c+i) (q':=o.1) aA;have j0:=oe.put (put rowY (c+i) o.1);obtain ⟨row6,dw⟩:∃ row6,row6=put rowY (c+i) o.1:=⟨_,rfl⟩;have xf:row6.length=W:=by rw [dw,Aj]; exact xc
   obtain ⟨S6a,px⟩:∃ S6a,S6a=put S5a (L+1) ⟨m0+1,flat ga0 row6⟩:=⟨_,rfl⟩;rw [<- dw] at ho5 j0;rw [<- px] at j0;have py:=oe.E16;have mo:=j0.T.fa;have hZ6:=j0.Z;have jr:=j0.E15;have pz:=j0.E19;simp only [rowC,Ao] at jr;obtain ⟨w,gh⟩:∃ w,w=qF.whole r.2.1:=⟨_,rfl⟩;have ow:qF.ok w.1:=by rw [gh]; exact Ee _ po
   have fk:=Km S6a tk' (n6+ua3) iq eq _ r.2.1 po mo;have hg1:=Ek (c:=w.2) mo;rw [<- gh] at fk;obtain ⟨S7a,xg⟩:∃ S7a,S7a=flS S6a iq eq w.2:=⟨_,rfl⟩;have xh:=j0.flag (S':=flS S6a iq eq w.2) (fun j hj=>ga8 hj) Bm mo.fS;rw [<- xg] at fk hg1 xh;have ed:=xh.T.fa;obtain ⟨y,pu⟩:∃ y,y=qF.times u.1 w.1:=⟨_,rfl⟩;have oy:qF.ok y.1:=Za2u
   have oc:=Ah6 S7a tk' (n6+ua3+ua3) iq eq _ u.1 w.1 ou ow ed;have hg2:=Ek (c:=y.2) ed;rw [<- pu] at oc;obtain ⟨S8a,xi⟩:∃ S8a,S8a=flS S7a iq eq y.2:=⟨_,rfl⟩;have xj:=xh.flag (S':=flS S7a iq eq y.2) (fun j hj=>ga8 hj) Bm ed.fS;rw [<- xi] at oc hg2 xj;have xk:=xj.T.fa;obtain ⟨d,f9⟩:∃ d,d=qF.minus z y.1:=⟨_,rfl⟩;have od:qF.ok d.1:=Za2v
   have db:=L2 S8a tk' (n6+ua3+ua3+ua4) iq eq _ z y.1 oz oy xk;have hg3:=Ek (c:=d.2) xk;rw [<- f9] at db;obtain ⟨S9a,xl⟩:∃ S9a,S9a=flS S8a iq eq d.2:=⟨_,rfl⟩;have xm:=xj.flag (S':=flS S8a iq eq d.2) (fun j hj=>ga8 hj) Bm xk.fS;rw [<- xl] at db hg3 xm;have ho9:=A5 (ce:=ga0) ga1 (l:=row6) (k:=W - 1) (q':=d.1) aA;have p6:=xm.E16;have xn:=xm.put (put row6 (W - 1) d.1);obtain ⟨rowZ,dx⟩:∃ rowZ,rowZ=put row6 (W - 1) d.1:=⟨_,rfl⟩;have sx:rowZ.length=W:=by rw [dx,Aj]; exact xf
   have orowZ:okL qF rowZ:=by
    exact Ya1r
   obtain ⟨SZ,hSZ⟩:∃ SZ,SZ=put S9a (L+1) ⟨m0+1,flat ga0 rowZ⟩:=⟨_,rfl⟩;rw [<- dx] at ho9 xn;rw [<- hSZ] at xn;have gp:Vy qF u.1 z r.2.1=(d.1,Cj (Cj w.2 y.2) d.2):=by unfold Vy; rw [<- gh,<- pu,<- f9]
   have js:rowF qF z vars c W i sl r=(rowZ,Cj (Cj (Cj u.2 f1) o.2) (Cj (Cj w.2 y.2) d.2)):=by
    unfold rowF;simp only [hU,jz,gp,hsF,<- rp,<- dw,<- dx]
   obtain ⟨fr,p7⟩:∃ fr,fr=Cj (Cj (Cj u.2 f1) o.2) (Cj (Cj w.2 y.2) d.2):=⟨_,rfl⟩;rw [<- p7] at js;have pm:G7 S SZ iq eq I { t1 with fl:=Cj t1.fl fr } cp L nz m0 (m0+1) nu z r rowZ u.1:=by
    rw [p7];simpa only [Fo] using xn
   have xo:=px.symm;have xp:=hSZ.symm;simp (maxSteps:=10^6)+contextual(disch:=try exact dqd)only[evg1,simprocAttr,Cb,Bg,Cc,ga36,e0,e1,e2,e7,e10,e11,e12,e14,e15,e16,e18,e19,e83,e84,e85,e113,e114,e115,c2,pw,un,g9,heq,jd,fh,qx,wy,htY,yt,mq,wv,ig,xe,nj,ho5,py,xo,hZ6,jr,pz,fk,hg1,oc,hg2,db,hg3,ho9,p6,xp,Eh,xfs,ga5,ga9,ga1,ga6];have ph:begS qF z vars c W (l.drop i) i sl t1=begS qF z vars c W (l.drop (i+1)) (i+1) sl { t1 with rows:=t1.rows++[rowZ],cost:=(costL qF c W 0 t1.cost rowZ).1,basis:=t1.basis++[c+i],flip:=t1.flip++[Eg r],fl:=Cj (Cj t1.fl fr) (costL qF c W 0 t1.cost rowZ).2 }:=by
    rw [A1 hr];simp only [begS,b9];rw [js,xd]
   rw [ph] at hR;exact Mo rfl (Au3 S l vars fl k iq eq c W nz z hB Φ i b7 r hr sl mn t1 I cp tk' jo hcl b9 ly ah a8 lz rowZ fr sx orowZ L m0 nu u (Eg r) rfl SZ _ _ pm hR back _ rfl rfl rfl rfl rfl rfl rfl rfl rfl rfl rfl rfl rfl rfl rfl rfl rfl rfl)):p:=h
namespace QQ
theorem Au5:Aw23:=Ma23
end QQ
end
end
section
open Go Tryz
open Go.Proofs.Tryz renaming f81->ga35,results81->ga36,func81->ga37,ntmps81->ga38
open Go.Proofs.YtcjffhadclngmaaGreat renaming ceQ->ga0,Ay->ga1,puQ->ga5,Bs->ga6,ovQ->ga7,A2->ga8,tkQ->ga9
set_option maxRecDepth 100000
namespace QQ
abbrev ua15:Nat:=81
end QQ
set_option maxHeartbeats 20000000
set_option maxRecDepth 100000
namespace QQ
def Pn (iq eq:Nat) (n real:Nat) (rows cost basis flip:AV):List AV:=[.ifc 95 (rcvQ iq eq),.int (n:Nat),.int (real:Nat),rows,cost,basis,flip]
end QQ
theorem Zo {a z:List AV} {j m:Nat} (h:j<m):nth (Cf j a++Cf (m - j) z) j=some z/\put (Cf j a++Cf (m - j) z) j a=Cf (j+1) a++Cf (m - (j+1)) z:=by
 have e:Cf (m - j) z=z :: Cf (m - (j+1)) z:=by rw [<- Om]; congr 1; omega
 have hl:(Cf j a).length=j:=by simp
 rw [e];have h1:=Ej (p:=Cf j a) (u:=Cf (m - (j+1)) z) (x:=z);have h2:=Ev (p:=Cf j a) (u:=Cf (m - (j+1)) z) (x:=z) (y:=a);rw [hl] at h1 h2;refine ⟨h1,?_⟩;rw [h2,kB];simp
theorem Vk {sz:Nat} {a z:List AV} {j m:Nat} (h:j<m) (ha:a.length=sz) (hz:z.length=sz):over (Cf j a++Cf (m - j) z).flatten (j*sz) a=some (Cf (j+1) a++Cf (m - (j+1)) z).flatten:=by
 have h1:=Zo (a:=a) (z:=z) h;rw [<- h1.2];refine Qb (e:=z) (fun e he=>?_) h1.1 ha;rcases C5.1 he with h|h
 ·rw [Ix] at h; rw [h.2,ha]
 ·rw [Ix] at h; rw [h.2,hz]
theorem Zr {ce:Q->List AV} {W:Nat} {z:Q} : (Cf W (ce z)).flatten=flat ce (Cf W z):=by unfold flat; rw [kT]
namespace QQ
theorem mk_Q {W:Nat} (h:W<=1048576):mkA prog 138 (.int (W:Nat)) (.int (W:Nat))=some (W,2,(Cf W zeroQ).flatten):=by
 have hz:(Be prog 138).bind (A3 prog)=some zeroQ:=bA
 have hs:(Be prog 138).bind (szOf prog)=some 2:=bA
 obtain ⟨bb,hb,hbl⟩:∃ bb,(Be prog 138).bind (Ja prog)=some bb/\bb<=1048576:=⟨16,aI,aA⟩;exact Ya2m
def Aos (S:List Ent) (iq eq:Nat) (t':Tb) (r:Rs):Prop :=
 ∃ S' k' tk' I cc,r=(.ref I.it I.et 0,S',tk',k')/\S.length<=S'.length/\A7 S' iq eq I t' cc/\(∀ j,j<S.length->j≠iq->nth S' j=nth S j)/\(∀ j,j<S.length->j≠iq->OutQ I iq j)
end QQ
section
variable (S:List Ent) (tk:List Nat) (k iq eq:Nat)
abbrev Aw24 (p:Prop:=by exact ∀ (S:List Ent)(tk:List Nat)(k iq eq:Nat)(l:List RowT)(fl:Bool)(hl:l.length<=1000)(hn:(Bh l).length<=1000)(vars:List ByteArray)(gm:vars.length<=1000)(hv:∀ r ∈ l,∀ c ∈ r.1,c.1 ∈ vars)(hc:∀ r ∈ l,i64 r.2.1/\∀ c ∈ r.1,i64 c.2)(dq:fewC l)(m9:iq<S.length)(hf:FAq S iq eq fl),∃ r,cL prog ua15 [.ifc ua0 (rcvQ iq eq),Ar l,Aq vars] S tk k=some r/\Aos S iq eq (Bj qF l vars fl) r):=p
theorem Ma24 {p:Prop} (h:p:=by
 intro S tk k iq eq l fl hl hn vars gm hv hc dq m9 hf;obtain ⟨Φ,hΦ⟩:∃ Φ,Φ=Aos S iq eq (Bj qF l vars fl):=⟨_,rfl⟩;rw [<- hΦ];have hw2:Ca.wrap (2*(vars.length:Int))=((2*vars.length:Nat):Int):=aK
 refine opM ga37 ga38 ?_;simp (maxSteps:=10^6)+contextual(disch:=try exact dqd)only[evg1,simprocAttr,Cb,Bg,Cc,ga36,Ar,Aq,hw2];have yl:∀ c,[AV.ifc ua0 (rcvQ iq eq),.int (vars.length:Nat),.int (c:Nat),.frz [] .nilc,.frz [] .nilc,.frz [] .nilc,.frz [] .nilc]=Pn iq eq vars.length c (.frz [] .nilc) (.frz [] .nilc) (.frz [] .nilc) (.frz [] .nilc):=fun _=>rfl;refine Dp (P:=prog) (fun x st=>st.T.length=270/\(x.2.2<=l.length)/\(x.2.1+neqs (l.drop x.2.2)=2*vars.length+neqs l)/\getT st.T 0=.ifc ua0 (rcvQ iq eq)/\getT st.T 1=.frz (l.map rowC) .unk/\getT st.T 2=.frz (vars.map strC) .unk/\getT st.T 7=.ref S.length k 0/\getT st.T 32=.frz (l.map rowC) .unk/\getT st.T 33=.int (l.length:Nat)/\getT st.T 34=.int (x.2.2:Nat)/\st.S=S++[⟨k,Pn iq eq vars.length x.2.1 (.frz [] .nilc) (.frz [] .nilc) (.frz [] .nilc) (.frz [] .nilc)⟩]/\st.tk=tk/\st.n=x.1) (fun x=>l.length - x.2.2) ((k+1),(2*vars.length),0) ?_ ?_;case refine_2=>exact ⟨rfl,Cl _,rfl,rfl,rfl,rfl,rfl,rfl,rfl,rfl,rfl,rfl,rfl⟩
 rintro ⟨n1,c,q⟩ ⟨T,S',tk',n'⟩ ⟨hl,hq,ye,e0,e1,e2,e7,e32,e33,e34,eS,eT,eN⟩ IH;simp only at hq ye e0 e1 e2 e7 e32 e33 e34 eS eT eN;subst eS eT eN;obtain ⟨g,hg,hT⟩:=Au hl;rw [hg] at e0 e1 e2 e7 e32 e33 e34;subst hT;clear hg hl;have hnl:=Pf l;have a26:∀ x y z:Ent,Ib (S++[x]).length (S++[y]++[z])=S++[y]:=fun x y z=>by
  have e:(S++[x]).length=(S++[y]).length:=by simp
  rw [e,List.take_left]
 by_cases hql:q<l.length
 ·have c1:decide ((q:Int)<(l.length:Int))=true:=by simpa using hql
  have hw:Ca.wrap ((q:Int)+1)=((q+1:Nat):Int):=aK
  obtain ⟨r,hr⟩:=Af hql;have j3:=Lr hr;have ua:=Qy hr;have jn:entAt (S++[⟨k,Pn iq eq vars.length c (.frz [] .nilc) (.frz [] .nilc) (.frz [] .nilc) (.frz [] .nilc)⟩]++[⟨n',rowC r⟩]) S.length k=some (Pn iq eq vars.length c (.frz [] .nilc) (.frz [] .nilc) (.frz [] .nilc) (.frz [] .nilc)):=Ad Az;cases he:r.2.2 with
  | true =>
   rw [he,if_pos rfl] at ua;simp (maxSteps:=10^6)+contextual(disch:=try exact dqd)only[evg1,simprocAttr,Cb,Bg,Cc,ga36,e0,e1,e2,e7,e32,e33,e34,c1,hw,j3,rowC,Ao,he];exact IH (n'+1,c,q+1) _ aF ⟨rfl,aE,aE,bJ⟩
  | false =>
   rw [he,if_neg F6] at ua;have hw3:Ca.wrap ((c:Int)+1)=((c+1:Nat):Int):=aK
   simp (maxSteps:=10^6)+contextual(disch:=try exact dqd)only[evg1,simprocAttr,Cb,Bg,Cc,ga36,e0,e1,e2,e7,e32,e33,e34,c1,hw,hw3,j3,rowC,Ao,he,Pn,a26];exact IH (n'+1,c+1,q+1) _ aF ⟨rfl,aE,aE,bJ⟩
 ·have c1:decide ((q:Int)<(l.length:Int))=false:=by simpa using hql
  have yj:c=2*vars.length+neqs l:=by
   have h0:l.drop q=[]:=Cy aA;rw [h0] at ye;have h00:neqs ([]:List RowT)=0:=rfl;omega
  obtain ⟨W,nv⟩:∃ W,W=c+l.length+1:=⟨_,rfl⟩;have a27:Ca.wrap ((c:Int)+(l.length:Int))=((c+l.length:Nat):Int):=aK
  have a28:Ca.wrap (((c+l.length:Nat):Int)+1)=(W:Int):=aS
  obtain ⟨z,hz⟩:∃ z,z=qF.whole 0:=⟨_,rfl⟩;have oz:qF.ok z.1:=by rw [hz]; exact Ee 0 aC
  obtain ⟨T0,ag⟩:∃ T0:Ent,T0=⟨k,Pn iq eq vars.length c (.frz [] .nilc) (.frz [] .nilc) (.frz [] .nilc) (.frz [] .nilc)⟩:=⟨_,rfl⟩;have kk:=Km (S++[⟨k,Pn iq eq vars.length c (.frz [] .nilc) (.frz [] .nilc) (.frz [] .nilc) (.frz [] .nilc)⟩]) tk' n' iq eq fl 0 aC hf.app;rw [<- hz,Hj hf] at kk;obtain ⟨S1,b8⟩:∃ S1,S1=flS S iq eq z.2:=⟨_,rfl⟩;have qw:FAq S1 iq eq (Cj fl z.2):=by rw [b8]; exact hf.fS
  have hl1:S1.length=S.length:=by rw [b8]; exact Bm
  have bo:∀ v,v≠iq->nth S1 v=nth S v:=fun v hv=>by rw [b8]; exact ga8 hv
  rw [<- b8] at kk;obtain ⟨nz,hnz⟩:∃ nz,nz=n'+ua3:=⟨_,rfl⟩;rw [<- hnz] at kk;have uk:entAt (S1++[⟨k,Pn iq eq vars.length c (.frz [] .nilc) (.frz [] .nilc) (.frz [] .nilc) (.frz [] .nilc)⟩]++[⟨nz,ga0 z.1⟩]++[⟨nz+1,(Cf W zeroQ).flatten⟩]) S.length k=some (Pn iq eq vars.length c (.frz [] .nilc) (.frz [] .nilc) (.frz [] .nilc) (.frz [] .nilc)):=Ad (Ad (Am hl1));have uo:∀ e e' a b:Ent,put (S1++[e]++[a]++[b]) S.length e'=S1++[e']++[a]++[b]:=fun e e' a b=>by
   rw [B4 aD,B4 aD,B7 hl1]
  have mh:=mk_Q (W:=W) aA;have hE3:=fun cs a b=>Ad (L:=[b]) (Ad (L:=[a]) (Am (k:=k) (cs:=cs) hl1));simp only [Pn] at kk uk;simp (maxSteps:=10^6)+contextual(disch:=try exact dqd)only[evg1,simprocAttr,Cb,Bg,Cc,ga36,e0,e1,e2,e7,e32,e33,e34,c1,hw2,a27,a28,kk,mh,uk,hE3,uo,hl1,Pn,Eh,xfs,ga5,ga1,ga6,ga7];obtain ⟨TP,hTP⟩:∃ TP,TP=Pn iq eq vars.length c (.frz [] .nilc) (.sref (S.length+2) (nz+1) 0 W ua2) (.frz [] .nilc) (.frz [] .nilc):=⟨_,rfl⟩;obtain ⟨S2,bp⟩:∃ S2,S2=S1++[⟨k,TP⟩]++[⟨nz,ga0 z.1⟩]:=⟨_,rfl⟩;have hl2:S2.length=S.length+2:=by rw [bp]; simp [hl1]
  have ai:entAt S2 S.length k=some TP:=by rw [bp]; exact Ad (Am hl1)
  have hZ2:entAt S2 (S.length+1) nz=some (ga0 z.1):=by rw [bp]; exact Am (by simp [hl1])
  have dp:FAq S2 iq eq (Cj fl z.2):=by rw [bp]; exact qw.app.app
  have bm:∀ j,j<S.length->j≠iq->nth S2 j=nth S j:=fun j h1 h2=>by rw [bp,Ax aD,Ax aA,bo j h2]
  have a56:[AV.ifc ua0 (rcvQ iq eq),.int (vars.length:Nat),.int (c:Nat),.frz [] .nilc,.sref (S.length+2) (nz+1) 0 W ua2,.frz [] .nilc,.frz [] .nilc]=TP:=hTP.symm;have za:∀ x:Ent,(S1++[x]).length=S.length+1:=fun x=>by simp [hl1]
  have zg:∀ x y:Ent,(S1++[x]++[y]).length=S.length+2:=fun x y=>by simp [hl1]
  rw [zg,za];have ta:=bp;rw [hTP] at ta;simp only [Pn] at ta;rw [<- ta];obtain ⟨Fl,hFl⟩:∃ Fl:Nat->List AV,Fl=fun j=>(Cf j (ga0 z.1)++Cf (W - j) (zeroQ:List AV)).flatten:=⟨_,rfl⟩;have hF0:Fl 0=(Cf W (zeroQ:List AV)).flatten:=by rw [hFl]; rfl
  have hFW:Fl W=flat ga0 (Cf W z.1):=by rw [hFl]; simp only [Ol,List.replicate_zero,Fy]; exact Zr
  have hFo:∀ j,j<W->over (Fl j) (j*ua2) (ga0 z.1)=some (Fl (j+1)):=fun j kw=>by rw [hFl]; exact Vk (sz:=ua2) (a:=ga0 z.1) (z:=(zeroQ:List AV)) kw (ga1 _) rfl
  rw [<- hF0];refine Dp (P:=prog) (fun x st=>st.T.length=270/\(x.2<=W)/\getT st.T 0=.ifc ua0 (rcvQ iq eq)/\getT st.T 1=.frz (l.map rowC) .unk/\getT st.T 2=.frz (vars.map strC) .unk/\getT st.T 7=.ref S.length k 0/\getT st.T 10=.int ((2*vars.length:Nat):Int)/\getT st.T 11=.int (W:Nat)/\getT st.T 12=.ref (S.length+1) nz 0/\getT st.T 71=.int (W:Nat)/\getT st.T 72=.int (x.2:Nat)/\st.S=S2++[⟨nz+1,Fl x.2⟩]/\st.tk=tk'/\st.n=x.1) (fun x=>W - x.2) ((nz+2),0) ?_ ?_;case refine_2=>exact ⟨rfl,Cl _,rfl,rfl,rfl,rfl,rfl,rfl,rfl,rfl,rfl,rfl,rfl,rfl⟩
  rintro ⟨n1,j⟩ ⟨T,S',tk',n'⟩ ⟨hl,hj,e0,e1,e2,e7,e10,e11,e12,e71,e72,eS,eT,eN⟩ IH;simp only at hj e0 e1 e2 e7 e10 e11 e12 e71 e72 eS eT eN;subst eS eT eN;obtain ⟨g,hg,hT⟩:=Au hl;rw [hg] at e0 e1 e2 e7 e10 e11 e12 e71 e72;subst hT;clear hg hl;have ub:∀ cs,entAt (S2++[⟨nz+1,cs⟩]) (S.length+2) (nz+1)=some cs:=fun cs=>Am hl2;have zh:=fun e e'=>B7 (e:=e) (e':=e') hl2;have td:∀ x y:Ent,Ib (S2++[x]).length (S2++[y])=S2++[y]:=fun x y=>by
   have e:(S2++[x]).length=(S2++[y]).length:=by simp
   rw [e,Fm]
  by_cases kw:j<W
  ·have c2:decide ((j:Int)<(W:Int))=true:=gR
   have hw:Ca.wrap ((j:Int)+1)=((j+1:Nat):Int):=aK
   have ky:=hFo j kw;have su:∀ e:Ent,entAt (S2++[e]) S.length k=some TP:=fun e=>Ad ai;have sv:∀ e:Ent,entAt (S2++[e]) (S.length+1) nz=some (ga0 z.1):=fun e=>Ad hZ2;rw [hTP] at su;simp only [Pn] at su;simp (maxSteps:=10^6)+contextual(disch:=try exact dqd)only[evg1,simprocAttr,Cb,Bg,Cc,ga36,e0,e1,e2,e7,e10,e11,e12,e71,e72,c2,hw,kw,ky,su,sv,ub,zh,td,ga5,ga9,ga1,ga6];exact IH (n',j+1) _ aF ⟨rfl,aE,bJ⟩
  ·have c2:decide ((j:Int)<(W:Int))=false:=gR
   have p8:j=W:=aA
   rw [p8] at c2 e72 ⊢;clear kw p8 hj;rw [hFW];obtain ⟨S3,dn⟩:∃ S3,S3=S2++[⟨nz+1,flat ga0 (Cf W z.1)⟩]:=⟨_,rfl⟩;have dz:S3.length=S.length+3:=by rw [dn]; simp [hl2]
   have cu:∀ j,j<S.length->j≠iq->nth S3 j=nth S j:=fun j h1 h2=>by rw [dn,Ax aA,bm j h1 h2]
   have hZ3:entAt S3 (S.length+1) nz=some (ga0 z.1):=by rw [dn]; exact Ad hZ2
   obtain ⟨t0,zj⟩:∃ t0:Tb,t0={ vars:=vars.length,real:=c,rows:=[],cost:=Cf W z.1,basis:=[],flip:=[],fl:=Cj fl z.2 }:=⟨_,rfl⟩;obtain ⟨I0,hI0⟩:∃ I0:TI,I0=⟨S.length,k,S.length+3,0,S.length+2,nz+1,S.length+4,0,[]⟩:=⟨_,rfl⟩;have ba:A7 S3 iq eq I0 t0 .nilc:=by
    rw [hI0,zj,dn];refine ⟨?_,rfl,fun h=>absurd rfl h,fun i p r h=>bK,fun r h=>aN,?_,fun h=>absurd rfl h,rfl,rfl,dp.app,?_,fun r h=>aN,fun q hq=>?_,?_,by simp,?_,fun b h=>aN⟩
    ·rw [Ad ai,hTP];simp only [Pn,di,I1,Co,Ei];rfl
    ·exact Am hl2
    ·constructor <;> first|(simp only; omega)|(intro p hp; simp at hp)|(intro i j p q hp; simp [nth] at hp)
    ·rw [Ix] at hq; rw [hq.2]; exact oz
    ·simp only [I1]; omega
    ·simp only [I1]; omega
   have a29:Bj qF l vars fl=begS qF z.1 vars c W l 0 (2*vars.length) t0:=by
    unfold Bj;simp only;rw [<- yj,<- nv,<- hz,zj]
   simp (maxSteps:=10^6)+contextual(disch:=try exact dqd)only[evg1,simprocAttr,Cb,Bg,Cc,ga36,e0,e1,e2,e7,e10,e11,e12,e71,e72,c2];rw [<- dn];clear ub zh td e0 e1 e2 e7 e10 e11 e12 e71 e72 c1 c2;refine Dp (P:=prog) (fun x st=>st.T.length=270/\(x.2.2.2.2.1<=l.length)/\(Bj qF l vars fl=begS qF z.1 vars c W (l.drop x.2.2.2.2.1) x.2.2.2.2.1 x.2.2.2.2.2.1 x.2.2.2.2.2.2.1)/\(A7 x.1 iq eq x.2.2.2.2.2.2.2 x.2.2.2.2.2.2.1 x.2.2.2.1)/\(x.2.2.2.2.2.2.1.rows.length=x.2.2.2.2.1)/\(x.2.2.2.2.2.2.1.cost.length=W)/\(x.2.2.2.2.2.2.1.real=c)/\(x.2.2.2.2.2.2.1.vars=vars.length)/\(x.2.2.2.2.2.1+neqs (l.drop x.2.2.2.2.1)=c)/\(Bn x.2.2.1 x.2.2.2.1 1=true)/\(entAt x.1 (S.length+1) nz=some (ga0 z.1))/\(S.length+3<=x.1.length)/\(∀ j,j<S.length->j≠iq->nth x.1 j=nth S j)/\(x.2.2.2.2.2.2.2.it=S.length/\x.2.2.2.2.2.2.2.et=k/\x.2.2.2.2.2.2.2.ic=S.length+2)/\(S.length+2<x.2.2.2.2.2.2.2.ir/\S.length+2<x.2.2.2.2.2.2.2.ib/\∀ p ∈ x.2.2.2.2.2.2.2.ids,S.length+2<p.1)/\getT st.T 0=.ifc ua0 (rcvQ iq eq)/\getT st.T 1=.frz (l.map rowC) .unk/\getT st.T 2=.frz (vars.map strC) .unk/\getT st.T 7=.ref S.length k 0/\getT st.T 10=.int (x.2.2.2.2.2.1:Nat)/\getT st.T 11=.int (W:Nat)/\getT st.T 12=.ref (S.length+1) nz 0/\getT st.T 83=.frz (l.map rowC) .unk/\getT st.T 84=.int (l.length:Nat)/\getT st.T 85=.int (x.2.2.2.2.1:Nat)/\st.S=x.1/\st.tk=x.2.2.1/\st.n=x.2.1) (fun x=>l.length - x.2.2.2.2.1) (S3,n',tk',Cap.nilc,0,(2*vars.length),t0,I0) ?_ ?_;case refine_2=>exact ⟨rfl,Cl _,a29,ba,by rw [zj]; rfl,by rw [zj]; simp,by rw [zj],by rw [zj],by rw [yj]; rfl,rfl,hZ3,Nat.le_of_eq dz.symm,cu,by rw [hI0]; exact ⟨rfl,rfl,rfl⟩,by rw [hI0]; exact ⟨bP,bP,fun p hp=>by simp at hp⟩,rfl,rfl,rfl,rfl,rfl,rfl,rfl,rfl,rfl,rfl,rfl,rfl,rfl⟩
   rintro ⟨SS,n1,tk1,cp,i,sl,t1,I⟩ ⟨T,S',tk',n'⟩ ⟨hl,hi,hR,hT,jo,hcl,b9,ly,q7,ah,hZ,zk,am,a8,lz,e0,e1,e2,e7,e10,e11,e12,e83,e84,e85,eS,eT,eN⟩ IH;simp only at hi hR hT jo hcl b9 ly q7 ah hZ zk am a8 lz e0 e1 e2 e7 e10 e11 e12 e83 e84 e85 eS eT eN;subst eS eT eN;obtain ⟨g,hg,hT⟩:=Au hl;rw [hg] at e0 e1 e2 e7 e10 e11 e12 e83 e84 e85;subst hT;clear hg hl;have IHA:=IH;clear IH;obtain ⟨m0,bh⟩:∃ m0,m0=n':=⟨_,rfl⟩;subst bh;obtain ⟨SA,hSA⟩:∃ SA,SA=S':=⟨_,rfl⟩;subst hSA;obtain ⟨tkA,a3a⟩:∃ tkA,tkA=tk':=⟨_,rfl⟩;subst a3a;obtain ⟨L,hL⟩:∃ L,L=SA.length:=⟨_,rfl⟩;by_cases b7:i<l.length
   ·have c1:decide ((i:Int)<(l.length:Int))=true:=fX
    have hwi:Ca.wrap ((i:Int)+1)=((i+1:Nat):Int):=aK
    obtain ⟨r,hr⟩:=Af b7;have j3:=Lr hr;have rz:r ∈ l:=Ak hr;have za:∀ x:Ent,(SA++[x]).length=L+1:=fun x=>by simp [hL]
    have back:∀ st,Ajz S l vars fl k iq eq c W nz z.1 (i+1) st->Gd finM Φ (KA prog ga35 18 [] st):=fun st h=>by
     obtain ⟨sl',t1',I',cp',h1,h2,h3,h4,h5,h6,h7,h8,h9,zl,h11,h12,h13,h14,a1a,s0,s1,s2,s7,s10,s11,s12,s83,s84,s85⟩:=h;exact W3 rfl (t:=.mk) (IHA (st.S,st.n,st.tk,cp',i+1,sl',t1',I') st (by show l.length - (i+1)<l.length - i; omega) ⟨a1a,h1,h2,h3,h4,h5,h6,h7,h8,h9,zl,h11,h12,h13,h14,s0,s1,s2,s7,s10,s11,s12,s83,s84,s85,rfl,rfl,rfl⟩)
    clear IHA;simp (maxSteps:=10^6)+contextual(disch:=try exact dqd)only[evg1,simprocAttr,Cb,Bg,Cc,ga36,e0,e1,e2,e7,e10,e11,e12,e83,e84,e85,c1,j3,rowC,Ao,mh,Ce];rw [za,<- hL,<- hF0];obtain ⟨SB,up⟩:∃ SB,SB=SA++[(⟨m0,rowC r⟩:Ent)]:=⟨_,rfl⟩;have hlB:SB.length=L+1:=by rw [up]; exact za _
    have xq:=up;simp only [rowC,Ao] at xq;rw [<- xq];refine Dp (P:=prog) (fun x st=>st.T.length=270/\(x.2<=W)/\getT st.T 0=.ifc ua0 (rcvQ iq eq)/\getT st.T 1=.frz (l.map rowC) .unk/\getT st.T 2=.frz (vars.map strC) .unk/\getT st.T 7=.ref S.length k 0/\getT st.T 10=.int (sl:Nat)/\getT st.T 11=.int (W:Nat)/\getT st.T 12=.ref (S.length+1) nz 0/\getT st.T 14=.int (i:Nat)/\getT st.T 15=.ref L m0 0/\getT st.T 16=.sref (L+1) (m0+1) 0 W ua2/\getT st.T 83=.frz (l.map rowC) .unk/\getT st.T 84=.int (l.length:Nat)/\getT st.T 85=.int (i:Nat)/\getT st.T 93=.int (W:Nat)/\getT st.T 94=.int (x.2:Nat)/\st.S=SB++[⟨m0+1,Fl x.2⟩]/\st.tk=tkA/\st.n=x.1) (fun x=>W - x.2) ((m0+2),0) ?_ ?_;case refine_2=>exact ⟨rfl,Cl _,rfl,rfl,rfl,rfl,rfl,rfl,rfl,rfl,rfl,rfl,rfl,rfl,rfl,rfl,rfl,rfl,rfl,rfl⟩
    rintro ⟨n1,j⟩ ⟨T,S',tk',n'⟩ ⟨hl,hj,e0,e1,e2,e7,e10,e11,e12,e14,e15,e16,e83,e84,e85,e93,e94,eS,eT,eN⟩ IH;simp only at hj e0 e1 e2 e7 e10 e11 e12 e14 e15 e16 e83 e84 e85 e93 e94 eS eT eN;subst eS eT eN;obtain ⟨g,hg,hT⟩:=Au hl;rw [hg] at e0 e1 e2 e7 e10 e11 e12 e14 e15 e16 e83 e84 e85 e93 e94;subst hT;clear hg hl;by_cases kw:j<W
    ·have c2:decide ((j:Int)<(W:Int))=true:=gR
     have hw:Ca.wrap ((j:Int)+1)=((j+1:Nat):Int):=aK
     have ky:=hFo j kw;have sv:∀ b:Ent,entAt (SB++[b]) (S.length+1) nz=some (ga0 z.1):=fun b=>by rw [up]; exact Ad (Ad hZ)
     have ub:∀ cs,entAt (SB++[⟨m0+1,cs⟩]) (L+1) (m0+1)=some cs:=fun cs=>Am hlB;have zh:=fun e e'=>B7 (e:=e) (e':=e') hlB;have td:∀ x y:Ent,Ib (SB++[x]).length (SB++[y])=SB++[y]:=fun x y=>by
      have e:(SB++[x]).length=(SB++[y]).length:=by simp
      rw [e,Fm]
     simp (maxSteps:=10^6)+contextual(disch:=try exact dqd)only[evg1,simprocAttr,Cb,Bg,Cc,ga36,e0,e1,e2,e7,e10,e11,e12,e14,e15,e16,e83,e84,e85,e93,e94,c2,hw,kw,ky,sv,ub,zh,td,ga5,ga9,ga1,ga6];exact IH (n',j+1) _ aF ⟨rfl,aE,bJ⟩
    ·have c2:decide ((j:Int)<(W:Int))=false:=gR
     have p8:j=W:=aA
     rw [p8] at c2 e94 ⊢;clear kw p8 hj;rw [hFW];obtain ⟨n5,hn5⟩:∃ n5,n5=n':=⟨_,rfl⟩;subst hn5;obtain ⟨SC,uq⟩:∃ SC,SC=SB++[(⟨m0+1,flat ga0 (Cf W z.1)⟩:Ent)]:=⟨_,rfl⟩;rw [<- uq];have hlC:SC.length=L+2:=by rw [uq]; simp [hlB]
     have hTC:A7 SC iq eq I t1 cp:=by rw [uq,up]; exact (hT.app _).app _
     have aq:LowQ I iq L t1:=by rw [hL]; exact hT.low
     have p9:entAt SC L m0=some (rowC r):=by rw [uq,up]; exact Ad (Am hL.symm)
     have xr:entAt SC (L+1) (m0+1)=some (flat ga0 (Cf W z.1)):=by rw [uq]; exact Am hlB
     have hZC:entAt SC (S.length+1) nz=some (ga0 z.1):=by rw [uq,up]; exact Ad (Ad hZ)
     have hfC:∀ j,j<S.length->j≠iq->nth SC j=nth S j:=fun j h1 h2=>by rw [uq,up,Ax aD,Ax aA,am j h1 h2]
     have po:i64 r.2.1:=(hc r rz).1;obtain ⟨one,dm⟩:∃ one,one=qF.whole 1:=⟨_,rfl⟩;have o1:qF.ok one.1:=by rw [dm]; exact Ee 1 aC
     have ek:=Km SC tk' n5 iq eq t1.fl 1 aC hTC.fa;rw [<- dm] at ek;obtain ⟨SD,zm⟩:∃ SD,SD=flS SC iq eq one.2:=⟨_,rfl⟩;have qa:SD.length=L+2:=by rw [zm,Bm]; exact hlC
     have xt:∀ v,v≠iq->nth SD v=nth SC v:=fun v hv=>by rw [zm]; exact ga8 hv
     have hfD:FAq SD iq eq (Cj t1.fl one.2):=by rw [zm]; exact hTC.fa.fS
     rw [<- zm] at ek;obtain ⟨nu,hnu⟩:∃ nu,nu=n5+ua3:=⟨_,rfl⟩;rw [<- hnu] at ek;have hTD:A7 SD iq eq I { t1 with fl:=Cj t1.fl one.2 } cp:=hTC.flag xt hfD;have hLd:SD.length=L+2:=qa;have qd:G7 S (SD++[⟨nu,ga0 one.1⟩]) iq eq I { t1 with fl:=Cj t1.fl one.2 } cp L nz m0 (m0+1) nu z.1 r (Cf W z.1) one.1 :=
      ⟨hTD.app _,aq.of fun h=>h,by rw [Ad (e:=nz) (by rw [Aa (xt _ aA)]; exact hZC)],by rw [Ad (by rw [Aa (xt _ aA)]; exact p9)],by rw [Ad (by rw [Aa (xt _ aA)]; exact xr)],Am qa,by simp [qa],fun j h1 h2=>by rw [Ax aA,xt j h2]; exact hfC j h1 h2,m9,aA,a8.2.2⟩
     have jt:=qd.E15;have ur:=qd.E19;have o9:(SD++[(⟨nu,ga0 one.1⟩:Ent)]).length=L+3:=qd.len;have hLD:∀ x:Ent,(SD++[x]).length=L+3:=fun x=>by simp [qa]
     simp only [rowC] at jt;have zn:∀ cs,entAt (SD++[⟨nu,cs⟩]) (L+2) nu=some cs:=fun cs=>Am qa;have sf:=fun e e'=>B7 (e:=e) (e':=e') qa;clear uq up xq;cases hfl:Eg r
     ·have c3:decide (0<r.2.1)=false:=hfl;have hU:Lg qF (Eg r)=one:=by rw [hfl,dm]; rfl
      simp (maxSteps:=10^6)+contextual(disch:=try exact dqd)only[evg1,simprocAttr,Cb,Bg,Cc,ga36,e0,e1,e2,e7,e10,e11,e12,e14,e15,e16,e83,e84,e85,e93,e94,c2,c3,p9,rowC,Ao,ek,jt,zn,sf,qa,Eh,xfs,ga5,ga1,ga6,ga7];clear e0 e1 e2 e7 e10 e11 e12 e14 e15 e16 e83 e84 e85 e93 e94 c2 c3 IH sf zn;obtain ⟨SX,xu⟩:∃ SX,SX=SD++[(⟨nu,ga0 one.1⟩:Ent)]:=⟨_,rfl⟩;obtain ⟨nx,qu⟩:∃ nx,nx=nu+1:=⟨_,rfl⟩;rw [<- xu,<- qu];rw [<- xu] at qd;obtain ⟨u,hu⟩:∃ u:Q × Bool,u=one:=⟨_,rfl⟩;rw [<- hu] at qd hU;have ou:qF.ok u.1:=by rw [hu]; exact o1
      have jp:=qd;clear qd jt ur o9 hLD hnu hTD hLd hfD xt qa ek zm xu qu xr p9 hZC hfC hTC hlC hu o1 dm;have h18:AV.prim (.bool false)=.prim (.bool (Eg r)):=by rw [hfl]
      exact Ya09
     ·have c3:decide (0<r.2.1)=true:=hfl;obtain ⟨neg,hneg⟩:∃ neg,neg=qF.whole (-1):=⟨_,rfl⟩;have on:qF.ok neg.1:=by rw [hneg]; exact Ee (-1) aC
      have hU:Lg qF (Eg r)=(neg.1,Cj one.2 neg.2):=by rw [hfl,dm,hneg]; rfl
      have hw1:=Km (SD++[⟨nu,ga0 one.1⟩]) tk' (nu+1) iq eq (Cj t1.fl one.2) (-1) aC qd.T.fa;rw [<- hneg,Hj hfD] at hw1;obtain ⟨SE,hSE⟩:∃ SE,SE=flS SD iq eq neg.2:=⟨_,rfl⟩;have o9:SE.length=L+2:=by rw [hSE,Bm]; exact qa
      have hRE:=qd.flag (S':=flS (SD++[⟨nu,ga0 one.1⟩]) iq eq neg.2) (fun j hj=>ga8 hj) Bm qd.T.fa.fS;rw [Hj hfD,<- hSE] at hRE;rw [<- hSE] at hw1;have hRF:=hRE.unit neg.1;have l7:∀ cs,entAt (SE++[⟨nu,cs⟩]) (L+2) nu=some cs:=fun cs=>Am o9;have te:=fun e e'=>B7 (e:=e) (e':=e') o9;rw [te] at hRF;have qe:=hRF.E15;simp only [rowC] at qe;simp (maxSteps:=10^6)+contextual(disch:=try exact dqd)only[evg1,simprocAttr,Cb,Bg,Cc,ga36,e0,e1,e2,e7,e10,e11,e12,e14,e15,e16,e83,e84,e85,e93,e94,c2,c3,p9,rowC,Ao,ek,jt,zn,sf,qa,hw1,l7,te,qe,Eh,xfs,ga5,ga1,ga6,ga7,ovQ2];clear e0 e1 e2 e7 e10 e11 e12 e14 e15 e16 e83 e84 e85 e93 e94 c2 c3 IH sf zn te l7;obtain ⟨SX,xu⟩:∃ SX,SX=SE++[(⟨nu,ga0 neg.1⟩:Ent)]:=⟨_,rfl⟩;obtain ⟨nx,qu⟩:∃ nx,nx=nu+1+ua3:=⟨_,rfl⟩;rw [<- xu,<- qu];rw [<- xu] at hRF;obtain ⟨u,hu⟩:∃ u:Q × Bool,u=(neg.1,Cj one.2 neg.2):=⟨_,rfl⟩;rw [<- hu] at hU;have ou:qF.ok u.1:=by rw [hu]; exact on
      have jp:G7 S SX iq eq I { t1 with fl:=Cj t1.fl u.2 } cp L nz m0 (m0+1) nu z.1 r (Cf W z.1) u.1:=by
       rw [hu];simp only [<- Fo];exact hRF
      clear qd jt ur o9 hLD hnu hTD hLd hfD xt qa ek zm xu qu xr p9 hZC hfC hTC hlC hu o1 dm on hneg hw1 hSE hRE hRF qe;have h18:AV.prim (.bool true)=.prim (.bool (Eg r)):=by rw [hfl]
      exact Ya09
   ·have c1:decide ((i:Int)<(l.length:Int))=false:=fX
    have h0:l.drop i=[]:=Cy aA;rw [h0] at hR;simp only [begS] at hR;simp (maxSteps:=10^6)+contextual(disch:=try exact dqd)only[evg1,simprocAttr,Cb,Bg,Cc,ga36,e0,e1,e2,e7,e10,e11,e12,e83,e84,e85,c1];rw [hΦ,hR];exact ⟨SA,m0,tkA,I,cp,by rw [a8.1,a8.2.1],aA,hT,am,fun j h1 h2=>⟨h2,aA,aA,fun p hp=>by have:=lz.2.2 p hp; omega⟩⟩):p:=h
namespace QQ
theorem Arp:Aw24:=Ma24
end QQ
end
end
section
open Go Tryz
open Go.Proofs.Tryz renaming func86->ga39,ntmps86->ga40,results86->ga41
open Go.Proofs.YtcjffhadclngmaaGreat renaming ceQ->ga0,Ay->ga1,puQ->ga5,Bs->ga6,ovQ->ga7,A2->ga8,tkQ->ga9
set_option maxRecDepth 100000
namespace QQ
abbrev ua16:Nat:=86
end QQ
set_option maxHeartbeats 20000000
set_option maxRecDepth 100000
abbrev Aw25 (p:Prop:=by exact ∀ {t:Tb}{i:Nat},(Dq qF t i).cost.length=t.cost.length/\(Dq qF t i).real=t.real/\(Dq qF t i).vars=t.vars/\(Dq qF t i).rows.length=t.rows.length):=p
theorem Ma25 {p:Prop} (h:p:=by
 unfold Dq;split
 ·exact ⟨rfl,rfl,rfl,rfl⟩
 ·split
  ·exact ⟨K8,rfl,rfl,X9⟩
  ·exact ⟨rfl,rfl,rfl,rfl⟩):p:=h
namespace QQ
theorem Xd:Aw25:=fun {t i}=>Ma25
theorem N4:∀ {n i:Nat} {t:Tb},(settleF qF n i t).cost.length=t.cost.length/\(settleF qF n i t).real=t.real/\(settleF qF n i t).vars=t.vars/\(settleF qF n i t).rows.length=t.rows.length
 | 0,_,_=>⟨rfl,rfl,rfl,rfl⟩
 | n+1,i,t=>by
  exact Ya0p
end QQ
def Aec:List AV:=[.prim (.bool false),.frz [] .nilc,.prim (.bool false),.frz [] .nilc]
namespace QQ
def Asd (S:List Ent) (tk:List Nat) (iq eq:Nat) (I:TI) (cc:Cap) (n:Int) (b:Bool) (t':Tb) (r:Rs):Prop :=
 Ut S tk iq eq I (if b=true then { t' with fl:=Cj t'.fl (Gt qF t' n).2 } else t') cc (.tup [.agg (ceW (if b=true then qF.rat (Gt qF t' n).1 else (0,1))),.bool b]) r
structure Um (S SS:List Ent) (iq eq:Nat) (I:TI) (t:Tb) (cc:Cap) (k n8:Nat) (z:Q) (cf:AV) (n:Int):Prop where
 T:A7 SS iq eq I t cc
 E4:entAt SS S.length k=some [cf,.prim (.int .i64 n)]
 E6:entAt SS (S.length+1) (k+1)=some Aec
 E8:entAt SS (S.length+2) n8=some (ceQ z)
 len:SS.length=S.length+3
 fr:∀ j,j<S.length->OutQ I iq j->nth SS j=nth S j
end QQ
abbrev Aw26 (p:Prop:=by exact ∀ {S:List Ent}{iq eq:Nat}{I:TI}{t:Tb}{cc:Cap}(hT:A7 S iq eq I t cc)(m9:iq<S.length)(yz:I.ib<S.length\/S.length+10<I.ib)(d:Nat)(hd:d<=10),OutQ I iq (S.length+d)):=p
theorem Ma26 {p:Prop} (h:p:=by
 intro hT m9 yz d hd;have h:=hT.low;have:=h.ic;exact ⟨aA,aA,aA,fun p hp=>by have:=h.row p hp; omega⟩):p:=h
namespace QQ
theorem Afa:Aw26:=fun {S iq eq I t cc}=>Ma26
end QQ
abbrev Aw27 (p:Prop:=by exact ∀ {S SS S':List Ent}{iq eq:Nat}{I:TI}{t t':Tb}{cc:Cap}{k n8:Nat}{z:Q}{cf:AV}{n:Int}(h:Um S SS iq eq I t cc k n8 z cf n)(ho:∀ d,d<=10->OutQ I iq (S.length+d))(hT:A7 S' iq eq I t' cc)(hS:∀ j,OutQ I iq j->nth S' j=nth SS j)(hl:S'.length=SS.length),Um S S' iq eq I t' cc k n8 z cf n):=p
theorem Ma27 {p:Prop} (h:p:=by
 intro h ho hT hS hl;exact ⟨hT,by rw [Aa (hS S.length (ho 0 aA))]; exact h.E4,by rw [Aa (hS _ (ho 1 aA))]; exact h.E6,by rw [Aa (hS _ (ho 2 aA))]; exact h.E8,by rw [hl]; exact h.len,fun j h1 h2=>by rw [hS j h2]; exact h.fr j h1 h2⟩):p:=h
namespace QQ
theorem Um.step:Aw27:=fun {S SS S' iq eq I t t' cc k n8 z cf n}=>Ma27
end QQ
section
variable (S:List Ent) (tk:List Nat) (k iq eq:Nat)
abbrev Aw28 (p:Prop:=by exact ∀ (S:List Ent)(tk:List Nat)(k iq eq:Nat)(I:TI)(t t':Tb)(cc:Cap)(K:Nat)(b:Bool)(a:List (ByteArray × Int))(n:Int)(vars:List ByteArray)(ag:A7 S iq eq I t cc)(m9:iq<S.length)(yz:I.ib<S.length\/S.length+10<I.ib)(hvn:vars.length<=1000)(yc:2*vars.length<t.cost.length)(hv:∀ c ∈ a,c.1 ∈ vars)(hc:∀ c ∈ a,i64 c.2)(hn:i64 n)(hal:a.length<=24)(hK:Gp qF K (Je qF t a vars)=some (b,t')),∃ r,cL prog ua16 [.ref I.it I.et 0,linA a n,Aq vars] S tk k=some r/\Asd S tk iq eq I cc n b t' r):=p
theorem Ma28 {p:Prop} (h:p:=by
 intro S tk k iq eq I t t' cc K b a n vars ag m9 yz hvn yc hv hc hn hal hK;obtain ⟨Φ,hΦ⟩:∃ Φ,Φ=Asd S tk iq eq I cc n b t':=⟨_,rfl⟩;rw [<- hΦ];have aq:=ag.low;have cl:=Afa ag m9 yz;have sd:=N4 (n:=t.rows.length) (i:=0) (t:=t);have hTa:=(ag.app [(⟨k,[Ao a,.prim (.int .i64 n)]⟩:Ent)]).app [(⟨k+1,Aec⟩:Ent)];obtain ⟨r0,aw,Sa,ka,rfl,hla,qf,dk⟩:=At1 (S++[(⟨k,[Ao a,.prim (.int .i64 n)]⟩:Ent)]++[(⟨k+1,Aec⟩:Ent)]) tk (k+1+1) iq eq I t cc hTa;simp only [Aec,Ao] at aw;obtain ⟨t1,cj⟩:∃ t1,t1=settleF qF t.rows.length 0 t:=⟨_,rfl⟩;rw [<- cj] at qf sd;have y9:(S++[(⟨k,[Ao a,.prim (.int .i64 n)]⟩:Ent)]++[(⟨k+1,Aec⟩:Ent)]).length=S.length+2:=by simp
 have a1b:∀ x:Ent,(S++[x]).length=S.length+1:=fun x=>by simp
 rw [y9] at hla;obtain ⟨z,hz⟩:∃ z,z=qF.whole 0:=⟨_,rfl⟩;have oz:qF.ok z.1:=by rw [hz]; exact Ee 0 aC
 have kk:=Km Sa tk ka iq eq t1.fl 0 aC qf.fa;rw [<- hz] at kk;obtain ⟨Sb,zo⟩:∃ Sb,Sb=flS Sa iq eq z.2:=⟨_,rfl⟩;have hlb:Sb.length=S.length+2:=by rw [zo,Bm]; exact hla
 have jx:∀ v,v≠iq->nth Sb v=nth Sa v:=fun v hv=>by rw [zo]; exact ga8 hv
 have hTb:A7 Sb iq eq I { t1 with fl:=Cj t1.fl z.2 } cc:=qf.flag jx (by rw [zo]; exact qf.fa.fS);rw [<- zo] at kk;obtain ⟨n8,hn8⟩:∃ n8,n8=ka+ua3:=⟨_,rfl⟩;rw [<- hn8] at kk;have aa:=qf.top;have hLe:Um S (Sb++[(⟨n8,ga0 z.1⟩:Ent)]) iq eq I { t1 with fl:=Cj t1.fl z.2 } cc k n8 z.1 (Ao a) n:=by
  refine ⟨hTb.app _,?_,?_,Am hlb,by simp [hlb],fun j h1 h2=>?_⟩
  ·have h0:=cl 0 aA;exact Ad (by rw [Aa (jx S.length h0.1),Aa (dk S.length h0)]; exact Ad Az)
  ·have h0:=cl 1 aA;exact Ad (by rw [Aa (jx _ h0.1),Aa (dk _ h0)]; exact Am (a1b _))
  ·rw [Ax aA,jx j h2.1,dk j h2,Ax aD,Ax aA]
 have du:=hLe.T.top;have zn:∀ cs,entAt (Sb++[⟨n8,cs⟩]) (S.length+2) n8=some cs:=fun cs=>Am hlb;have sf:=fun e e'=>B7 (e:=e) (e':=e') hlb;have hW:=ag.bigW;rw [<- sd.1] at hW yc;refine opG ga39 ga40 ?_;simp only [linA,Aq,Ao];simp (maxSteps:=10^6)+contextual(disch:=try exact dqd)only[evg1,simprocAttr,Cb,Bg,Cc,ga41,aw,aa,kk,du,hlb,a1b,zn,sf,Eh,xfs,ga5,ga1,ga6,ga7];refine Dp (P:=prog) (fun x st=>st.T.length=150/\(x.2.2.1=Cf x.2.2.1.length z.1)/\(x.2.2.1.length+x.2.2.2.length=t1.cost.length)/\(Um S x.1 iq eq I { t1 with cost:=x.2.2.1++x.2.2.2,fl:=Cj t1.fl z.2 } cc k n8 z.1 (Ao a) n)/\getT st.T 0=.ref I.it I.et 0/\getT st.T 2=.frz (vars.map strC) .unk/\getT st.T 4=.ref S.length k 0/\getT st.T 6=.ref (S.length+1) (k+1) 0/\getT st.T 8=.ref (S.length+2) n8 0/\getT st.T 27=.int (t1.cost.length:Nat)/\getT st.T 28=.int (x.2.2.1.length:Nat)/\st.S=x.1/\st.tk=tk/\st.n=x.2.1) (fun x=>x.2.2.2.length) ((Sb++[(⟨n8,ga0 z.1⟩:Ent)]),(n8+1),([]:List Q),t1.cost) ?_ ?_;case refine_2=>exact ⟨rfl,rfl,by simp,hLe,rfl,rfl,rfl,rfl,rfl,rfl,rfl,rfl,rfl,rfl⟩
 rintro ⟨SS,n1,p,v⟩ ⟨T,S',tk',n'⟩ ⟨hl,hp,jc,b6,e0,e2,e4,e6,e8,e27,e28,eS,eT,eN⟩ IH;simp only at hp jc b6 e0 e2 e4 e6 e8 e27 e28 eS eT eN;subst eS eT eN;obtain ⟨g,hg,hT⟩:=Au hl;rw [hg] at e0 e2 e4 e6 e8 e27 e28;subst hT;clear hg hl;have gi:(p++v).length=t1.cost.length:=by simpa using jc
 have ev:=b6.T.top;simp only [gi,intA] at ev;by_cases sy:p.length<t1.cost.length
 ·have c2:decide ((p.length:Int)<(t1.cost.length:Int))=true:=gQ
  obtain ⟨a0,v,rfl⟩:∃ a0 v',v=a0 :: v':=by
   exact Ya3z
  have hw:Ca.wrap ((p.length:Int)+1)=(((p++[z.1]).length:Nat):Int):=bI
  have vj:v.length<(a0 :: v).length:=by simp
  have fm:=b6.T.costE;have hzE:=b6.E8;have ho:=A5 (ce:=ga0) ga1 (l:=p++a0 :: v) (k:=p.length) (q':=z.1) (by simp);rw [Ev] at ho;have ai:=b6.T.setCost (S':=put S' I.ic ⟨I.ec,flat ga0 (p++z.1 :: v)⟩) (k':=p++z.1 :: v) (fl':=Cj t1.fl z.2) (by simp) (fun q hq=>by
   rcases C5.1 hq with h|h
   ·exact b6.T.okc q bO
   ·rcases Cv.1 h with rfl|h
    ·exact oz
    ·exact b6.T.okc q bO) (fun j h1 h2=>Ab (Ih h1)) (Ae (Aw fm)) (b6.T.fa.put ag.ap.qc.symm)
  have vk:=b6.step cl ai (fun j hj=>Ab (Ih hj.2.1)) Ai;have io:∀ x,Ib S'.length (put S' I.ic x)=put S' I.ic x:=fun x=>C6 (by rw [Ai]; exact Ce _);simp (maxSteps:=10^6)+contextual(disch:=try exact dqd)only[evg1,simprocAttr,Cb,Bg,Cc,ga41,e0,e2,e4,e6,e8,e27,e28,c2,hw,ev,fm,hzE,sy,ho,io,ga5,ga9,ga1,ga6];exact IH (put S' I.ic ⟨I.ec,flat ga0 (p++z.1 :: v)⟩,n',p++[z.1],v) _ aF ⟨rfl,by rw [Cm,Ch,Co,kB,<- hp],by show (p++[z.1]).length+v.length=_; simp only [Cm,Ch,Co] at jc ⊢; omega,by simpa using vk,bJ⟩
 ·have c2:decide ((p.length:Int)<(t1.cost.length:Int))=false:=gQ
  have ww:v=[]:=C4.1 aA;subst ww;have dt:p.length=t1.cost.length:=aA
  rw [Fy] at b6;rw [hp,dt] at b6;clear hp gi ev IH;have qg:=b6.E4;simp only [Ao] at qg;simp (maxSteps:=10^6)+contextual(disch:=try exact dqd)only[evg1,simprocAttr,Cb,Bg,Cc,ga41,e0,e2,e4,e6,e8,e27,e28,c2,qg];obtain ⟨c0,wc⟩:∃ c0,c0=Cf t1.cost.length z.1:=⟨_,rfl⟩;rw [<- wc] at b6;have a3b:c0.length=t1.cost.length:=by rw [wc,I1]
  clear dt sy c2;refine Dp (P:=prog) (fun x st=>st.T.length=150/\(x.2.2.1<=a.length)/\(lcsC qF z.1 vars a c0=((lcsC qF z.1 vars (a.drop x.2.2.1) x.2.2.2.1).1,Cj x.2.2.2.2 (lcsC qF z.1 vars (a.drop x.2.2.1) x.2.2.2.1).2))/\(x.2.2.2.1.length=t1.cost.length)/\(Um S x.1 iq eq I { t1 with cost:=x.2.2.2.1,fl:=Cj (Cj t1.fl z.2) x.2.2.2.2 } cc k n8 z.1 (Ao a) n)/\getT st.T 0=.ref I.it I.et 0/\getT st.T 2=.frz (vars.map strC) .unk/\getT st.T 4=.ref S.length k 0/\getT st.T 6=.ref (S.length+1) (k+1) 0/\getT st.T 8=.ref (S.length+2) n8 0/\getT st.T 40=.frz (a.map D2) .unk/\getT st.T 41=.int (a.length:Nat)/\getT st.T 42=.int (x.2.2.1:Nat)/\st.S=x.1/\st.tk=tk'/\st.n=x.2.1) (fun x=>a.length - x.2.2.1) (S',n',0,c0,false) ?_ ?_;case refine_2=>exact ⟨rfl,Cl _,rfl,a3b,by simp only [Fk]; exact b6,rfl,rfl,rfl,rfl,rfl,rfl,rfl,rfl,rfl,rfl,rfl⟩
  rintro ⟨SS,n1,j,cs,f1⟩ ⟨T,S',tk',n'⟩ ⟨hl,hj,jz,hcl,b6,e0,e2,e4,e6,e8,e40,e41,e42,eS,eT,eN⟩ IH;simp only at hj jz hcl b6 e0 e2 e4 e6 e8 e40 e41 e42 eS eT eN;subst eS eT eN;obtain ⟨g,hg,hT⟩:=Au hl;rw [hg] at e0 e2 e4 e6 e8 e40 e41 e42;subst hT;clear hg hl;have ev:=b6.T.top;simp only [hcl,intA] at ev;by_cases xv:j<a.length
  ·have c2:decide ((j:Int)<(a.length:Int))=true:=gT
   have hw:Ca.wrap ((j:Int)+1)=((j+1:Nat):Int):=aK
   obtain ⟨ct,s5⟩:=Af xv;have wz:nth (a.map D2) j=some [.prim (.string ct.1),.prim (.int .i64 ct.2)]:=by rw [Dx,s5]; rfl
   have pp:ct ∈ a:=Ak s5;have j4:=Kf (hv ct pp);obtain ⟨x,hx⟩:∃ x,x=idxV vars ct.1:=⟨_,rfl⟩;rw [<- hx] at j4;have jq:=fun S tk k=>Np S tk k vars ct.1 aA;simp only [j4.1] at jq;have hb1:2*x<t1.cost.length:=aA
   have hb2:2*x+1<t1.cost.length:=aA
   have w7:Ca.wrap (2*(x:Int))=((2*x:Nat):Int):=aK
   have xa:Ca.wrap (((2*x:Nat):Int)+1)=((2*x+1:Nat):Int):=aK
   have lq:=A1 s5;have hlX:=b6.len;have dk:=b6.T.fa;have pq:i64 ct.2:=hc ct pp;obtain ⟨w,gh⟩:∃ w,w=qF.whole ct.2:=⟨_,rfl⟩;have ow:qF.ok w.1:=by rw [gh]; exact Ee _ pq
   have fk:=Km (S'++[(⟨n',[.prim (.string ct.1),.prim (.int .i64 ct.2)]⟩:Ent)]) tk' (n'+1) iq eq _ ct.2 pq dk.app;have hg1:=Ek (c:=w.2) (dk.app (L:=[(⟨n',[.prim (.string ct.1),.prim (.int .i64 ct.2)]⟩:Ent)]));rw [<- gh] at fk;rw [Hj dk] at fk hg1;obtain ⟨S1a,kr⟩:∃ S1a,S1a=flS S' iq eq w.2:=⟨_,rfl⟩;have a7:=b6.T.flag (S':=flS S' iq eq w.2) (fun j hj=>ga8 hj) dk.fS;have xw:=b6.step cl a7 (fun j hj=>ga8 hj.1) Bm;rw [<- kr] at fk hg1 a7 xw;have mr:=a7.costE;have hl1:=xw.len;have b7:I.ic<S1a.length:=Aw mr;have ai:=a7.setCost (S':=put S1a I.ic ⟨I.ec,flat ga0 (put cs (2*x) w.1)⟩) (k':=put cs (2*x) w.1) (fl':=_) Aj (fun q hq=>by
    rcases Bk hq with rfl|hq
    ·exact ow
    ·exact b6.T.okc q hq) (fun j h1 h2=>Ab (Ih h1)) (Ae b7) (a7.fa.put ag.ap.qc.symm)
   have vk:=xw.step cl ai (fun j hj=>Ab (Ih hj.2.1)) Ai;obtain ⟨S2a,s6⟩:∃ S2a,S2a=put S1a I.ic ⟨I.ec,flat ga0 (put cs (2*x) w.1)⟩:=⟨_,rfl⟩;rw [<- s6] at ai vk;have uo:∀ e:Ent,put (S1a++[e]) I.ic ⟨I.ec,flat ga0 (put cs (2*x) w.1)⟩=S2a++[e]:=fun e=>by rw [B4 b7,s6]
   have ed:=ai.fa;have pn:=ai.costE;obtain ⟨d,f9⟩:∃ d,d=qF.minus z.1 w.1:=⟨_,rfl⟩;have od:qF.ok d.1:=by rw [f9]; exact Dj.minus _ _ oz ow
   have db:=L2 (S2a++[(⟨n',[.prim (.string ct.1),.prim (.int .i64 ct.2)]⟩:Ent)]) tk' (n'+1+ua3) iq eq _ z.1 w.1 oz ow ed.app;have hg3:=Ek (c:=d.2) (ed.app (L:=[(⟨n',[.prim (.string ct.1),.prim (.int .i64 ct.2)]⟩:Ent)]));rw [<- f9] at db;rw [Hj ed] at db hg3;obtain ⟨S3a,s8⟩:∃ S3a,S3a=flS S2a iq eq d.2:=⟨_,rfl⟩;have ba:=ai.flag (S':=flS S2a iq eq d.2) (fun j hj=>ga8 hj) ed.fS;have zk:=vk.step cl ba (fun j hj=>ga8 hj.1) Bm;rw [<- s8] at db hg3 ba zk;have a1c:=ba.costE;have a1d:I.ic<S3a.length:=Aw a1c;have fd:=ba.setCost (S':=put S3a I.ic ⟨I.ec,flat ga0 (put (put cs (2*x) w.1) (2*x+1) d.1)⟩) (k':=put (put cs (2*x) w.1) (2*x+1) d.1) (fl':=_) Aj (fun q hq=>by
    rcases Bk hq with rfl|hq
    ·exact od
    ·rcases Bk hq with rfl|hq
     ·exact ow
     ·exact b6.T.okc q hq) (fun j h1 h2=>Ab (Ih h1)) (Ae a1d) (ba.fa.put ag.ap.qc.symm)
   have tf:=zk.step cl fd (fun j hj=>Ab (Ih hj.2.1)) Ai;obtain ⟨S4a,s9⟩:∃ S4a,S4a=put S3a I.ic ⟨I.ec,flat ga0 (put (put cs (2*x) w.1) (2*x+1) d.1)⟩:=⟨_,rfl⟩;rw [<- s9] at fd tf;have hP4:∀ e:Ent,put (S3a++[e]) I.ic ⟨I.ec,flat ga0 (put (put cs (2*x) w.1) (2*x+1) d.1)⟩=S4a++[e]:=fun e=>by rw [B4 a1d,s9]
   have oq:=tf.len;have i6:∀ e:Ent,Ib S'.length (S4a++[e])=S4a:=fun e=>by rw [hlX,<- oq]; simp
   have gc:∀ e:Ent,entAt (S'++[e]) I.it I.et=_:=fun e=>Ad ev;have jn:∀ e:Ent,entAt (S1a++[e]) I.ic I.ec=some (flat ga0 cs):=fun e=>Ad mr;have a1e:=ai.top;simp only [Aj,hcl,intA] at a1e;have uk:∀ e:Ent,entAt (S2a++[e]) I.it I.et=_:=fun e=>Ad a1e;have hE3:∀ e:Ent,entAt (S2a++[e]) (S.length+2) n8=some (ga0 z.1):=fun e=>Ad vk.E8;have su:∀ e:Ent,entAt (S2a++[e]) I.ic I.ec=some (flat ga0 (put cs (2*x) w.1)):=fun e=>Ad pn;have sv:∀ e:Ent,entAt (S3a++[e]) I.ic I.ec=some (flat ga0 (put cs (2*x) w.1)):=fun e=>Ad a1c;have fc:=A5 (ce:=ga0) ga1 (l:=cs) (k:=2*x) (q':=w.1) aA;have ja:=A5 (ce:=ga0) ga1 (l:=put cs (2*x) w.1) (k:=2*x+1) (q':=d.1) fT;have htx:=Ap (ce:=ga0) ga1 (l:=put cs (2*x) w.1) (k:=2*x) (q:=w.1) (Bw aA);simp (maxSteps:=10^6)+contextual(disch:=try exact dqd)only[evg1,simprocAttr,Cb,Bg,Cc,ga41,e0,e2,e4,e6,e8,e40,e41,e42,c2,hw,wz,jq,w7,xa,hb1,hb2,fk,hg1,uo,db,hg3,hP4,i6,gc,jn,uk,hE3,su,sv,fc,ja,htx,Eh,xfs,ga5,ga9,ga1,ga6];have hsc:lcC qF z.1 (idxV vars ct.1) cs ct.2=(put (put cs (2*x) w.1) (2*x+1) d.1,Cj w.2 d.2):=by unfold lcC; rw [<- hx,<- gh,<- f9]
   rw [lq] at jz;simp only [lcsC,hsc] at jz;exact IH (S4a,n'+1+ua3+ua4,j+1,put (put cs (2*x) w.1) (2*x+1) d.1,Cj f1 (Cj w.2 d.2)) _ aF ⟨rfl,aE,by rw [jz]; simp only [Fo],by rw [Aj,Aj]; exact hcl,by simpa only [Fo] using tf,bJ⟩
  ·have c2:decide ((j:Int)<(a.length:Int))=false:=gT
   have oj:a.drop j=[]:=Cy aA;rw [oj] at jz;simp only [lcsC,Fk] at jz;clear IH oj xv hj;obtain ⟨h,hh⟩:∃ h,h=di I.ib I.eb 1 t1.rows.length:=⟨_,rfl⟩;have hlen:lenV false true h=some (.int (t1.rows.length:Nat)):=by
    rw [hh];cases t1.rows.length with
    | zero=>rfl
    | succ n=>rfl
   rw [<- hh] at ev;simp (maxSteps:=10^6)+contextual(disch:=try exact dqd)only[evg1,simprocAttr,Cb,Bg,Cc,ga41,e0,e2,e4,e6,e8,e40,e41,e42,c2,ev,hlen];obtain ⟨ck,oh⟩:∃ ck,ck=cs:=⟨_,rfl⟩;subst oh;obtain ⟨fa,a1f⟩:∃ fa,fa=Cj (Cj t1.fl z.2) f1:=⟨_,rfl⟩;rw [<- a1f] at b6;have a3c:=hcl;clear hcl ev c2;refine Dp (P:=prog) (fun x st=>st.T.length=150/\(x.2.2.1<=t1.rows.length)/\(lessBs qF t1.basis t1.rows ck=((lessBs qF (t1.basis.drop x.2.2.1) (t1.rows.drop x.2.2.1) x.2.2.2.1).1,Cj x.2.2.2.2 (lessBs qF (t1.basis.drop x.2.2.1) (t1.rows.drop x.2.2.1) x.2.2.2.1).2))/\(x.2.2.2.1.length=t1.cost.length)/\(Um S x.1 iq eq I { t1 with cost:=x.2.2.2.1,fl:=Cj fa x.2.2.2.2 } cc k n8 z.1 (Ao a) n)/\getT st.T 0=.ref I.it I.et 0/\getT st.T 4=.ref S.length k 0/\getT st.T 6=.ref (S.length+1) (k+1) 0/\getT st.T 92=h/\getT st.T 93=.int (t1.rows.length:Nat)/\getT st.T 94=.int (x.2.2.1:Nat)/\st.S=x.1/\st.tk=tk'/\st.n=x.2.1) (fun x=>t1.rows.length - x.2.2.1) (S',n',0,ck,false) ?_ ?_;case refine_2=>exact ⟨rfl,Cl _,rfl,a3c,by simp only [Fk]; exact b6,rfl,rfl,rfl,rfl,rfl,rfl,rfl,rfl,rfl⟩
   rintro ⟨SS,n1,j,cs,f2⟩ ⟨T,S',tk',n'⟩ ⟨hl,hj,yw,hcl,b6,e0,e4,e6,e92,e93,e94,eS,eT,eN⟩ IH;simp only at hj yw hcl b6 e0 e4 e6 e92 e93 e94 eS eT eN;subst eS eT eN;obtain ⟨g,hg,hT⟩:=Au hl;rw [hg] at e0 e4 e6 e92 e93 e94;subst hT;clear hg hl;have ev:=b6.T.top;simp only [hcl,intA] at ev;by_cases hjm:j<t1.rows.length
   ·have c2:decide ((j:Int)<(t1.rows.length:Int))=true:=dM
    have hw:Ca.wrap ((j:Int)+1)=((j+1:Nat):Int):=by rw [Ac (by unfold i64; have:=qf.bigM; omega)]; rfl
    have bh:0<t1.rows.length:=aA
    have cg:t1.rows≠[]:=fun h0=>Za4q
    rw [A9 bh] at hh;subst hh;rw [A9 bh,A9 bh] at ev;have jf:=b6.T.basisE cg;have ff:=b6.T.rowsE cg;simp only [hcl] at ff;obtain ⟨bk,g8⟩:=Af (show j<t1.basis.length by rw [qf.nb]; exact hjm);have eo:nth (I7 j (t1.basis.map intA)) 0=some (.prim (.int .i64 (bk:Int))):=Bd (by rw [Ag] at g8 ⊢; rw [Cw,g8]; rfl);obtain ⟨pk,d6⟩:=Af (show j<I.ids.length by rw [qf.nids]; exact hjm);have bj:nth (I7 j (I.ids.map (da t1.cost.length ua2))) 0=some (.sref pk.1 pk.2 0 t1.cost.length ua2):=Bd (by rw [Ag] at d6 ⊢; rw [Cw,d6]; rfl);obtain ⟨r0,ef⟩:=Af hjm;have dh:=qf.rowW r0 (Ak ef);have ii:=qf.okr r0 (Ak ef);have bw:=b6.T.rowE j pk r0 d6 ef;have c9:=ag.ap.row pk (Ak d6);have hbW:=qf.bB bk (Ak g8);obtain ⟨rr,au,S3,k3,rfl,dz,mi,de,cu⟩:=Atn S' tk' n' iq eq _ I.it I.et I.ic I.ec pk.1 pk.2 t1.cost.length bk _ cs r0 b6.T.top b6.T.fa b6.T.costE bw hcl dh hbW hW b6.T.okc ii c9.2.2.1.symm ag.ap.tc.symm ag.ap.qc.symm ag.ap.qt c9.2.2.2.2.symm;obtain ⟨y,hy⟩:∃ y,y=lessT qF cs r0 bk:=⟨_,rfl⟩;have hyl:y.1.length=t1.cost.length:=by rw [hy,K8]; exact hcl
    have hyo:okL qF y.1:=by rw [hy]; exact V6 Dj b6.T.okc ii
    rw [<- hy] at mi de;have ba:=b6.T.setCost (S':=S3) (k':=y.1) (fl':=Cj (Cj fa f2) y.2) (by simp only [hcl]; exact hyl) hyo cu mi de;have zk:=b6.step cl ba (fun j hj=>cu j hj.2.1 hj.1) dz;have io:Ib S'.length S3=S3:=C6 aA;have a3d:S'.length<=S3.length:=aA
    have md:=ba.top;have a3e:=ba.rowsE cg;simp only [hyl,intA] at md a3e;rw [A9 bh,A9 bh] at md;simp (maxSteps:=10^6)+contextual(disch:=try exact dqd)only[evg1,simprocAttr,Cb,Bg,Cc,ga41,e0,e4,e6,e92,e93,e94,c2,hw,ev,jf,eo,ff,bj,hjm,au,io,a3d,R4,Eh,xfs,C9];have hdb:=A1 g8;have da:=A1 ef;rw [hdb,da] at yw;simp only [lessBs,<- hy] at yw;exact IH (S3,k3,j+1,y.1,Cj f2 y.2) _ aF ⟨rfl,aE,by rw [yw]; simp only [Fo],hyl,by simpa only [Fo] using zk,bJ⟩
   ·have c2:decide ((j:Int)<(t1.rows.length:Int))=false:=dM
    have oj:t1.rows.drop j=[]:=Cy aA;have a3f:lessBs qF t1.basis t1.rows ck=(cs,f2):=by
     rw [yw,oj];cases t1.basis.drop j <;> simp [lessBs]
    have hlt:Je qF t a vars={ t1 with cost:=cs,fl:=Cj fa f2 }:=by
     unfold Je;simp only;rw [<- cj,<- hz,<- wc,jz,a3f,a1f]
    rw [hlt] at hK;obtain ⟨rd,a1g,S4,k4,rfl,oq,fd,hn4⟩:=Zj S' tk' n' iq eq I _ t' cc K b b6.T hK;have tf:=b6.step cl fd hn4 oq;have ub:=tf.E6;have a4j:=tf.len;have qh:=tf.fr;clear IH;have qg:=tf.E4;simp only [Ao] at qg;simp only [Aec] at ub;have l8:LowQ I iq S.length t':=⟨aq.it,aq.ic,fun hr=>by
     by_cases h0:t.rows=[]
     ·exact Ya1l
     ·exact aq.ir h0,fun hr=>by
     by_cases h0:t.rows=[]
     ·exact Ya1l
     ·exact aq.ib h0,aq.row,aq.iq⟩
    cases b with
    | false =>
     have hI:∀ S tk k,cL prog 34 [.int 0] S tk k=some (.agg (ceW (0,1)),S,tk,k):=fun S tk k=>Pk S tk k 0 aC;have hE7:∀ cs,entAt (put S4 (S.length+1) ⟨k+1,cs⟩) (S.length+1) (k+1)=some cs:=fun cs=>Ae aA;simp (maxSteps:=10^6)+contextual(disch:=try exact dqd)only[evg1,simprocAttr,Cb,Bg,Cc,ga41,e0,e4,e6,e92,e93,e94,c2,a1g,hI,ub,hE7,ovW,Al,An,tkW,puW];rw [hΦ];refine ⟨_,_,rfl,Za33,?_,fun j hj=>?_⟩
     ·have nw:=fd.frame (S':=put S4 (S.length+1) ⟨k+1,ceW (0,1)⟩) (fl':=t'.fl) l8 (fun j h1 h2=>Ab aA) (fd.fa.put aA);exact nw.take l8
     ·by_cases gj:j<S.length
      ·rw [B6 gj,Ab aA]; exact qh j gj hj
      ·rw [Ag,Ag,Cu cD,Cu aA]
    | true =>
     have sw:=fd.top;simp only [intA] at sw;have a57:=fd.costE;have hW4:=fd.bigW;have hr4:=fd.real;have hw4:Ca.wrap ((t'.cost.length:Int) - 1)=((t'.cost.length - 1:Nat):Int):=aS
     have a1h:t'.cost.length - 1<t'.cost.length:=aA
     obtain ⟨x,hx⟩:=Af a1h;have ox:=fd.okc x (Ak hx);obtain ⟨w,gh⟩:∃ w,w=qF.whole n:=⟨_,rfl⟩;have ow:qF.ok w.1:=by rw [gh]; exact Ee _ hn
     obtain ⟨d,f9⟩:∃ d,d=qF.minus w.1 x:=⟨_,rfl⟩;have od:qF.ok d.1:=by rw [f9]; exact Dj.minus _ _ ow ox
     have i8:Gt qF t' n=(d.1,Cj w.2 d.2):=by unfold Gt; rw [Av hx,<- gh,<- f9]
     have fk:=Km S4 tk' k4 iq eq t'.fl n hn fd.fa;have hg1:=Ek (c:=w.2) fd.fa;rw [<- gh] at fk;obtain ⟨S5,hS5⟩:∃ S5,S5=flS S4 iq eq w.2:=⟨_,rfl⟩;have nw:=fd.flag (S':=flS S4 iq eq w.2) (fun j hj=>ga8 hj) fd.fa.fS;have hL5:=tf.step cl nw (fun j hj=>ga8 hj.1) Bm;rw [<- hS5] at fk hg1 nw hL5;obtain ⟨n5,hn5⟩:∃ n5,n5=k4+ua3:=⟨_,rfl⟩;rw [<- hn5] at fk;have ht5:=nw.top;simp only [intA] at ht5;have xx:=nw.costE;have d9:=Ap (ce:=ga0) ga1 hx;have db:=L2 S5 tk' n5 iq eq _ w.1 x ow ox nw.fa;have hg2:=Ek (c:=d.2) nw.fa;rw [<- f9] at db;obtain ⟨S6,ym⟩:∃ S6,S6=flS S5 iq eq d.2:=⟨_,rfl⟩;have zp:=nw.flag (S':=flS S5 iq eq d.2) (fun j hj=>ga8 hj) nw.fa.fS;have hL6:=hL5.step cl zp (fun j hj=>ga8 hj.1) Bm;rw [<- ym] at db hg2 zp hL6;obtain ⟨n9,hn9⟩:∃ n9,n9=n5+ua4:=⟨_,rfl⟩;rw [<- hn9] at db;have hl6:=hL6.len;have hEv:entAt (S6++[⟨n9,ga0 d.1⟩]) S6.length n9=some (ga0 d.1):=Az;have ht6:entAt (S6++[⟨n9,ga0 d.1⟩]) I.it I.et=_:=Ad zp.top;simp only [intA] at ht6;have hr:=Q6 (S6++[⟨n9,ga0 d.1⟩]) tk' (n9+1) iq eq _ d.1 od (zp.fa.app);have a1i:=hL6.E6;simp only [Aec] at a1i;have a3g:entAt (S6++[⟨n9,ga0 d.1⟩]) (S.length+1) (k+1)=_:=Ad a1i;have zh:∀ e x:Ent,put (S6++[e]) (S.length+1) x=put S6 (S.length+1) x++[e]:=fun e x=>B4 aA;have hE7:∀ cs e,entAt (put S6 (S.length+1) ⟨k+1,cs⟩++[e]) (S.length+1) (k+1)=some cs:=fun cs e=>Ad (Ae aA);simp (maxSteps:=10^6)+contextual(disch:=try exact dqd)only[evg1,simprocAttr,Cb,Bg,Cc,ga41,e0,e4,e6,e92,e93,e94,c2,a1g,sw,qg,hw4,fk,hg1,ht5,xx,d9,a1h,db,hg2,hEv,ht6,hr,a3g,zh,hE7,Eh,xfs,ga5,ga9,ga1,ga6,ga7,ovW,Al,An,Bt,tkW,puW];rw [hΦ,Agf];unfold Asd;rw [if_pos rfl,if_pos rfl,i8];refine ⟨_,_,rfl,by rw [Iu,Cm,Ai]; omega,?_,fun j hj=>?_⟩
     ·have hT7:=(zp.app [(⟨n9,ga0 d.1⟩:Ent)]).frame (S':=put S6 (S.length+1) ⟨k+1,ceW (qF.rat d.1)⟩++[(⟨n9,ga0 d.1⟩:Ent)]) (fl':=Cj (Cj t'.fl w.2) d.2) (l8.of fun h=>h) (fun j h1 h2=>by rw [Ax bQ,Ab aA,Ax aA]) ((zp.fa.put aA).app);have hT8:=hT7.take (n:=S.length) (l8.of fun h=>h);simpa only [Fo] using hT8
     ·by_cases gj:j<S.length
      ·rw [B6 gj,Ax bQ,Ab aA]; exact hL6.fr j gj hj
      ·rw [Ag,Ag,Cu cD,Cu aA]):p:=h
namespace QQ
theorem Avp:Aw28:=Ma28
end QQ
end
end
section
open Go
set_option maxRecDepth 100000
abbrev Aw29 (p:Prop:=by exact ∀ {S:List Ent}{iq eq:Nat}{I:TI}{t:Tb}{c:Cap}(h:A7 S iq eq I t c)(h0:t.rows=[])(m9:iq<S.length){x y:Nat}(hx:S.length<=x)(hy:S.length<=y)(j8:x≠y),A7 S iq eq ⟨I.it,I.et,x,0,I.ic,I.ec,y,0,I.ids⟩ t c):=p
theorem Ma29 {p:Prop} (h:p:=by
 intro h h0 m9 x y hx hy j8;have hl:=h.low;have h1:=hl.it;have h2:=hl.ic;have lx:I.ids=[]:=C4.1 (by rw [h.nids,h0]; rfl);refine ⟨?_,h.nids,fun hn=>absurd h0 hn,h.rowE,h.rowW,h.costE,fun hn=>absurd h0 hn,h.nb,h.nf,h.fa,?_,h.okr,h.okc,h.bigW,h.bigM,h.real,h.bB⟩
 ·have h3:=h.top;rw [h0] at h3 ⊢;exact h3
 ·have ha:=h.ap;refine ⟨bP,ha.tc,bP,bP,j8,bP,ha.qt,bP,ha.qc,bP,fun p hp=>?_,ha.rows⟩;rw [lx] at hp; simp at hp):p:=h
namespace QQ
theorem A7.junk:Aw29:=fun {S iq eq I t c}=>Ma29
def BegRQ (S:List Ent) (iq eq:Nat) (t':Tb) (r:Rs):Prop :=
 ∃ S' k' tk' I cc,r=(.ref I.it I.et 0,S',tk',k')/\S.length<=S'.length/\A7 S' iq eq I t' cc/\(∀ j,j<S.length->j≠iq->nth S' j=nth S j)/\(∀ j,j<S.length->j≠iq->OutQ I iq j)/\(I.ib<S'.length\/S'.length+15<I.ib)
end QQ
abbrev Aw30 (p:Prop:=by exact ∀ {S:List Ent}{iq eq:Nat}{t':Tb}{r:Rs}(m9:iq<S.length)(h:Aos S iq eq t' r),BegRQ S iq eq t' r):=p
theorem Ma30 {p:Prop} (h:p:=by
 intro m9 h;obtain ⟨S',k',tk',I,cc,hr,h1,h2,h3,h4⟩:=h;by_cases h0:t'.rows=[]
 ·refine ⟨S',k',tk',⟨I.it,I.et,S'.length+20,0,I.ic,I.ec,S'.length+21,0,I.ids⟩,cc,hr,h1,h2.junk h0 aA aA aA aA,h3,fun j a b=>?_,.inr bP⟩;have h5:=h4 j a b;exact ⟨h5.1,h5.2.1,bP,h5.2.2.2⟩
 ·exact ⟨S',k',tk',I,cc,hr,h1,h2,h3,h4,.inl (h2.low.ib h0)⟩):p:=h
namespace QQ
theorem Aos.far:Aw30:=fun {S iq eq t' r}=>Ma30
end QQ
end
section
open Go Tryz
open Go.Proofs.Tryz renaming func58->ga42,ntmps58->ga43,results58->ga44
set_option maxRecDepth 100000
namespace QQ
abbrev ua17:Nat:=58
end QQ
set_option maxHeartbeats 20000000
set_option maxRecDepth 100000
def Apk (S:List Ent) (iq:Nat) (a:Ans) (ok:Bool) (r:Rs):Prop :=
 ∃ S' tk' k' c1 c2 q b,r=(.tup [.agg (ansC a.f a.pt a.nu c1 c2 q b),.bool ok],S',tk',k')/\S'.length=S.length/\(∀ j,j<S.length->j≠iq->nth S' j=nth S j)/\(∀ v,a.least=some v->q=some v.1/\b=v.2)/\(a.least=none->q=none/\b=false)
section
variable (S:List Ent) (tk:List Nat) (k iq eq:Nat)
abbrev Aw31 (p:Prop:=by exact ∀ (S:List Ent)(tk:List Nat)(k iq eq:Nat)(l:List RowT)(fl:Bool)(hl:l.length<=1000)(hn:(Bh l).length<=1000)(vars:List ByteArray)(gm:vars.length<=1000)(hv:∀ r ∈ l,∀ c ∈ r.1,c.1 ∈ vars)(hc:∀ r ∈ l,i64 r.2.1/\∀ c ∈ r.1,i64 c.2)(dq:fewC l)(m9:iq<S.length)(hf:FAq S iq eq fl)(K:Nat)(a:Ans)(ok:Bool)(hS:H8 qF K l vars fl=some (a,ok)),∃ r,cL prog ua17 [.ifc ua0 (rcvQ iq eq),Ar l,Aq vars,.prim (.pointer none)] S tk k=some r/\Apk S iq a ok r):=p
theorem Ma31 {p:Prop} (h:p:=by
 intro S tk k iq eq l fl hl hn vars gm hv hc dq m9 hf K a ok hS;obtain ⟨Φ,hΦ⟩:∃ Φ,Φ=Apk S iq a ok:=⟨_,rfl⟩;rw [<- hΦ];obtain ⟨rb,th,hbP⟩:=Arp (S++[(⟨k,ans0⟩:Ent)]) tk (k+1) iq eq l fl hl hn vars gm hv hc dq aD hf.app;obtain ⟨Sb,kb,tkb,I,cc,rfl,hlb,hTb,jx,hob,yz⟩:=hbP.far aD;simp only [ans0,Ar,Aq] at th;cases hd:Gp qF K (Bj qF l vars fl) with
 | none=>unfold H8 at hS; rw [hd] at hS; simp at hS
 | some bt =>
  obtain ⟨b,t⟩:=bt;obtain ⟨rd,lq,Sd,kd,rfl,we,hTd,ua⟩:=Zj Sb tkb kb iq eq I _ t cc K b hTb hd;have gg:=Vg Sd tkb kd iq eq t.fl hTd.fa;unfold H8 at hS;rw [hd] at hS;simp only at hS;have ft:∀ j,j<S.length+1->j≠iq->OutQ I iq j:=fun j h1 h2=>hob j aD h2;have zo:S.length+1<=Sb.length:=by simpa using hlb
  have gc:entAt Sd S.length k=some ans0:=by
   rw [Aa (ua _ (ft _ aA aA)),Aa (jx _ (by simp) aA)];exact Az
  have am:∀ j,j<S.length->j≠iq->nth Sd j=nth S j:=fun j h1 h2=>by
   rw [ua _ (ft _ aA h2),jx _ aD h2,Ax h1]
  have zq:∀ cs,entAt (put Sd S.length ⟨k,cs⟩) S.length k=some cs:=fun cs=>Ae aA;have qi:over ans0 0 ans0=some ans0:=rfl;have xy:=gc;simp only [ans0] at qi gc;refine opG ga42 ga43 ?_;cases aj:(qF.stop && t.fl) with
  | true =>
   exact Yar
  | false =>
   rw [aj] at gg hS;rw [if_neg F6] at hS;obtain ⟨rf,ed,Sf,kf,rfl,hlf,om,r6⟩:=Ab7 Sd tkb kd iq eq I t cc hTd;have hsz:=P5 hd;have lg:=Ma (F:=qF) (l:=l) (vars:=vars) (fl:=fl);have zr:∀ d,d<=10->OutQ I iq (Sf.length+d):=fun d hd=>by
    rw [hlf,we]; exact Afa hTb aA aA d hd
   have hEf:entAt Sf S.length k=some ans0:=Za76
   cases hfe:Gw t with
   | false =>
    exact Ya7
   | true =>
    rw [hfe] at ed hS;rw [if_pos rfl] at hS;simp only [A8,Cg] at hS;obtain ⟨rfl,rfl⟩:=hS;obtain ⟨ans1,ql⟩:∃ ans1:List AV,ans1=[.prim (.bool true),.frz [] .nilc,.frz [] .nilc,.prim (.bool false),.frz [] .nilc,.prim (.bool false),.frz [] .nilc,.prim (.bool false)]:=⟨_,rfl⟩;obtain ⟨rm,og,Sm,km,tkm,cm,rfl,u9,oi,eh⟩:=Ar4 (Sf++[(⟨kf,ans1⟩:Ent)]) tkb (kf+1) iq eq I t cc (om.app _) Za4e;have tj:Sm.length=Sf.length+1:=gX
    have l7:entAt Sm Sf.length kf=some ans1:=iA
    have fu:entAt Sm S.length k=some ans0:=iB
    have hR:J8 (Bq qF t).1=(Bq qF t).1.map fun q=>ceW (qF.rat q):=rfl;have te:∀ cs,entAt (put Sm Sf.length ⟨kf,cs⟩) Sf.length kf=some cs:=fun cs=>Ae aA;have ju:∀ x,entAt (put Sm Sf.length x) S.length k=some ans0:=fun x=>Za79
    have qj:∀ x,FAq (put Sm Sf.length x) iq eq (Cj t.fl (Bq qF t).2):=fun x=>oi.fa.put aA;have qk:=fun x=>Vg (put Sm Sf.length x) tkm km iq eq _ (qj x);have hPP:∀ x cs,entAt (put (put Sm Sf.length x) S.length ⟨k,cs⟩) S.length k=some cs:=fun x cs=>Ae bQ;rw [ql] at l7 og;have xz:Kj BinOp.neq (Tw prog 68) true=some (.prim (.bool false)):=aI
    simp only [ans0] at fu ju;simp (maxSteps:=10^6)+contextual(disch:=try exact dqd)only[evg1,simprocAttr,Cb,Bg,Cc,ga44,Ar,Aq,th,lq,gg,ed,og,l7,te,ju,qk,hPP,xz,Eh,xfs];rw [hΦ];refine ⟨_,_,_,cm,.nilc,none,false,Za1t,eW,fun j h1 h2=>?_,fun v hv=>dR,fun _=>⟨rfl,rfl⟩⟩;rw [B6 h1,Ab aA,Ab aA,eh _ (ft _ aA h2),Ax aA,r6 _ (ft _ aA h2)];exact am j h1 h2):p:=h
namespace QQ
theorem An2:Aw31:=Ma31
end QQ
end
end
section
open Go Tryz
set_option maxHeartbeats 4000000
set_option maxRecDepth 100000
theorem Gm {f b:Bool} {p n:List Q} {c1 c2:Cap} {q:Option Q} : (ansC f p n c1 c2 q b).length=8:=by cases q <;> rfl
theorem Ky {f b:Bool} {p n:List Q} {c1 c2:Cap} {q:Option Q} : (ansC f p n c1 c2 q b).all leafOk=true:=by cases q <;> rfl
theorem H6 {e e':List AV} (h:e.length=e'.length):over e 0 e'=some e':=by
 have:=Uc (r:=[]) h;exact Ya1d
section
variable (S:List Ent) (tk:List Nat) (k:Nat)
theorem Adl (l:List RowT) (hl:l.length<=1000) (hn:(Bh l).length<=1000) (vars:List ByteArray) (gm:vars.length<=1000) (hv:∀ r ∈ l,∀ c ∈ r.1,c.1 ∈ vars) (hc:∀ r ∈ l,i64 r.2.1/\∀ c ∈ r.1,i64 c.2) (dq:fewC l) (K:Nat) (a:Ans) (hS:H8 QQ.qF K l vars false=some (a,true)) (ha:a.least=none) :
  cL prog 31 [Ar l,Aq vars,.prim (.pointer none)] S tk k=some (.agg (ansC a.f a.pt a.nu .unk .unk (some (0,0)) false),S,tk,k):=by
 obtain ⟨r1,dc,S1,tk1,k1,c1,c2,q1,b1,rfl,hl1,bo,jd,fh⟩:=QQ.An2 [(⟨0,ans0⟩:Ent),(⟨1,[.prim (.bool false)]⟩:Ent)] [] 2 1 1 l false hl hn vars gm hv hc dq (by simp) rfl K a true hS;simp only [ans0,Ar,Aq] at dc;have hi1:Tv prog 95=false:=aI
 have wu:Tv prog 100=false:=aI
 have hN1:∀ e:Ent,nth (S1++[e]) S1.length=some e:=fun e=>by rw [Ag,Fc (Ce _),Ol]; rfl
 have fc:over [AV.prim (.bool false),.frz [] .nilc,.frz [] .nilc,.prim (.bool false),.frz [] .nilc,.prim (.bool false),.frz [] .nilc,.prim (.bool false)] 0 (ansC a.f a.pt a.nu c1 c2 q1 b1)=some (ansC a.f a.pt a.nu c1 c2 q1 b1):=H6 (by rw [Gm]; rfl);have io:∀ f p n c1 c2 q b,takeN 8 (ansC f p n c1 c2 q b)=some (ansC f p n c1 c2 q b):=fun f p n c1 c2 q b=>by
  exact Ya4c
 have zl:nth S1 0=some ⟨0,ans0⟩:=by rw [bo 0 (by simp) aA]; rfl
 have a1v:S1.length=2:=by rw [hl1]; rfl
 have hN0:∀ e:Ent,nth (S1++[e]) 0=some ⟨0,ans0⟩:=fun e=>by rw [Ax aA]; exact zl
 have hNP:∀ e x:Ent,nth (put (S1++[e]) 0 x) 0=some x:=fun e x=>Bw (by simp);simp only [ans0] at hN0;exact Ya0d
end
end
section
open Go Tryz
open Go.Proofs.Tryz renaming func58->ga42,ntmps58->ga43,results58->ga44
set_option maxRecDepth 100000
set_option maxHeartbeats 20000000
set_option maxRecDepth 100000
section
variable (S:List Ent) (tk:List Nat) (k iq eq:Nat)
abbrev Aw32 (p:Prop:=by exact ∀ (S:List Ent)(tk:List Nat)(k iq eq:Nat)(cs:List (ByteArray × Int))(nn:Int)(pi pe:Nat)(hpE:entAt S pi pe=some [Ao cs,.prim (.int .i64 nn)])(hpq:pi≠iq)(hcc:∀ c ∈ cs,i64 c.2)(hnn:i64 nn)(hcl:cs.length<=24)(l:List RowT)(fl:Bool)(hl:l.length<=1000)(hn:(Bh l).length<=1000)(vars:List ByteArray)(gm:vars.length<=1000)(hcv:∀ c ∈ cs,c.1 ∈ vars)(hv:∀ r ∈ l,∀ c ∈ r.1,c.1 ∈ vars)(hc:∀ r ∈ l,i64 r.2.1/\∀ c ∈ r.1,i64 c.2)(dq:fewC l)(m9:iq<S.length)(hf:FAq S iq eq fl)(K:Nat)(a:Ans)(ok:Bool)(hS:Jh qF K l vars fl cs nn=some (a,ok)),∃ r,cL prog ua17 [.ifc ua0 (rcvQ iq eq),Ar l,Aq vars,.ref pi pe 0] S tk k=some r/\Apk S iq a ok r):=p
theorem Ma32 {p:Prop} (h:p:=by
 intro S tk k iq eq cs nn pi pe hpE hpq hcc hnn hcl l fl hl hn vars gm hcv hv hc dq m9 hf K a ok hS;obtain ⟨Φ,hΦ⟩:∃ Φ,Φ=Apk S iq a ok:=⟨_,rfl⟩;rw [<- hΦ];obtain ⟨rb,th,hbP⟩:=Arp (S++[(⟨k,ans0⟩:Ent)]) tk (k+1) iq eq l fl hl hn vars gm hv hc dq aD hf.app;obtain ⟨Sb,kb,tkb,I,cc,rfl,hlb,hTb,jx,hob,yz⟩:=hbP.far aD;simp only [ans0,Ar,Aq] at th;cases hd:Gp qF K (Bj qF l vars fl) with
 | none=>unfold Jh at hS; rw [hd] at hS; simp at hS
 | some bt =>
  obtain ⟨b,t⟩:=bt;obtain ⟨rd,lq,Sd,kd,rfl,we,hTd,ua⟩:=Zj Sb tkb kb iq eq I _ t cc K b hTb hd;have gg:=Vg Sd tkb kd iq eq t.fl hTd.fa;unfold Jh at hS;rw [hd] at hS;simp only at hS;have ft:∀ j,j<S.length+1->j≠iq->OutQ I iq j:=fun j h1 h2=>hob j aD h2;have zo:S.length+1<=Sb.length:=by simpa using hlb
  have gc:entAt Sd S.length k=some ans0:=by
   rw [Aa (ua _ (ft _ aA aA)),Aa (jx _ (by simp) aA)];exact Az
  have am:∀ j,j<S.length->j≠iq->nth Sd j=nth S j:=fun j h1 h2=>by
   rw [ua _ (ft _ aA h2),jx _ aD h2,Ax h1]
  have zq:∀ cs,entAt (put Sd S.length ⟨k,cs⟩) S.length k=some cs:=fun cs=>Ae aA;have qi:over ans0 0 ans0=some ans0:=rfl;have xy:=gc;simp only [ans0] at qi gc;refine opG ga42 ga43 ?_;cases aj:(qF.stop && t.fl) with
  | true =>
   exact Yar
  | false =>
   rw [aj] at gg hS;rw [if_neg F6] at hS;obtain ⟨rf,ed,Sf,kf,rfl,hlf,om,r6⟩:=Ab7 Sd tkb kd iq eq I t cc hTd;have hsz:=P5 hd;have lg:=Ma (F:=qF) (l:=l) (vars:=vars) (fl:=fl);have zr:∀ d,d<=10->OutQ I iq (Sf.length+d):=fun d hd=>by
    rw [hlf,we]; exact Afa hTb aA aA d hd
   have hEf:entAt Sf S.length k=some ans0:=Za76
   cases hfe:Gw t with
   | false =>
    exact Ya7
   | true =>
    rw [hfe] at ed hS;rw [if_pos rfl] at hS;obtain ⟨ans1,ql⟩:∃ ans1:List AV,ans1=[.prim (.bool true),.frz [] .nilc,.frz [] .nilc,.prim (.bool false),.frz [] .nilc,.prim (.bool false),.frz [] .nilc,.prim (.bool false)]:=⟨_,rfl⟩;obtain ⟨rm,og,Sm,km,tkm,cm,rfl,u9,oi,eh⟩:=Ar4 (Sf++[(⟨kf,ans1⟩:Ent)]) tkb (kf+1) iq eq I t cc (om.app _) Za4e;have tj:Sm.length=Sf.length+1:=gX
    have l7:entAt Sm Sf.length kf=some ans1:=iA
    have fu:entAt Sm S.length k=some ans0:=iB
    have hR:J8 (Bq qF t).1=(Bq qF t).1.map fun q=>ceW (qF.rat q):=rfl;obtain ⟨S1,b8⟩:∃ S1,S1=put Sm Sf.length ⟨kf,[.prim (.bool true),.frz (J8 (Bq qF t).1) cm,.frz [] .nilc,.prim (.bool false),.frz [] .nilc,.prim (.bool false),.frz [] .nilc,.prim (.bool false)]⟩:=⟨_,rfl⟩;have hl1:S1.length=Sf.length+1:=by rw [b8,Ai]; exact tj
    have bo:∀ j,j≠Sf.length->nth S1 j=nth Sm j:=fun j hj=>by rw [b8,Ab (Ih hj)]
    have a7:A7 S1 iq eq I { t with fl:=Cj t.fl (Bq qF t).2 } cc:=oi.frame (n:=Sf.length) (om.low.of fun h=>h) (fun j h1 h2=>bo j aA) (oi.fa.of (bo _ aA));have jn:entAt S1 Sf.length kf=some [.prim (.bool true),.frz (J8 (Bq qF t).1) cm,.frz [] .nilc,.prim (.bool false),.frz [] .nilc,.prim (.bool false),.frz [] .nilc,.prim (.bool false)]:=by rw [b8]; exact Ae aA
    have hp1:entAt S1 pi pe=some [Ao cs,.prim (.int .i64 nn)]:=by
     have dt:=Aw hpE;rw [Aa (bo _ aA),Aa (eh _ (ft _ aA hpq)),Ad (by rw [Aa (r6 _ (ft _ aA hpq)),Aa (am _ dt hpq)]; exact hpE)]
    have a3h:entAt S1 S.length k=some ans0:=by rw [Aa (bo _ aA)]; exact fu
    have hl:=om.low;cases hd2:Gp qF K (Je qF { t with fl:=Cj t.fl (Bq qF t).2 } cs vars) with
    | none=>rw [show (t.fl || (Bq qF t).2)=Cj t.fl (Bq qF t).2 from rfl,hd2] at hS; simp at hS
    | some bu =>
     obtain ⟨bb,u⟩:=bu;rw [show (t.fl || (Bq qF t).2)=Cj t.fl (Bq qF t).2 from rfl,hd2] at hS;obtain ⟨rl,y5,y8⟩:=Avp S1 tkm km iq eq I _ u cc K bb cs nn vars a7 aA aA gm (by simp only; rw [hsz.2.2.1,lg.2.2.1]; omega) hcv hcc hnn hcl hd2;obtain ⟨Sg,kg,rfl,hlg,hTg,hng⟩:=y8;obtain ⟨pt,wo⟩:∃ pt,pt=J8 (Bq qF t).1:=⟨_,rfl⟩;rw [<- wo] at jn b8;obtain ⟨v,hv⟩:∃ v:Q,v=(if bb=true then qF.rat (Gt qF u nn).1 else (0,1)):=⟨_,rfl⟩;rw [<- hv] at y5;obtain ⟨fg,hfg⟩:∃ fg:Bool,fg=(if bb=true then Cj u.fl (Gt qF u nn).2 else u.fl):=⟨_,rfl⟩;have a3i:FAq Sg iq eq fg:=by
      have h:=hTg.fa;rw [hfg];cases bb <;> exact h
     have hEg:entAt Sg Sf.length kf=some [.prim (.bool true),.frz pt cm,.frz [] .nilc,.prim (.bool false),.frz [] .nilc,.prim (.bool false),.frz [] .nilc,.prim (.bool false)]:=by rw [Aa (hng Sf.length (zr 0 aA))]; exact jn
     have a3j:entAt Sg S.length k=some ans0:=by rw [Aa (hng _ (ft _ aA aA))]; exact a3h
     have fc:over [.prim (.bool false),.frz [] .nilc,.prim (.bool false),.frz [] .nilc,.prim (.bool false)] 0 (ceW v)=some (ceW v++[AV.prim (.bool false)]):=rfl;have ja:over (ceW v++[AV.prim (.bool false)]) 4 [.prim (.bool bb)]=some (ceW v++[AV.prim (.bool bb)]):=rfl;have u5:over [.prim (.bool false),.frz [] .nilc,.prim (.bool false),.frz [] .nilc,.prim (.bool false)] 0 (ceW v++[AV.prim (.bool bb)])=some (ceW v++[AV.prim (.bool bb)]):=rfl;have sj:takeN 5 (ceW v++[AV.prim (.bool bb)])=some (ceW v++[AV.prim (.bool bb)]):=rfl;have a3k:(ceW v++[AV.prim (.bool bb)]).all leafOk=true:=rfl;have uu:(ceW v++[AV.prim (.bool bb)]).length=5:=rfl;have a3l:∀ m S,(ceW v++[AV.prim (.bool bb)]).map (fz1 m S)=ceW v++[.prim (.bool bb)]:=fun _ _=>rfl;have hP1:∀ cs,entAt (put Sg Sf.length ⟨kf,cs⟩) Sf.length kf=some cs:=fun cs=>Ae aA;have uo:∀ x cs,entAt (put (put Sg Sf.length x) Sf.length ⟨kf,cs⟩) Sf.length kf=some cs:=fun x cs=>Ae bQ;have hP3:∀ x y,entAt (put (put Sg Sf.length x) Sf.length y) S.length k=some ans0:=fun x y=>by rw [Ah aA,Ah aA]; exact a3j
     have hP4:∀ x y cs,entAt (put (put (put Sg Sf.length x) Sf.length y) S.length ⟨k,cs⟩) S.length k=some cs:=fun x y cs=>Ae (by rw [Ai,Ai]; omega);have a3m:=fun x y=>Vg (put (put Sg Sf.length x) Sf.length y) tkm kg iq eq fg ((a3i.put aA).put aA);have xz:Kj BinOp.neq (Tw prog 68) false=some (.prim (.bool true)):=aI
     rw [ql] at l7 og;simp only [ans0] at fu hP3;simp only [linA,Aq,Ao] at y5;simp only [Ao] at hp1;simp (maxSteps:=10^6)+contextual(disch:=try exact dqd)only[evg1,simprocAttr,Cb,Bg,Cc,ga44,Ar,Aq,th,lq,gg,ed,og,l7,<- wo,<- b8,xz,hp1,y5,hEg,fc,hP1,ja,uo,hP3,u5,sj,a3k,uu,a3l,a3m,hP4,Al,An,Eh,xfs];rw [hΦ];have a1j:∀ (e1 e2 e3:Ent) j,j<S.length->j≠iq->nth (Ib S.length (put (put (put Sg Sf.length e1) Sf.length e2) S.length e3)) j=nth S j:=fun e1 e2 e3 j h1 h2=>by
      rw [B6 h1,Ab aA,Ab aA,Ab aA,hng _ (ft _ aA h2),bo _ aA,eh _ (ft _ aA h2),Ax aA,r6 _ (ft _ aA h2)];exact am j h1 h2
     have hlz:∀ (e1 e2 e3:Ent),(Ib S.length (put (put (put Sg Sf.length e1) Sf.length e2) S.length e3)).length=S.length:=fun e1 e2 e3=>by rw [Iu,Ai,Ai,Ai]; omega
     cases bb with
     | true =>
      simp only [A8,Cg] at hS;obtain ⟨rfl,rfl⟩:=hS;rw [if_pos rfl] at hv hfg;refine ⟨_,_,_,cm,.nilc,some v,true,Za2r,by exact hlz _ _ _,by exact a1j _ _ _,fun w hw=>?_,fun hw=>by simp at hw⟩
      ·simp only [A8] at hw;subst hw;exact ⟨by rw [hv],rfl⟩
     | false =>
      simp only [A8,Cg] at hS;obtain ⟨rfl,rfl⟩:=hS;rw [if_neg F6] at hv hfg;refine ⟨_,_,_,cm,.nilc,some v,false,Za2r,by exact hlz _ _ _,by exact a1j _ _ _,fun w hw=>?_,fun hw=>by simp at hw⟩
      ·simp only [A8] at hw;subst hw;exact ⟨by rw [hv],rfl⟩):p:=h
namespace QQ
theorem An3:Aw32:=Ma32
end QQ
end
end
section
open Go Tryz
set_option maxHeartbeats 4000000
set_option maxRecDepth 100000
theorem Ad7 {m:Nat} {S:List Ent} {f b:Bool} {p n:List Q} {c1 c2:Cap} {q:Option Q} : (ansC f p n c1 c2 q b).map (fz1 m S)=ansC f p n c1 c2 q b:=by cases q <;> rfl
theorem Aey {α:Type} {l r:List α} (hl:l.length=r.length) (h:∀ j,j<r.length->nth l j=nth r j):l=r:=by
 refine List.ext_getElem? fun i=>?_;by_cases hi:i<r.length
 ·have:=h i hi; rwa [Ag,Ag] at this
 ·rw [Cu aA,Cu aA]
def AskP (S:List Ent) (a:Ans) (r:Rs):Prop :=
 ∃ tk' k' c1 c2 q b,r=(.agg (ansC a.f a.pt a.nu c1 c2 q b),S,tk',k')/\(∀ v,a.least=some v->q=some v.1/\b=v.2)/\(a.least=none->q=none/\b=false)
section
variable (S:List Ent) (tk:List Nat) (k:Nat)
theorem Aah (cs:List (ByteArray × Int)) (nn:Int) (pi pe:Nat) (hpE:entAt S pi pe=some [Ao cs,.prim (.int .i64 nn)]) (hcc:∀ c ∈ cs,i64 c.2) (hnn:i64 nn) (hcl:cs.length<=24) (l:List RowT) (hl:l.length<=1000) (hn:(Bh l).length<=1000) (vars:List ByteArray) (gm:vars.length<=1000) (hcv:∀ c ∈ cs,c.1 ∈ vars) (hv:∀ r ∈ l,∀ c ∈ r.1,c.1 ∈ vars) (hc:∀ r ∈ l,i64 r.2.1/\∀ c ∈ r.1,i64 c.2) (dq:fewC l) (K:Nat) (a:Ans) (hS:Jh QQ.qF K l vars false cs nn=some (a,true)) :
  ∃ r,cL prog 31 [Ar l,Aq vars,.ref pi pe 0] S tk k=some r/\AskP S a r:=by
 obtain ⟨Φ,hΦ⟩:∃ Φ,Φ=AskP S a:=⟨_,rfl⟩;rw [<- hΦ];have dt:=Aw hpE;obtain ⟨r1,dc,S1,tk1,k1,c1,c2,q1,b1,rfl,hl1,bo,jd,fh⟩:=QQ.An3 (S++[(⟨k,ans0⟩:Ent)]++[(⟨k+1,[.prim (.bool false)]⟩:Ent)]) tk (k+1+1) (S.length+1) (k+1) cs nn pi pe (Ad (Ad hpE)) aA hcc hnn hcl l false hl hn vars gm hcv hv hc dq (by simp) Za47 K a true hS;simp only [ans0,Ar,Aq] at dc;have hi1:Tv prog 95=false:=aI
 have wu:Tv prog 100=false:=aI
 have a1v:S1.length=S.length+2:=by rw [hl1]; simp
 have b8:∀ x:Ent,(S++[x]).length=S.length+1:=fun x=>by simp
 have bp:∀ x y:Ent,(S++[x]++[y]).length=S.length+2:=fun x y=>by simp
 have a1k:∀ j,j<S.length->nth S1 j=nth S j:=fun j hj=>by
  rw [bo j fU aA,Ax (by rw [b8]; omega),Ax hj]
 have zl:entAt S1 S.length k=some ans0:=by
  rw [Aa (bo S.length fU aA)];exact Ad Az
 obtain ⟨x1,ru⟩:∃ x1,x1=ansC a.f a.pt a.nu c1 c2 q1 b1:=⟨_,rfl⟩;rw [<- ru] at dc;have tl:x1.length=8:=by rw [ru]; exact Gm
 have a1w:x1.all leafOk=true:=by rw [ru]; exact Ky
 have a1x:∀ m S,x1.map (fz1 m S)=x1:=fun m S=>by rw [ru]; exact Ad7
 have a1y:takeN 8 x1=some x1:=by
  have:=Ld (r:=[]) tl;exact Ya1d
 have fc:over ans0 0 x1=some x1:=H6 (by rw [tl]; rfl);have jn:∀ cs,entAt (S1++[⟨k1,cs⟩]) S1.length k1=some cs:=fun cs=>Az;have gc:∀ e:Ent,entAt (S1++[e]) S.length k=some ans0:=fun e=>Ad zl;have hP1:∀ (e:Ent) cs,entAt (put (S1++[e]) S.length ⟨k,cs⟩) S.length k=some cs:=fun e cs=>Ae aD;have m8:∀ x e:Ent,Ib S.length (put (S1++[x]) S.length e)=S:=fun x e=>Aey Za4f fun j hj=>by
  rw [B6 hj,Ab aA,Ax aA];exact a1k j hj
 simp only [ans0] at fc gc;refine opG func31 ntmps31 ?_;exact Ya0e
end
end
section
open Go Tryz
set_option maxHeartbeats 2000000
set_option maxRecDepth 100000
def Lh (l:List RowT) (cs:List (ByteArray × Int)) (nn:Int):List RowT:=l++[(cs,nn,false)]
def leaA (a:Ans):Q × Int :=
 if a.f=true then (match a.least with|some (q,true)=>(q,1)|_=>((0,1),0)) else ((0,1),-1)
theorem Yg (l:List RowT):Dk 3 (l.map rowC)=true:=Gq (f:=rowC) (sz:=3) (fun _=>rfl) l
theorem Afn (l r:List ByteArray):(uniS (l++r)).length<=(uniS l).length+r.length:=by
 induction r generalizing l with
 | nil=>simp
 | cons s r ih =>
  have h:=ih (l++[s]);rw [Aib] at h;have h2:=Aew s (uniS l);rw [Fa,O2] at h;simp only [Ch];omega
theorem Amx (l l':List RowT):Di (l++l')=Di l++Di l':=by simp [Di]
theorem Jx {l:List RowT} {cs:List (ByteArray × Int)} {nn:Int} : (∀ r ∈ l,∀ c ∈ r.1,c.1 ∈ Bh (Lh l cs nn))/\∀ c ∈ cs,c.1 ∈ Bh (Lh l cs nn):=by
 refine ⟨fun r hr c hc=>?_,fun c hc=>?_⟩
 ·exact Jr r (C5.2 (.inl hr)) c hc
 ·exact Jr (cs,nn,false) (C5.2 (.inr (Fu.2 rfl))) c hc
theorem Awh {S:List Ent} {tk:List Nat} {k:Nat} {A:List (List AV)} {c:Cap} : cL prog 28 [.frz A c] S tk k=cL prog 28 [.frz A .unk] S tk k:=Za rfl rfl rfl
def SL (cs:List (ByteArray × Int)) (nn:Int):List Ent:=[(⟨0,[Ao cs,.prim (.int .i64 nn)]⟩:Ent),(⟨1,[.prim (.bool false),.frz [] .nilc,.prim (.bool false),.frz [] .nilc]⟩:Ent)]
def Afq (l:List RowT) (cs:List (ByteArray × Int)) (nn:Int) (a:Ans):Prop:=∃ X:List Nat->Nat->List Nat × Nat × Cap × Cap,∀ tk k,cL prog 31 [Ar l,Aq (Bh (Lh l cs nn)),.ref 0 0 0] (SL cs nn) tk k=some (.agg (ansC a.f a.pt a.nu (X tk k).2.2.1 (X tk k).2.2.2 (a.least.map (·.1)) ((a.least.map (·.2)).getD false)),SL cs nn,(X tk k).1,(X tk k).2.1)
theorem Aku {l:List RowT} {cs:List (ByteArray × Int)} {nn:Int} {a:Ans} (h:∀ tk k,∃ r,cL prog 31 [Ar l,Aq (Bh (Lh l cs nn)),.ref 0 0 0] (SL cs nn) tk k=some r/\AskP (SL cs nn) a r):Afq l cs nn a:=by
 have hA:∀ tk k,∃ x:List Nat × Nat × Cap × Cap,cL prog 31 [Ar l,Aq (Bh (Lh l cs nn)),.ref 0 0 0] (SL cs nn) tk k=some (.agg (ansC a.f a.pt a.nu x.2.2.1 x.2.2.2 (a.least.map (·.1)) ((a.least.map (·.2)).getD false)),SL cs nn,x.1,x.2.1):=fun tk k=>by
  obtain ⟨r,e1,tk',k',c1,c2,q,b,rfl,e2,e3⟩:=h tk k;refine ⟨(tk',k',c1,c2),?_⟩;rw [e1];cases hl:a.least with
  | none=>obtain ⟨rfl,rfl⟩:=e3 hl; rfl
  | some v=>obtain ⟨rfl,rfl⟩:=e2 v hl; rfl
 exact ⟨fun tk k=>Classical.choose (hA tk k),fun tk k=>jS (hA tk k)⟩
theorem Yl {l:List RowT} {cs:List (ByteArray × Int)} {nn:Int} (h0:sysE l=0) (h1:Bz cs nn=0):(Bh (Lh l cs nn)).length<=48:=by
 have hcl:=Dz h1;obtain ⟨f1,f2,f3,-⟩:=Gb h0;have h1:=Afn (Di l) (Di [(cs,nn,false)]);rw [<- Amx] at h1;have h2:(Di [(cs,nn,false)]).length=cs.length:=by simp [Di]
 have h3:(Bh (Lh l cs nn)).length=(uniS (Di (l++[(cs,nn,false)]))).length:=rfl;have h4:(Bh l).length=(uniS (Di l)).length:=rfl;omega
section
variable (S:List Ent) (tk:List Nat) (k:Nat)
theorem R8 (l:List RowT) (c8:∀ r ∈ l,r.1.length<=1048576) (cs:List (ByteArray × Int)) (nn:Int) (j1:cs.length<=1048576) (h0:sysE l≠0\/Bz cs nn≠0) :
  cL prog 15 [Ar l,linA cs nn] S tk k=some (.tup [.agg (ceW (0,1)),.int (-1)],S,tk,k):=by
 have hC:=fun S tk k=>Ew S tk k l c8;have hL:=fun S tk k=>Mk S tk k cs nn j1;have hI:=fun S tk k=>Pk S tk k 0 aC;simp only [Ar] at hC;simp only [linA,Ao] at hL;simp only [qA,ratA,digA] at hI;simp only [linA,Ao,ceW,digA];refine opP func15 ntmps15 (hp3:=rfl) ?_;by_cases h:sysE l=0
 ·have c1:(sysE l != 0)=false:=aM
  have c2:(Bz cs nn != 0)=true:=by simpa [h] using h0
  simp (maxSteps:=10^6)+contextual(disch:=try exact dqd)only[ev1,simprocAttr,Cb,Bg,Cc,results15,Ar,hC,hL,hI,c1,c2]
 ·have c1:(sysE l != 0)=true:=aM
  simp (maxSteps:=10^6)+contextual(disch:=try exact dqd)only[ev1,simprocAttr,Cb,Bg,Cc,results15,Ar,hC,hL,hI,c1]
theorem Ku (l:List RowT) (c8:∀ r ∈ l,r.1.length<=1048576) (lu:l.length<=60) (cs:List (ByteArray × Int)) (nn:Int) (a:Ans) (h0:sysE l=0) (h1:Bz cs nn=0) (hA:Afq l cs nn a) :
  cL prog 15 [Ar l,linA cs nn] S tk k=some (.tup [.agg (ceW (leaA a).1),.int (leaA a).2],S,tk,k):=by
 have hC:=fun S tk k=>Ew S tk k l c8;have hcl:=Dz h1;have hL:=fun S tk k=>Mk S tk k cs nn aA;have hI:=fun S tk k=>Pk S tk k 0 aC;obtain ⟨f1,f2,f3,-⟩:=Gb h0;have fw:fewC (Lh l cs nn):=fun r hr=>by
  rcases C5.1 hr with h|h
  ·exact f1 r h
  ·rw [Fu.1 h]; exact hcl
 have hwl:(Lh l cs nn).length=l.length+1:=by simp [Lh]
 have hV:=fun c S tk k=>(Awh (S:=S) (tk:=tk) (k:=k) (c:=c)).trans (Dr S tk k (Lh l cs nn) fw aA);obtain ⟨X,hX⟩:=hA;obtain ⟨vv,hvv⟩:∃ vv,vv=Bh (Lh l cs nn):=⟨_,rfl⟩;rw [<- hvv] at hX hV;have c1:(sysE l != 0)=false:=aW
 have c2:(Bz cs nn != 0)=false:=aU
 have hAr:=fun tk=>apB_all (tk:=tk) (c:=.tight) (es:=[]) (ys:=l.map rowC) (sz:=3) rfl rfl (Yg l) aD;have zt:=fun tk=>apB_one (tk:=Gf tk .tight) (c:=A6 tk .tight 3) (es:=l.map rowC) (y:=[Ao cs,.prim (.int .i64 nn),.prim (.bool false)]) (sz:=3) (B3 rfl) (Yg l) rfl aD;simp only [SL,Ao,Ar,Aq] at hX;simp only [Ar] at hC;simp only [Ar,Aq,Lh,F4,Ct,Ei,rowC,Ao] at hV;simp only [linA,Ao] at hL;simp only [qA,ratA,digA] at hI;simp only [Ao,Cq] at hAr zt;simp only [linA,Ao];unfold leaA;cases hf:a.f with
 | false =>
  rw [if_neg F6];simp only [ceW,digA];rw [hf] at hX;cases hl:a.least with
  | none =>
   rw [hl] at hX;simp only [ansC,lsC,Option.map_none,Option.getD_none,Cn,Cq] at hX;exact Yac
  | some v =>
   obtain ⟨q,b⟩:=v;rw [hl] at hX;simp only [ansC,lsC,C8,Nl,ceW,digA,Cn,Cq] at hX;exact Yac
 | true =>
  rw [if_pos rfl];rw [hf] at hX;cases hl:a.least with
  | none =>
   rw [hl] at hX;simp only [ansC,lsC,Option.map_none,Option.getD_none,Cn,Cq] at hX;simp only [ceW,digA];exact Yac
  | some v =>
   obtain ⟨q,b⟩:=v;rw [hl] at hX;simp only [ansC,lsC,C8,Nl,ceW,digA,Cn,Cq] at hX;cases b with
   | false =>
    simp only [ceW,digA];exact Yac
   | true =>
    simp only [ceW,digA];exact Yac
end
end
section
open Go
theorem Me [Globs] {P : Program} [Ext P] {fn : Func} {f : FuncId} {c : Code} (hf : P.funcs[f]? = some fn) (hx : Ext.on P f = false) (hv : Ext.mv P f = false) (hb : fn.body = some c) (bg : (fn.name == "runtime.NumGoroutine") = false) {args : List AV} (hp : (args.map w2).all pure2 = true) {r : AV} (m : Nat) (h : evF P B8 m f args [] [] 0 = some (r, [], [], 0)) (S : List Ent) (tk : List Nat) (n : Nat) : cL P f args S tk n = some (r, S, tk, n) := by
 refine K4.2 ⟨m,?_⟩;cases m with
 | zero=>simp [evF] at h
 | succ m =>
  have hn : ¬ fn.name = "runtime.NumGoroutine" := cX
  simp only [evF,hf,hb] at h ⊢;rw [if_neg (by rw [hx]; simp),if_neg hn,if_neg (by rw [hv]; simp),if_pos hp] at h ⊢;generalize (if Jy c=true then runN (runP P B8 (evF P B8 m) m fn c) (args.map w2) else runP P B8 (evF P B8 m) m fn c (args.map w2))=o at h ⊢;cases o with
  | none=>simp at h
  | some r'=>simp only [A8,Cg,and_true] at h ⊢; exact h
end
section
open Go Tryz
def zC (z:Int):List AV:=[.prim (.bool (decide (z<0))),digA (dig z.natAbs)]
section
variable (S:List Ent) (tk:List Nat) (k:Nat)
theorem Aq7:cL prog 25 [.int 1] S tk k=some (zA 1,S,tk,k):=Me func25 rfl rfl rfl rfl rfl 40 aI S tk k
theorem Aq8:cL prog 25 [.int 2] S tk k=some (zA 2,S,tk,k):=Me func25 rfl rfl rfl rfl rfl 40 aI S tk k
theorem Aq6:cL prog 23 [zA 1,zA 1] S tk k=some (.int 0,S,tk,k):=Me func23 rfl rfl rfl rfl rfl 60 aI S tk k
theorem Aq9:cL prog 26 [.int (-5)] S tk k=some (.agg (ceW (-5,1)),S,tk,k):=Me func26 rfl rfl rfl rfl rfl 40 aI S tk k
theorem zInts:cL prog 49 [.frz [ceW (1,1),ceW (1,1)] .unk] S tk k=some (.frz [zC 1,zC 1] .unk,S,tk,k):=Me func49 rfl rfl rfl rfl rfl 60 aI S tk k
end
end
end Go.Proofs.YtcjffhadclngmaaGreat
