/- Part 28. -/
import Derived.Test.YthelkgdmgihhiaaGreatZF27
open And renaming intro->B6
open Bool renaming and_eq_true->Ch,false_eq_true->C6,false_and->Ff,true_and->Fq,or_false->Fy,not_true->Gf,not_false->Hs,or_eq_true->Ib,not_eq_true'->Ih,false_or->N2,eq_iff_iff->Vn,and_false->iH,true_or->jI,not_eq_true->jZ,and_true->kA
open Go.Code renaming loop->lE
open Go.IntKind renaming i64->Cd
open Go.Proofs.YthelkgdmgihhiaaGreat.AV renaming bool->Bm,int->Ca,str->Cb
open Go.Value renaming int->jC
open Int renaming tdiv_eq_ediv_of_nonneg->Cz,mul_comm->Fu
open List renaming length_cons->Ci,length_append->Cm,map_cons->Cn,cons_append->Co,mem_cons_of_mem->Cq,nil_append->Cr,map_nil->Cs,mem_cons_self->Ct,length_nil->Cu,getElem?_append_left->Cv,length_eq_zero_iff->Cw,append_assoc->Cy,mem_append->C3,mem_cons->C4,getElem?_eq_none->C5,range->C8,all_eq_true->C9,getElem?_map->Et,take_length->Fb,take_of_length_le->Fc,drop_eq_nil_of_le->Fe,length_map->Fg,getElem?_append_right->Fh,drop_length->Fi,map_append->Fk,append_nil->Fo,flatten_cons->F1,mem_singleton->F4,getElem?_eq_some_iff->F5,mem_map->F9,take_succ_cons->Ga,pairwise_cons->Ia,length_pos_iff->Ic,mem_of_getElem?->Il,take_append_drop->Ir,take->Oe,length_singleton->Ou,all_cons->Ox,drop->O7,map_congr_left->Sv,set_cons_succ->Sz,take_add_one->iD,mem_range->iG,length_range->jJ,flatten_nil->jS,flatten_append->kO,lt_irrefl->kX
open List.cons renaming injEq->iV
open Nat renaming le_refl->Ce,zero_le->Cl,mul_one->Fj,zero_add->Fm,le_trans->Fp,mul_le_mul_right->F6,le_add_right->I6,succ_mul->I9,sub_self->Ob,add_assoc->Oy,add_sub_cancel->jB
open Ne renaming symm->Ix
open Option.some renaming injEq->Ba
open Rat renaming intCast_mul->Fa,intCast_neg->Oa,intCast_pos->Ot,le_refl->iJ,intCast_sub->kK,intCast_one->kL
namespace Go.Proofs.YthelkgdmgihhiaaGreat
section
open Go Go.Proofs.Tryz
set_option maxRecDepth 100000
section
variable {P:Program} {t:TypeId} {ys:List (List AV)} {S:List Ent} {n:Nat} {c:Cap}
theorem lit4 (hr:Db 4 ys=true) (hl:(ys.all fun e=>e.all leafOk)=true):litC 4 (.frz ys c)=some (ys.length,ys.flatten):=if_pos ⟨hr,hl⟩
theorem ap4n (h:apT P t=some 4) (hr:Db 4 ys=true) (hl:(ys.all fun e=>e.all leafOk)=true) (h0:0<ys.length) (hm:ys.length<=1048576):apO P t (.frz [] .nilc) (.frz ys c) S n=some (.sref S.length n 0 ys.length 4,S++[⟨n,ys.flatten⟩],n+1):=by
 unfold apO;rw [h]; simp only [lit4 hr hl];rw [if_pos ⟨h0,by simpa [roomy] using hm⟩];rfl
theorem ap4m {id ep len:Nat} {cs:List AV} (h:apT P t=some 4) (hr:Db 4 ys=true) (hl:(ys.all fun e=>e.all leafOk)=true) (hy:0<ys.length) (hE:entAt S id ep=some cs) (hc:cs.length=len*4) (h0:0<len) (h1:len+ys.length<=1048576):apO P t (.sref id ep 0 len 4) (.frz ys c) S n=some (.sref id n 0 (len+ys.length) 4,put S id ⟨n,cs++ys.flatten⟩,n+1):=by
 unfold apO;rw [h]; simp only [lit4 hr hl];rw [if_pos ⟨hy,by simp [roomy]; omega⟩];simp only [apO2,hE];rw [if_pos ⟨trivial,h0⟩];rw [if_pos ⟨hc,Za5c⟩]
end
section
variable (S:List Ent) (tk:List Nat) (k:Nat)
theorem An4 (cs:List (ByteArray × Int)) (n:Int) (s:ByteArray) (hl:cs.length<=1048576):cL prog 164 [.agg [Ag cs,.int n],.str s] S tk k=some (.int (Gy cs s),S,tk,k):=by
 refine opP func164 ntmps164 (hp3:=rfl) ?_;simp (maxSteps:=10^6)+contextual(disch:=try exact dqd)only[ev1,simprocAttr,Ca,Bm,Cb,results164,Ag];refine loop1 (P:=prog) (fun x st=>st.T.length=21/\(x<=cs.length)/\(Gy cs s=Gy (cs.drop x) s)/\getT st.T 1=.str s/\getT st.T 8=Ag cs/\getT st.T 9=.int (cs.length:Nat)/\getT st.T 10=.int (x:Nat)/\st.S=[⟨0,[Ag cs,.int n]⟩]) (fun x=>cs.length - x) (fun x=>.int (Gy cs s)) (0) ?_ ?_;case refine_2=>exact ⟨rfl,Cl _,rfl,rfl,rfl,rfl,rfl,rfl⟩
 rintro i ⟨T,S',tk',n'⟩ ⟨hl,hi,hs,e1,e8,e9,e10,eS⟩ IH;subst eS;obtain ⟨g,hg,hT⟩:=Ar hl;rw [hg] at e1 e8 e9 e10;subst hT;clear hg hl;by_cases la:i<cs.length
 ·have dx:Cd.wrap ((i:Int)+1)=((i+1:Nat):Int):=aQ
  have d1:decide ((i:Int)<(cs.length:Int))=true:=aY
  obtain ⟨c,hx⟩:=Ac la;have hx':nth (cs.map Ao) i=some (Ao c):=eP
  simp only [Ao] at hx';rw [Aw hx] at hs;cases d2:sEq c.1 s with
  | true =>
   simp (maxSteps:=10^6)+contextual(disch:=try exact dqd)only[ev1,simprocAttr,Ca,Bm,Cb,results164,e1,e8,e9,e10,d1,d2,hx',dx,Ag];rw [hs,Gy,if_pos d2]
  | false =>
   simp (maxSteps:=10^6)+contextual(disch:=try exact dqd)only[ev1,simprocAttr,Ca,Bm,Cb,results164,e1,e8,e9,e10,d1,d2,hx',dx,Ag];exact IH (i+1) _ aF ⟨rfl,aE,by rw [hs,Gy,if_neg (by rw [d2]; simp)],aJ,aJ,aJ,aJ,aJ⟩
 ·have d1:decide ((i:Int)<(cs.length:Int))=false:=aY
  rw [Fe aA] at hs;simp (maxSteps:=10^6)+contextual(disch:=try exact dqd)only[ev1,simprocAttr,Ca,Bm,Cb,results164,e1,e8,e9,e10,d1];rw [hs,Gy]
theorem N8 (it et:Nat) (a b c d:AV) (vars:List ByteArray) (m:Nat) (h:entAt S it et=some [a,b,c,.frz (vars.map strC) .unk,d,intA m]) (hv:vars.length<=1000000) (hm:m<=1000000):cL prog 137 [.ref it et 0] S tk k=some (.int ((2*vars.length+m:Nat):Int),S,tk,k):=by
 have w1':Cd.wrap (2*(vars.length:Int))=((2*vars.length:Nat):Int):=aQ
 have w2':Cd.wrap (((2*vars.length:Nat):Int)+(m:Int))=((2*vars.length+m:Nat):Int):=aQ
 simp only [intA] at h;refine opS func137 ntmps137 ?_;simp (maxSteps:=10^6)+contextual(disch:=try exact dqd)only[evs1,simprocAttr,Ca,Bm,Cb,results137,h,w1',w2',Fg];try simp only [finS_some,Fb,fz3,fz2,fz1]
end
end
section
open Go Go.Proofs.Tryz
set_option maxHeartbeats 8000000
set_option maxRecDepth 100000
theorem Aa9 {s:Int} {cs:List (ByteArray × Int)} : ∀ {a b:List ByteArray},Ht s cs (a++b)=Ht s cs a++Ht s cs b
 | [],_=>rfl
 | v :: a,b=>by simp only [Co,Ht,Aa9]
theorem Ahp {s:Int} {cs:List (ByteArray × Int)} {vs:List ByteArray} {j:Nat} {v:ByteArray} (h:nth vs j=some v):Ht s cs (vs.take (j+1))=Ht s cs (vs.take j)++[iQ (s*Gy cs v),iQ (-s*Gy cs v)]:=by
 rw [Af] at h;rw [iD,h,Aa9]; rfl
theorem U5 {s:Int} {cs:List (ByteArray × Int)} : ∀ {vs:List ByteArray},(Ht s cs vs).length=2*vs.length
 | []=>rfl
 | v :: vs=>by simp only [Ht,Ci,U5]; omega
theorem Xw {cs:List (ByteArray × Int)} {v:ByteArray} (h:∀ c ∈ cs,inB c.2=true) : -1000000000000<=Gy cs v/\Gy cs v<=1000000000000:=by
 induction cs with
 | nil=>simp [Gy]
 | cons c cs ih =>
  unfold Gy;split
  ·have:=h c (by simp); simpa [inB] using this
  ·exact ih fun c hc=>h c (by simp [hc])
def OwnL (SS:List Ent) (id e:Nat) (l:List Q):Prop:=if l=[] then SS.length=id else SS.length=id+1/\entAt SS id e=some (flat ceW l)
def G9 (S:List Ent) (id n:Nat) (l:List Q) (cs:List AV):List Ent:=if l=[] then S++[⟨n,cs⟩] else put S id ⟨n,cs⟩
section
variable {P:Program} {t:TypeId} {S:List Ent} {id e n:Nat} {l zs:List Q} {cs:List AV} {c:Cap}
theorem Afg:flat ceW (l++zs)=flat ceW l++flat ceW zs:=by unfold flat; simp
theorem Ack (h:apT P t=some 4) (hz:zs≠[]) (hO:OwnL S id e l) (hb:l.length+zs.length<=1048576):apO P t (ohd id e l.length) (.frz (zs.map ceW) c) S n=some (ohd id n (l.length+zs.length),G9 S id n l (flat ceW (l++zs)),n+1):=by
 have hr:Db 4 (zs.map ceW)=true:=Dq (f:=ceW) Al zs;have hl:((zs.map ceW).all fun e=>e.all leafOk)=true:=by simp [C9,Av]
 have h0:0<zs.length:=Ic.2 hz;unfold OwnL at hO;unfold G9;by_cases hn:l=[]
 ·rw [if_pos hn] at hO;rw [if_pos hn];subst hn hO;have:=ap4n (S:=S) (n:=n) (c:=c) h hr hl aV fX;rw [Fg] at this;simp only [Cu,Fm,Cr];rw [show ohd S.length n zs.length=.sref S.length n 0 zs.length 4 from J9 aA];exact this
 ·rw [if_neg hn] at hO;rw [if_neg hn];have b8:0<l.length:=Ic.2 hn;have:=ap4m (S:=S) (n:=n) (c:=c) h hr hl aV hO.2 (Uk Al) b8 fX;rw [Fg] at this;rw [J9 aA,J9 aA,Afg];exact this
theorem OwnL.put (hO:OwnL S id e l) (hz:zs≠[]):OwnL (G9 S id n l (flat ceW (l++zs))) id n (l++zs):=by
 unfold OwnL G9 at *;rw [if_neg (show l++zs≠[] by simp [hz])];by_cases hn:l=[]
 ·rw [if_pos hn] at hO ⊢;subst hO;exact ⟨by simp,Bk⟩
 ·rw [if_neg hn] at hO ⊢;exact ⟨by rw [Am]; exact hO.1,Ah aA⟩
theorem OwnL.le (hO:OwnL S id e l):id<=S.length:=by unfold OwnL at hO; split at hO <;> omega
theorem OwnL.old (hO:OwnL S id e l) {j:Nat} (hj:j<id):nth (G9 S id n l cs) j=nth S j:=by
 have:=hO.le;unfold G9; split
 ·exact Bh aA
 ·exact Ae aA
theorem Ah0:(G9 S id n l cs).length=S.length+(if l=[] then 1 else 0):=by
 unfold G9; split
 ·simp
 ·simp [Am]
end
def Ac8 (S:List Ent) (tk:List Nat) (it et:Nat) (a b c:AV) (vars:List ByteArray) (m:Nat) (fl:List Bool) (cc:Cap) (i:Nat) (r:RowT) (o:Rs):Prop :=
 ∃ S' k' ep,o=(.sref (S.length+1) ep 0 (H1 vars m i r).length 4,S',En tk cc,k')/\S'.length=S.length+2/\(∀ j,j<S.length->j≠it->nth S' j=nth S j)/\entAt S' it et=some [a,b,c,.frz (vars.map strC) .unk,.frz ((fl++[decide (sgI r<0)]).map Dc) (Az tk cc 1),intA m]/\entAt S' (S.length+1) ep=some (flat ceW (H1 vars m i r))
section
variable (S:List Ent) (tk:List Nat) (k:Nat)
theorem N6 (n:Int) (hn:i64 n):cL prog 138 [.int n] S tk k=some (.agg (ceW (iQ n)),S,tk,k):=Arm S tk k n hn
structure Atq (S:List Ent) (tk:List Nat) (it et:Nat) (vars:List ByteArray) (m:Nat) (fl:List Bool) (cc:Cap) (i:Nat) (r:RowT):Prop where
 hit:it<S.length
 hcap:Be tk cc 1=true
 hfl:fl.length<=1000000
 hi:i<m
 hv:vars.length<=100000
 hm:m<=100000
 hcl:r.1.length<=1048576
 hc:∀ c ∈ r.1,inB c.2=true
 hn:inB r.2.1=true
theorem Aba (it et:Nat) (a b c:AV) (vars:List ByteArray) (m:Nat) (fl:List Bool) (cc:Cap) (i:Nat) (r:RowT) (C:Atq S tk it et vars m fl cc i r) (sg:Int) (hsd:sg=sgI r) (E:Ent) (hE:E=⟨et,[a,b,c,.frz (vars.map strC) .unk,.frz (fl.map Dc++[Dc (decide (sg<0))]) (Az tk cc 1),.prim (.int .i64 (m:Int))]⟩) (T:List AV)
  (hTl:T.length=97) (t0:getT T 0=.ref it et 0) (t1:getT T 1=.int (i:Nat)) (t5:getT T 5=.ref S.length k 0) (t7:getT T 7=.int (-r.2.1)) (t8:getT T 8=.int sg) (t9:getT T 9=.frz [] .nilc) (t34:getT T 34=.frz (vars.map strC) .unk) (t35:getT T 35=.int (vars.length:Nat)) (t36:getT T 36=.int ((0:Nat):Int)) :
  Gd finM (Ac8 S tk it et a b c vars m fl cc i r) (KA prog Tryz.f136 8 [] ⟨T,put S it E++[(⟨k,[Ag r.1,.int r.2.1,.bool r.2.2]⟩:Ent)],En tk cc,k+1⟩):=by
 obtain ⟨hit,hcap,hfl,hi,hv,hm,hcl,hc,hn⟩:=C;obtain ⟨Φ,hΦ⟩:∃ Φ,Φ=Ac8 S tk it et a b c vars m fl cc i r:=⟨_,rfl⟩;rw [<- hΦ];have je:sg=1\/sg=-1:=by rw [hsd]; unfold sgI; split <;> simp
 have qk : -1000000000000<=r.2.1/\r.2.1<=1000000000000:=by simpa [inB] using hn
 have hco:∀ v S tk k,cL prog 164 [.agg [Ag r.1,.int r.2.1],.str v] S tk k=some (.int (Gy r.1 v),S,tk,k):=fun v S tk k=>An4 S tk k r.1 r.2.1 v hcl;simp only [Ag] at hco;have jr:Cd.wrap (2*(m:Int))=((2*m:Nat):Int):=aQ
 have hmi:Cd.wrap ((m:Int)+(i:Int))=((m+i:Nat):Int):=aQ
 have bp:apT prog 78=some 4:=aM
 have jk S tk k:=N6 S tk k 0 aD;have hi1 S tk k:=N6 S tk k 1 aD;have is S tk k:=N6 S tk k sg aD;have hEt:∀ (L:List Ent),entAt (put S it E++L) it et=some E.cells:=fun L=>by rw [hE]; exact Ad (Ah hit)
 refine Vz rfl (t:=.mk) ?_;refine D8 (P:=prog) (fun x st=>st.T.length=97/\(x.2.2.1<=vars.length)/\(OwnL x.1 (S.length+1) x.2.2.2 (Ht sg r.1 (vars.take x.2.2.1)))/\(entAt x.1 S.length k=some [Ag r.1,.int r.2.1,.bool r.2.2])/\(entAt x.1 it et=some E.cells)/\(∀ q,q<S.length->q≠it->nth x.1 q=nth S q)/\getT st.T 0=.ref it et 0/\getT st.T 1=.int (i:Nat)/\getT st.T 5=.ref S.length k 0/\getT st.T 7=.int (-r.2.1)/\getT st.T 8=.int sg/\getT st.T 9=ohd (S.length+1) x.2.2.2 (2*x.2.2.1)/\getT st.T 34=.frz (vars.map strC) .unk/\getT st.T 35=.int (vars.length:Nat)/\getT st.T 36=.int (x.2.2.1:Nat)/\st.S=x.1/\st.tk=En tk cc/\st.n=x.2.1) (fun x=>vars.length - x.2.2.1) ((put S it E++[(⟨k,[Ag r.1,.int r.2.1,.bool r.2.2]⟩:Ent)]),(k+1),0,0) ?_ ?_;case refine_2=>exact ⟨aH,Cl _,by simp [OwnL,Ht,Am],An (Am),hEt _,(fun q h1 h2=>by rw [Bh (by rw [Am]; exact h1),Ae (Ix h2)]),aH,aH,aH,aH,aH,aH,aH,aH,aH,aH,aH,aH⟩
 rintro ⟨SS,n1,j,e⟩ ⟨T,S',tk',n'⟩ ⟨hl,hj,hO,hB,hSt,au,e0,e1,e5,e7,e8,e9,e34,e35,e36,eS,eT,eN⟩ IH;simp only at hj hO hB hSt au e0 e1 e5 e7 e8 e9 e34 e35 e36 eS eT eN;subst eS eT eN;obtain ⟨g,hg,hT⟩:=Ar hl;rw [hg] at e0 e1 e5 e7 e8 e9 e34 e35 e36;subst hT;clear hg hl;have lw:(Ht sg r.1 (vars.take j)).length=2*j:=by rw [U5]; simp; omega
 by_cases z7:j<vars.length
 ·have c1:decide ((j:Int)<(vars.length:Int))=true:=gS
  have hw:Cd.wrap ((j:Int)+1)=((j+1:Nat):Int):=aQ
  obtain ⟨v,zq⟩:=Ac z7;have zr:nth (vars.map strC) j=some (strC v):=by rw [Dj,zq]; rfl
  simp only [strC] at zr;have hcb:=Xw (v:=v) hc;obtain ⟨x,hx⟩:∃ x,x=sg*Gy r.1 v:=⟨_,rfl⟩;obtain ⟨y,hy⟩:∃ y,y=-sg*Gy r.1 v:=⟨_,rfl⟩;have dk:Cd.wrap (sg*Gy r.1 v)=x:=by rw [hx]; exact Aa Za1c
  have fi:Cd.wrap (-sg*Gy r.1 v)=y:=by rw [hy]; exact Aa Za1c
  have hng:Cd.wrap (0 - sg)=-sg:=aS
  have ix S tk k:=N6 S tk k x (by unfold i64; rw [hx]; rcases je with h|h <;> rw [h] <;> omega);have iy S tk k:=N6 S tk k y (by unfold i64; rw [hy]; rcases je with h|h <;> rw [h] <;> omega);have nv:=Ahp (s:=sg) (cs:=r.1) zq;rw [<- hx,<- hy] at nv;have ev:∀ c n,apO prog 78 (ohd (S.length+1) e (2*j)) (.frz [ceW (iQ x),ceW (iQ y)] c) S' n=some (ohd (S.length+1) n (2*(j+1)),G9 S' (S.length+1) n (Ht sg r.1 (vars.take j)) (flat ceW (Ht sg r.1 (vars.take (j+1)))),n+1):=fun c n=>by
   have:=Ack (n:=n) (c:=c) (zs:=[iQ x,iQ y]) bp (by simp) hO (by rw [lw]; simp; omega);rw [lw,<- nv] at this;exact this
  simp (maxSteps:=10^6)+contextual(disch:=try exact dqd)only[evg1,simprocAttr,Ca,Bm,Cb,results136,e0,e1,e5,e7,e8,e9,e34,e35,e36,c1,hw,zr,z7,hB,hco,dk,fi,hng,ix,iy,ev,Ag,Al,Av,D2,D1,WW.tkQ,WW.puQ];exact IH (G9 S' (S.length+1) n' (Ht sg r.1 (vars.take j)) (flat ceW (Ht sg r.1 (vars.take (j+1)))),n'+1,j+1,n') _ aF ⟨rfl,aE,by rw [nv]; exact hO.put (by simp),by rw [Ab (hO.old aE)]; exact hB,by rw [Ab (hO.old aE)]; exact hSt,fun q h1 h2=>by rw [hO.old aE]; exact au q h1 h2,aT⟩
 ·have c1:decide ((j:Int)<(vars.length:Int))=false:=gS
  have qo:j=vars.length:=aA
  subst qo;rw [Fb] at hO lw;obtain ⟨L1,su⟩:∃ L1,L1=Ht sg r.1 vars:=⟨_,rfl⟩;rw [<- su] at hO lw;have a12:=hSt;rw [hE] at a12;simp only at a12;simp (maxSteps:=10^6)+contextual(disch:=try exact dqd)only[evg1,simprocAttr,Ca,Bm,Cb,results136,e0,e1,e5,e7,e8,e9,e34,e35,e36,c1,a12,jr];obtain ⟨F,hF⟩:∃ F:Nat->Q,F=fun q=>iQ (Yg m i r q):=⟨_,rfl⟩;refine D8 (P:=prog) (fun x st=>st.T.length=97/\(x.2.2.1<=2*m)/\(OwnL x.1 (S.length+1) x.2.2.2 (L1++(C8 x.2.2.1).map F))/\(entAt x.1 S.length k=some [Ag r.1,.int r.2.1,.bool r.2.2])/\(entAt x.1 it et=some E.cells)/\(∀ q,q<S.length->q≠it->nth x.1 q=nth S q)/\getT st.T 0=.ref it et 0/\getT st.T 1=.int (i:Nat)/\getT st.T 5=.ref S.length k 0/\getT st.T 7=.int (-r.2.1)/\getT st.T 8=.int sg/\getT st.T 9=ohd (S.length+1) x.2.2.2 (2*vars.length+x.2.2.1)/\getT st.T 63=.int ((2*m:Nat):Int)/\getT st.T 64=.int (x.2.2.1:Nat)/\st.S=x.1/\st.tk=En tk cc/\st.n=x.2.1) (fun x=>2*m - x.2.2.1) (S',n',0,e) ?_ ?_;case refine_2=>exact ⟨rfl,Cl _,by simpa using hO,hB,hSt,au,rfl,rfl,rfl,rfl,rfl,rfl,rfl,rfl,rfl,rfl,rfl⟩
  rintro ⟨SS,n1,j,e⟩ ⟨T,S',tk',n'⟩ ⟨hl,hj,hO,hB,hSt,au,e0,e1,e5,e7,e8,e9,e63,e64,eS,eT,eN⟩ IH;simp only at hj hO hB hSt au e0 e1 e5 e7 e8 e9 e63 e64 eS eT eN;subst eS eT eN;obtain ⟨g,hg,hT⟩:=Ar hl;rw [hg] at e0 e1 e5 e7 e8 e9 e63 e64;subst hT;clear hg hl;have a0l:(L1++(C8 j).map F).length=2*vars.length+j:=by simp [lw]
  have a13:=hSt;rw [hE] at a13;simp only at a13;by_cases hjm:j<2*m
  ·have c2:decide ((j:Int)<((2*m:Nat):Int))=true:=aC
   have hw:Cd.wrap ((j:Int)+1)=((j+1:Nat):Int):=aQ
   have nv:(C8 (j+1)).map F=(C8 j).map F++[F j]:=by rw [List.range_succ]; simp
   have ev:∀ c n,apO prog 78 (ohd (S.length+1) e (2*vars.length+j)) (.frz [ceW (F j)] c) S' n=some (ohd (S.length+1) n (2*vars.length+(j+1)),G9 S' (S.length+1) n (L1++(C8 j).map F) (flat ceW (L1++(C8 (j+1)).map F)),n+1):=fun c n=>by
    have:=Ack (n:=n) (c:=c) (zs:=[F j]) bp (by simp) hO (by rw [a0l]; simp; omega);rw [a0l,Cy,<- nv] at this;exact this
   have hO2:OwnL (G9 S' (S.length+1) n' (L1++(C8 j).map F) (flat ceW (L1++(C8 (j+1)).map F))) (S.length+1) n' (L1++(C8 (j+1)).map F):=by
    rw [nv,<- Cy]; exact hO.put (by simp)
   have hFj:F j=iQ (Yg m i r j):=by rw [hF]
   have hL:Yg m i r j=bif ((j:Int) == ((m+i:Nat):Int)) then 1 else bif ((j:Int) == (i:Int)) && !r.2.2 then sg else 0:=by
    rw [hsd]; unfold Yg;by_cases h1:j=m+i
    ·rw [if_pos h1,show ((j:Int) == ((m+i:Nat):Int))=true by simp; omega]; rfl
    ·rw [if_neg h1,show ((j:Int) == ((m+i:Nat):Int))=false by simp; omega];by_cases h2:j=i
     ·subst h2; cases r.2.2 <;> simp
     ·rw [show ((j:Int) == (i:Int))=false by simp; omega];simp [h2]
   cases q1:((j:Int) == (i:Int)) <;> cases q2:r.2.2 <;> cases q3:((j:Int) == ((m+i:Nat):Int));all_goals
    rw [q1,q2,q3] at hL
    simp only [cond_true,cond_false,Gf,Hs,kA,iH,Fq,Ff] at hL
    rw [hFj,hL] at ev
    simp (maxSteps:=10^6)+contextual(disch:=try exact dqd)only[evg1,simprocAttr,Ca,Bm,Cb,results136,e0,e1,e5,e7,e8,e9,e63,e64,c2,hw,q1,q2,q3,hB,a13,hmi,jk,hi1,is,ev,Ag,Al,Av,D2,D1,WW.tkQ,WW.puQ]
    exact IH (G9 S' (S.length+1) n' (L1++(C8 j).map F) (flat ceW (L1++(C8 (j+1)).map F)),n'+1,j+1,n') _ aF ⟨rfl,aE,hO2,by rw [Ab (hO.old aE)]; exact hB,by rw [Ab (hO.old aE)]; exact hSt,fun q h1 h2=>by rw [hO.old aE]; exact au q h1 h2,aT⟩
  ·have c2:decide ((j:Int)<((2*m:Nat):Int))=false:=aC
   have qo:j=2*m:=aA
   subst qo;obtain ⟨z,hz⟩:∃ z,z=sg*-r.2.1:=⟨_,rfl⟩;have hmz:Cd.wrap (sg*-r.2.1)=z:=by rw [hz]; exact Aa Za1c
   have iz S tk k:=N6 S tk k z (by unfold i64; rw [hz]; rcases je with h|h <;> rw [h] <;> omega);have ev:∀ c n,apO prog 78 (ohd (S.length+1) e (2*vars.length+2*m)) (.frz [ceW (iQ z)] c) S' n=some (ohd (S.length+1) n (2*vars.length+2*m+1),G9 S' (S.length+1) n (L1++(C8 (2*m)).map F) (flat ceW (L1++(C8 (2*m)).map F++[iQ z])),n+1):=fun c n=>by
    have:=Ack (n:=n) (c:=c) (zs:=[iQ z]) bp (by simp) hO (by rw [a0l]; simp; omega);rw [a0l] at this;exact this
   have hO2:=hO.put (n:=n') (zs:=[iQ z]) (by simp);have hLR:H1 vars m i r=L1++(C8 (2*m)).map F++[iQ z]:=by unfold H1; rw [su,hF,hz,hsd]
   simp (maxSteps:=10^6)+contextual(disch:=try exact dqd)only[evg1,simprocAttr,Ca,Bm,Cb,results136,e0,e1,e5,e7,e8,e9,e63,e64,c2,hmz,iz,ev,Al,Av,D2,D1,WW.tkQ,WW.puQ];have hlen:(H1 vars m i r).length=2*vars.length+2*m+1:=by rw [hLR]; simp [lw]; omega
   have qi:=hO2;unfold OwnL at qi;rw [if_neg (by simp)] at qi;rw [J9 aA];rw [hΦ];refine ⟨_,_,n',by rw [hlen],qi.1,fun q h1 h2=>by rw [hO.old aA]; exact au q h1 h2,?_,by rw [hLR]; exact qi.2⟩;rw [Ab (hO.old aA),hSt,hE,hsd];simp only [Fk,Cn,Cs,intA]
theorem An6 (it et:Nat) (a b c:AV) (vars:List ByteArray) (m:Nat) (fl:List Bool) (cc:Cap) (i:Nat) (r:RowT) (C:Atq S tk it et vars m fl cc i r) (hT:entAt S it et=some [a,b,c,.frz (vars.map strC) .unk,.frz (fl.map Dc) cc,intA m]) :
  ∃ o,cL prog 136 [.ref it et 0,.int i,.agg (rowC r)] S tk k=some o/\Ac8 S tk it et a b c vars m fl cc i r o:=by
 have hit:=C.hit;have hfl:=C.hfl;simp only [intA] at hT;have qk : -1000000000000<=r.2.1/\r.2.1<=1000000000000:=by simpa [inB] using C.hn
 have hwn:Cd.wrap (0 - r.2.1)=-r.2.1:=aS
 have hA v:=apB_one (tk:=tk) (c:=cc) (es:=fl.map Dc) (y:=[v]) C.hcap (Dq (f:=Dc) (fun _=>rfl) fl) rfl (by rw [Fg]; omega);have hpe:∀ cs L,entAt (put S it ⟨et,cs⟩++L) it et=some cs:=fun cs L=>Ad (Ah hit);have a2t:∀ v (e:Ent),put (S++[e]) it v=put S it v++[e]:=fun v e=>Dk hit;refine opM func136 ntmps136 ?_;cases d0:decide (-r.2.1<0)
 ·have hsg:(1:Int)=sgI r:=by unfold sgI; rw [if_neg (of_decide_eq_false d0)]
  simp (maxSteps:=10^6)+contextual(disch:=try exact dqd)only[evg1,simprocAttr,Ca,Bm,Cb,results136,rowC,hwn,d0,hT,hA,a2t,hpe,Fg,Ag];exact Ls rfl (Aba S tk k it et a b c vars m fl cc i r C 1 hsg _ rfl _ rfl rfl rfl rfl rfl rfl rfl rfl rfl rfl)
 ·have hsg:(-1:Int)=sgI r:=by unfold sgI; rw [if_pos (of_decide_eq_true d0)]
  simp (maxSteps:=10^6)+contextual(disch:=try exact dqd)only[evg1,simprocAttr,Ca,Bm,Cb,results136,rowC,hwn,d0,hT,hA,a2t,hpe,Fg,Ag];exact Ls rfl (Aba S tk k it et a b c vars m fl cc i r C (-1) hsg _ rfl _ rfl rfl rfl rfl rfl rfl rfl rfl rfl rfl)
end
end
section
open Go
def shd (id e:Nat):Nat->AV
 | 0=>.frz [] .nilc
 | k+1=>.sref id e 0 (k+1) 1
def J5 (S:List Ent) (id n:Nat) (ls:List AV) (x:AV):List Ent:=if ls=[] then S++[⟨n,[x]⟩] else put S id ⟨n,ls++[x]⟩
section
variable {P:Program} {t:TypeId} {S:List Ent} {id e n j:Nat} {ls:List AV} {x y:AV}
theorem Ajq (h:apT P t=some 1) (hy:litC 1 y=some (1,[x])) (h0:ls=[]->S.length=id) (h1:ls≠[]->entAt S id e=some ls) (hb:ls.length+1<=1048576):apO P t (shd id e ls.length) y S n=some (.sref id n 0 (ls.length+1) 1,J5 S id n ls x,n+1):=by
 unfold apO J5;rw [h]; simp only [hy];rw [if_pos ⟨aA,dD⟩];by_cases hn:ls=[]
 ·rw [if_pos hn];subst hn;rw [<- h0 rfl]; rfl
 ·rw [if_neg hn];have hl:0<ls.length:=Ic.2 hn;have:shd id e ls.length=.sref id e 0 ls.length 1:=by
   generalize ls.length=q at hl;cases q with
   | zero=>omega
   | succ q=>rfl
  rw [this];simp only [apO2,h1 hn];rw [if_pos ⟨trivial,hl⟩,if_pos ⟨aA,by simpa [roomy] using hb⟩]
theorem Wn (h0:ls=[]->S.length=id) (h1:ls≠[]->id<S.length):entAt (J5 S id n ls x) id n=some (ls++[x]):=by
 unfold J5;by_cases hn:ls=[]
 ·rw [if_pos hn,<- h0 hn,hn]; exact Bk
 ·rw [if_neg hn]; exact Ah (h1 hn)
theorem T6:(J5 S id n ls x).length=S.length+(if ls=[] then 1 else 0):=by
 unfold J5; split <;> simp [Am]
theorem T7 (hj:j≠id) (hl:j<S.length):nth (J5 S id n ls x) j=nth S j:=by
 unfold J5; split
 ·exact Bh hl
 ·exact Ae (Ix hj)
end
structure PTab (S:List Ent) (I:TI) (R:List (List Q)) (B:List Nat) (F:List Bool) (vars:List ByteArray) (m W:Nat) (cc:Cap) (x:AV):Prop where
 top:entAt S I.it I.et=some [shd I.ir I.er R.length,shd I.ib I.eb B.length,x,.frz (vars.map strC) .unk,.frz (F.map Dc) cc,.prim (.int .i64 (m:Int))]
 nids:I.ids.length=R.length
 nb:B.length=R.length
 rowsE:R≠[]->entAt S I.ir I.er=some (I.ids.map (dm W 4))
 basisE:R≠[]->entAt S I.ib I.eb=some (B.map intA)
 rowE:∀ i p r,nth I.ids i=some p->nth R i=some r->entAt S p.1 p.2=some (flat ceW r)
 rowW:∀ r ∈ R,r.length=W
 okr:∀ r ∈ R,okL WW.qF r
 tr:I.it≠I.ir
 tb:I.it≠I.ib
 rb:I.ir≠I.ib
 row:∀ p ∈ I.ids,p.1≠I.it/\p.1≠I.ir/\p.1≠I.ib
 lt:I.it<S.length/\∀ p ∈ I.ids,p.1<S.length
 rows:∀ i j p q,nth I.ids i=some p->nth I.ids j=some q->i≠j->p.1≠q.1
theorem Va {α:Type} {l:List α} {x y:α} {i:Nat} (h:nth (l++[x]) i=some y):nth l i=some y\/i=l.length/\y=x:=by
 rw [Af] at h ⊢;by_cases hi:i<l.length
 ·rw [Cv hi] at h; exact .inl h
 ·have:=(F5.1 h).1;simp at this;have e:i=l.length:=aA
  rw [e,Fh (Ce _),Ob] at h;simp at h; exact .inr ⟨e,h.symm⟩
theorem PTab.add {S S':List Ent} {I:TI} {R:List (List Q)} {B:List Nat} {F:List Bool} {vars:List ByteArray} {m W:Nat} {cc cc':Cap} {x:AV} (h:PTab S I R B F vars m W cc x) {er eb id ep b:Nat} {f:Bool} {row:List Q}
  (ht:entAt S' I.it I.et=some [.sref I.ir er 0 (R.length+1) 1,.sref I.ib eb 0 (R.length+1) 1,x,.frz (vars.map strC) .unk,.frz ((F++[f]).map Dc) cc',.prim (.int .i64 (m:Int))])
  (hr:entAt S' I.ir er=some ((I.ids++[(id,ep)]).map (dm W 4))) (hb:entAt S' I.ib eb=some ((B++[b]).map intA)) (bl:entAt S' id ep=some (flat ceW row)) (hW:row.length=W) (ho:okL WW.qF row) (gg:∀ p ∈ I.ids,nth S' p.1=nth S p.1) (hlen:S.length<=S'.length)
  (hid:id≠I.it/\id≠I.ir/\id≠I.ib) (j0:S.length<=id) (dt:id<S'.length) :
  PTab S' { I with er:=er,eb:=eb,ids:=I.ids++[(id,ep)] } (R++[row]) (B++[b]) (F++[f]) vars m W cc' x:=by
 have hl1:=h.lt;refine ⟨?_,by simp [h.nids],by simp [h.nb],fun _=>hr,fun _=>hb,fun i p r hp hr=>?_,fun r hr=>?_,fun r hr=>?_,h.tr,h.tb,h.rb,fun p hp=>?_,⟨by show I.it<_; omega,fun p hp=>?_⟩,fun i j p q hp hq hij=>?_⟩
 ·simp only [Cm,Ou,h.nb]; exact ht
 ·rcases Va hp with hp|⟨e1,rfl⟩
  ·have hi:i<R.length:=by rw [<- h.nids]; have:=Bn hp; exact this
   rcases Va hr with hr|⟨e2,-⟩
   ·rw [Ab (gg p (Aj hp))]; exact h.rowE i p r hp hr
   ·omega
  ·rcases Va hr with hr|⟨e2,rfl⟩
   ·have:=Bn hr; rw [<- h.nids] at this; omega
   ·exact bl
 ·rcases C3.1 hr with hr|hr
  ·exact h.rowW r hr
  ·rw [F4.1 hr]; exact hW
 ·rcases C3.1 hr with hr|hr
  ·exact h.okr r hr
  ·rw [F4.1 hr]; exact ho
 ·rcases C3.1 hp with hp|hp
  ·exact h.row p hp
  ·rw [F4.1 hp]; exact hid
 ·rcases C3.1 hp with hp|hp
  ·have:=hl1.2 p hp; omega
  ·rw [F4.1 hp]; exact dt
 ·rcases Va hp with hp|⟨e1,rfl⟩ <;> rcases Va hq with hq|⟨e2,rfl⟩
  ·exact h.rows i j p q hp hq hij
  ·have:=hl1.2 p (Aj hp); show p.1≠id; omega
  ·have:=hl1.2 q (Aj hq); show id≠q.1; omega
  ·omega
theorem U7 {vars:List ByteArray} {m:Nat} {r:RowT} : ∀ {l:List RowT} {i:Nat},linesR vars m i (l++[r])=linesR vars m i l++[H1 vars m (i+l.length) r]
 | [],i=>rfl
 | a :: l,i=>by simp only [Co,linesR,U7,Ci,Nat.add_right_comm,Oy]
theorem Q5 {vars:List ByteArray} {m:Nat} : ∀ {l:List RowT} {i:Nat},(linesR vars m i l).length=l.length
 | [],i=>rfl
 | a :: l,i=>by simp only [linesR,Ci,Q5]
theorem Amc {x p:Q} (hx:gW x) (hp:gW p) (h0:qv p≠0) (hf:Jp (qv x / qv p)):gW (WW.qF.over x p).1/\qv (WW.qF.over x p).1=qv x / qv p:=H8.over x p hx hp h0 (Qo.over x p hx hp h0 hf)
theorem Ara {p:Q} (hp:gW p) (h0:qv p≠0):∀ {row:List Q},(∀ q ∈ row,gW q)->(∀ j,j<row.length->Jp (qv (at_ q0 row j) / qv p))->(∀ q ∈ ovR p row,gW q)/\∀ j,qv (at_ q0 (ovR p row) j)=qv (at_ q0 row j) / qv p
 | [],_,_=>⟨fun q h=>aR,fun j=>by simp only [ovR,Cs,Pb,Wa]; grind⟩
 | x :: l,hl,hf=>by
  have ih:=Ara hp h0 (row:=l) (fun q h=>hl q (Cq _ h)) fun j hj=>hf (j+1) bL;have hs:=Amc (hl x (Ct ..)) hp h0 (hf 0 (by simp));exact Yax
theorem Anq {f:Q} (hf:gW f):∀ {l r:List Q},l.length=r.length->(∀ q ∈ l,gW q)->(∀ q ∈ r,gW q)->(∀ j,j<r.length->Jp (qv f*qv (at_ q0 r j))/\Jp (qv (at_ q0 l j) - qv f*qv (at_ q0 r j)))->(∀ q ∈ zipR f l r,gW q)/\∀ j,qv (at_ q0 (zipR f l r) j)=qv (at_ q0 l j) - qv f*qv (at_ q0 r j)
 | [],[],_,_,_,_=>⟨fun q h=>aR,fun j=>by simp only [zipR,Pb,Wa]; grind⟩
 | [],_ :: _,h,_,_,_=>aO
 | _ :: _,[],h,_,_,_=>aO
 | a :: l,b :: r,h,hl,hr,hx=>by
  have ih:=Anq hf (l:=l) (r:=r) aL (fun q h=>hl q (Cq _ h)) (fun q h=>hr q (Cq _ h)) fun j hj=>hx (j+1) bL;have h0:=hx 0 (by simp);have ga:=hl a (Ct ..);have gb:=hr b (Ct ..);have t:=H8.times f b hf gb (Qo.times f b hf gb h0.1);have d:=H8.minus a _ ga t.1 (Qo.minus a _ ga t.1 (by rw [t.2]; exact h0.2));refine ⟨fun q h=>?_,fun j=>?_⟩
  ·rcases C4.1 h with rfl|h
   ·exact d.1
   ·exact ih.1 q h
  ·cases j with
   | zero=>exact d.2.trans (by rw [t.2]; rfl)
   | succ j=>exact ih.2 j
theorem Aq6 {f:Q} (hf:gW f) {l r:List Q} (h:l.length=r.length) (hl:∀ q ∈ l,gW q) (hr:∀ q ∈ r,gW q) (hx:∀ j,j<r.length->Jp (qv f*qv (at_ q0 r j))/\Jp (qv (at_ q0 l j) - qv f*qv (at_ q0 r j))):(∀ q ∈ lsR f l r,gW q)/\∀ j,qv (at_ q0 (lsR f l r) j)=qv (at_ q0 l j) - qv f*qv (at_ q0 r j):=by
 unfold lsR;split
 ·rename_i h0;exact ⟨hl,fun j=>by rw [(M0 hf.pos).1 h0]; grind⟩
 ·exact Anq hf h hl hr hx
theorem Yy {row:List Q} {c i:Nat} : ∀ {l:List (List Q)} {k:Nat},(rowsR row c i k l).length=l.length
 | [],_=>rfl
 | r :: l,k=>by simp only [rowsR,Ci,Yy]
theorem Agg {row:List Q} {c i W:Nat} (hc:c<W) (hw:row.length=W) (hr:∀ q ∈ row,gW q):∀ {l:List (List Q)} {k:Nat},(∀ r ∈ l,r.length=W)->(∀ r ∈ l,∀ q ∈ r,gW q) ->
  (∀ n j,n<l.length->k+n≠i->j<W->Jp (qv (at_ q0 (at_ [] l n) c)*qv (at_ q0 row j))/\Jp (qv (at_ q0 (at_ [] l n) j) - qv (at_ q0 (at_ [] l n) c)*qv (at_ q0 row j))) ->
  (∀ r ∈ rowsR row c i k l,r.length=W)/\(∀ r ∈ rowsR row c i k l,∀ q ∈ r,gW q)/\∀ n j,n<l.length->qv (at_ q0 (at_ [] (rowsR row c i k l) n) j)=if k+n=i then qv (at_ q0 (at_ [] l n) j) else qv (at_ q0 (at_ [] l n) j) - qv (at_ q0 (at_ [] l n) c)*qv (at_ q0 row j)
 | [],k,_,_,_=>⟨fun r h=>aR,fun r h=>aR,fun n j hn=>by simp at hn⟩
 | r :: l,k,hl,hg,hx=>by
  have ih:=Agg hc hw hr (l:=l) (k:=k+1) (i:=i) (fun r h=>hl r (Cq _ h)) (fun r h=>hg r (Cq _ h)) fun n j hn hk hj=>hx (n+1) j dB aA hj;have ur:=hl r (Ct ..);have hgr:=hg r (Ct ..);have hs:(if k=i then r else lsR (at_ q0 r c) r row).length=W/\(∀ q ∈ (if k=i then r else lsR (at_ q0 r c) r row),gW q)/\∀ j,qv (at_ q0 (if k=i then r else lsR (at_ q0 r c) r row) j)=if k=i then qv (at_ q0 r j) else qv (at_ q0 r j) - qv (at_ q0 r c)*qv (at_ q0 row j):=by
   by_cases e:k=i
   ·simp only [if_pos e]; exact ⟨ur,hgr,fun j=>trivial⟩
   ·simp only [if_neg e];have hb:=hgr _ (Ef (d:=q0) (k:=c) aA);have h2:=Aq6 hb gY hgr hr fun j hj=>hx 0 j (by simp) aA aA;exact ⟨by rw [Abf gY]; exact ur,h2.1,h2.2⟩
  exact Yay
section
variable {m N L:Nat}
theorem Asx {t:Tb} (h:TOk gW m N t) {i c:Nat} (hi:i<m) (hc:c<N+1) (h0:(tabV t).T i c≠0) (hp:Wh Jp m N (tabV t) i c):TOk gW m N (pivR t i c)/\tabV (pivR t i c)=Simp.piv (tabV t) i c:=by
 have b9:=Jh h hi;have dj:=h.rowW _ b9;have hb:=h.okr _ b9 _ (Ef (d:=q0) (k:=c) (by rw [dj]; exact hc));have d2:=Ara hb h0 (h.okr _ b9) fun j hj=>hp.row j (by rw [dj] at hj; exact hj);have dl:(ovR (at_ q0 (Bj t i) c) (Bj t i)).length=N+1:=Arb.trans dj;obtain ⟨d,hd⟩:∃ d,d=ovR (at_ q0 (Bj t i) c) (Bj t i):=⟨_,rfl⟩;rw [<- hd] at d2 dl;have hcm:at_ q0 t.cost c ∈ t.cost:=Ef Za56;have r2:=Agg (i:=i) (k:=0) hc dl d2.1 (l:=put t.rows i d) (fun r hr=>by
  rcases Hu hr with rfl|hr
  ·exact dl
  ·exact h.rowW r hr) (fun r hr=>by
  rcases Hu hr with rfl|hr
  ·exact d2.1
  ·exact h.okr r hr) (fun n j hn hk hj=>by
  rw [Ak,h.rows] at hn;rw [Li eE,if_neg aA,d2.2];exact ⟨hp.mul n j hn hj,hp.sub n j hn hj aA⟩)
 have k2:=Aq6 (h.okc _ hcm) (r:=d) (l:=t.cost) fW h.okc d2.1 (fun j hj=>by
  rw [dl] at hj;rw [d2.2];exact ⟨hp.cmul j hj,hp.csub j hj⟩)
 have hP:pivR t i c={ t with rows:=rowsR d c i 0 (put t.rows i d),cost:=lsR (at_ q0 t.cost c) t.cost d,basis:=put t.basis i c }:=by unfold pivR; rw [<- hd]
 rw [hP];refine ⟨⟨?_,?_,?_,r2.1,r2.2.1,k2.1⟩,?_⟩
 ·show (rowsR _ _ _ _ _).length=m;rw [Yy,Ak]; exact h.rows
 ·show (put _ _ _).length=m;rw [Ak]; exact h.basis
 ·show (lsR _ _ _).length=N+1;rw [Abf fW]; exact h.cost
 ·have eT:(tabV { t with rows:=rowsR d c i 0 (put t.rows i d),cost:=lsR (at_ q0 t.cost c) t.cost d,basis:=put t.basis i c }).T=(Simp.piv (tabV t) i c).T:=by
   funext i' j;show qv (at_ q0 (at_ [] (rowsR d c i 0 (put t.rows i d)) i') j)=Simp.pivT (tabV t) i c i' j;by_cases ar:i'<m
   ·exact Ya0k
   ·have hn:at_ [] t.rows i'=[]:=Zz (by rw [h.rows]; omega);have z:∀ j,(tabV t).T i' j=0:=fun j=>by
     show qv (at_ q0 (at_ [] t.rows i') j)=0;rw [hn,Pb,Wa]
    have e2:at_ [] (rowsR d c i 0 (put t.rows i d)) i'=[]:=Zz (by rw [Yy,Ak,h.rows]; omega);rw [e2,Pb,Wa];unfold Simp.pivT;rw [if_neg aA,z,z]; grind
  have eC:(tabV { t with rows:=rowsR d c i 0 (put t.rows i d),cost:=lsR (at_ q0 t.cost c) t.cost d,basis:=put t.basis i c }).c=(Simp.piv (tabV t) i c).c:=by
   funext j;show qv (at_ q0 (lsR (at_ q0 t.cost c) t.cost d) j)=_;rw [k2.2,d2.2]; rfl
  have eB:(tabV { t with rows:=rowsR d c i 0 (put t.rows i d),cost:=lsR (at_ q0 t.cost c) t.cost d,basis:=put t.basis i c }).B=(Simp.piv (tabV t) i c).B:=by
   exact Ya1r
  exact Ya2j
theorem Ar7 {a b:Q} (ha:gW a) (hb:gW b):(cmpW a b<0↔qv a<qv b)/\(cmpW a b=0↔qv a=qv b):=by
 have p1:=ha.pos;have p2:=hb.pos;have r1:(0:Rat)<((a.2:Int):Rat):=Ot.2 p1;have r2:(0:Rat)<((b.2:Int):Rat):=Ot.2 p2;have key:∀ x y:Q,0<x.2->0<y.2->(x.1*y.2<y.1*x.2↔qv x<qv y):=fun x y hx hy=>by
  have s1:(0:Rat)<((x.2:Int):Rat):=Ot.2 hx;have s2:(0:Rat)<((y.2:Int):Rat):=Ot.2 hy;unfold qv;rw [Rat.div_lt_iff s1,<- Rat.intCast_lt_intCast,Fa,Fa];have e:((y.1:Int):Rat) / ((y.2:Int):Rat)*((x.2:Int):Rat)=(((y.1:Int):Rat)*((x.2:Int):Rat)) / ((y.2:Int):Rat):=aK
  rw [e,Rat.lt_div_iff s2]
 have k1:=key a b p1 p2;have k2:=key b a p2 p1;unfold cmpW;rw [Qa ha,Qa hb];unfold cmpZ;constructor
 ·rw [<- k1];split
  ·rename_i h; exact ⟨fun _=>h,fun _=>aA⟩
  ·rename_i h;split
   ·exact ⟨fun h'=>aA,fun h'=>absurd h' h⟩
   ·exact ⟨fun h'=>aA,fun h'=>absurd h' h⟩
 ·split
  ·rename_i h;have:=k1.1 h;exact ⟨fun h'=>aA,fun h'=>Za6y⟩
  ·rename_i h;have n1:¬ qv a<qv b:=fun h'=>h (k1.2 h');split
   ·rename_i h2;have:=k2.1 aA;exact ⟨fun h'=>aA,fun h'=>Za6y⟩
   ·rename_i h2;have n2:¬ qv b<qv a:=fun h'=>h2 (by have:=k2.2 h'; omega);exact ⟨fun _=>aK,fun _=>rfl⟩
def Aeb (N c:Nat) (T:Simp.Tab) (k:Nat):Option Nat->Prop
 | none=>∀ i,i<k->T.T i c<=0
 | some i=>i<k/\0<T.T i c/\∀ i',i'<k->0<T.T i' c->T.T i N / T.T i c<=T.T i' N / T.T i' c/\(T.T i N / T.T i c=T.T i' N / T.T i' c->T.B i<=T.B i')
theorem Amn {t:Tb} (h:TOk gW m N t) {c i:Nat} (hc:c<N+1) (hi:i<m) (hF:Km Jp m N c (tabV t)) (hp:0<(tabV t).T i c):gW (quoR (Bj t i) c t.cost.length)/\qv (quoR (Bj t i) c t.cost.length)=(tabV t).T i N / (tabV t).T i c:=by
 have b9:=Jh h hi;have hw:=h.rowW _ b9;have g1:=h.okr _ b9 _ (Ef (d:=q0) (k:=c) fM);have g2:=h.okr _ b9 _ (Ef (d:=q0) (k:=N) (by rw [hw]; omega));unfold quoR;rw [h.cost,jB];exact Amc g2 g1 (by show (tabV t).T i c≠0; grind) (hF.quo i hi hp)
theorem Pt {t:Tb} (h:TOk gW m N t) {c:Nat} (hc:c<N+1) (hF:Km Jp m N c (tabV t)):∀ {l:List (List Q)} {k:Nat} {b:Option Nat},t.rows.drop k=l->k<=m->Aeb N c (tabV t) k b->Aeb N c (tabV t) m (Gq t c k l b)
 | [],k,b,hl,hk,hb=>by
  exact Ya22
 | r :: l,k,b,hl,hk,hb=>by
  have l6:k<m:=by
   exact Ya0l
  have hd:=Aw (Tz (d:=[]) (l:=t.rows) (k:=k) Za57);rw [hl] at hd;obtain ⟨hr,hl2⟩:=List.cons.inj hd;have er:r=Bj t k:=hr;have b9:=Jh h l6;have hw:=h.rowW _ b9;have g1:=h.okr _ b9 _ (Ef (d:=q0) (k:=c) fM);have p1:=g1.pos;rw [er];unfold Gq;by_cases hs:sgn (at_ q0 (Bj t k) c)<=0
  ·rw [if_pos hs];have hn:(tabV t).T k c<=0:=by
    have:¬ 0<qv (at_ q0 (Bj t k) c):=fun h'=>by have:=(Nz p1).2 h'; omega
    show qv (at_ q0 (Bj t k) c)<=0;grind
   refine Pt h hc hF hl2.symm l6 ?_;cases b with
   | none =>
    intro i hi;by_cases e:i=k
    ·subst e; exact hn
    ·exact hb i aA
   | some bi =>
    obtain ⟨b1,b2,b5⟩:=hb;refine ⟨aA,b2,fun i' ar hp=>?_⟩;by_cases e:i'=k
    ·subst e; grind
    ·exact b5 i' aA hp
  ·rw [if_neg hs];have hp:0<(tabV t).T k c:=(Nz p1).1 aA;cases b with
   | none =>
    refine Pt h hc hF hl2.symm l6 ⟨aA,hp,fun i' ar ef=>?_⟩;by_cases e:i'=k
    ·exact Ya09
    ·have:=hb i' aA; grind
   | some bi =>
    obtain ⟨b1,b2,b5⟩:=hb;have q1:=Amn h hc l6 hF hp;have q2:=Amn h hc (show bi<m by omega) hF b2;obtain ⟨c1,c2⟩:=Ar7 q1.1 q2.1;rw [q1.2,q2.2] at c1 c2;simp only;generalize cmpW (quoR (Bj t k) c t.cost.length) (quoR (Bj t bi) c t.cost.length)=s at c1 c2 ⊢;have eB:∀ i,at_ 0 t.basis i=(tabV t).B i:=fun _=>rfl;refine Pt h hc hF hl2.symm l6 ?_;unfold V6;rw [eB,eB];by_cases x1:s<0
    ·have hlt:=c1.1 x1;rw [if_pos (by simp [x1])];refine ⟨aA,hp,fun i' ar ef=>?_⟩;by_cases e:i'=k
     ·exact Ya09
     ·exact Ya47
    ·by_cases x2:s=0
     ·have hz:=c2.1 x2;by_cases x3:(tabV t).B k<(tabV t).B bi
      ·rw [if_pos (by simp [x2,x3])];refine ⟨aA,hp,fun i' ar ef=>?_⟩;by_cases e:i'=k
       ·exact Ya09
       ·have h5:=b5 i' aA ef;refine ⟨by rw [hz]; exact h5.1,fun h'=>?_⟩;have:=h5.2 (by rw [<- hz]; exact h');omega
      ·rw [if_neg (by simp [x2,x3])];refine ⟨aA,b2,fun i' ar ef=>?_⟩;exact Ya3q
     ·rw [if_neg (by simp [x1,x2])];have wx:(tabV t).T bi N / (tabV t).T bi c<(tabV t).T k N / (tabV t).T k c:=by
       have n1:¬ ((tabV t).T k N / (tabV t).T k c<(tabV t).T bi N / (tabV t).T bi c):=fun h'=>x1 (c1.2 h');have n2:¬ ((tabV t).T k N / (tabV t).T k c=(tabV t).T bi N / (tabV t).T bi c):=fun h'=>x2 (c2.2 h');grind
      refine ⟨aA,b2,fun i' ar ef=>?_⟩;exact Ya3n
def Atm (m N L:Nat) (t0:Simp.Tab):Prop:=∀ K (R:Simp.Run m N L K),R.t 0=t0->(∀ c,c<L->Km Jp m N c (R.t K))/\∀ r s,r<m->s<N->(R.t K).T r s≠0->Wh Jp m N (R.t K) r s
theorem Ao9 {M Mc:Nat} {t0:Simp.Tab} (hM:1<=M) (hI:Ints m N M Mc t0) (hX:2*(bndX m M Mc*bndX m M Mc)<10000 ^ 200):Atm m N L t0:=fun K R h0=>by
 exact Ya19
theorem Abe {t0:Simp.Tab} (hs:Atm m N L t0):∀ (n:Nat) {K:Nat} (R:Simp.Run m N L K) {t:Tb},R.t 0=t0->R.t K=tabV t->TOk gW m N t->N ^ m+1<=n+K ->
  ∃ b t',Nb L n t=some (b,t')/\TOk gW m N t'/\∃ K',∃ R':Simp.Run m N L K',R'.t 0=t0/\R'.t K'=tabV t'/\(b=true->∀ j,j<L->0<=(tabV t').c j)/\(b=false->∃ s,s<L/\(tabV t').c s<0/\∀ i,i<m->(tabV t').T i s<=0)
 | 0,K,R,t,h0,hK,ht,hn=>by have:=R.short; omega
 | n+1,K,R,t,h0,hK,ht,hn=>by
  have a1v:=R.short;have hLN:=R.LN;have d8:=Acv H8 ht.okc (n:=L) (k:=0) (by rw [ht.cost]; omega);rw [Nb];cases hc:colF t.cost L 0 with
  | none =>
   rw [hc] at d8;exact ⟨true,t,rfl,ht,K,R,h0,hK,fun _ j hj=>d8 j (Cl _) aA,fun h=>aR⟩
  | some c =>
   rw [hc] at d8;obtain ⟨-,hcL,hneg,uu⟩:=d8;simp only;have hcN:c<N+1:=aA
   have ey:=hs K R h0;have i8:=Pt ht hcN (by rw [<- hK]; exact ey.1 c aA) (l:=t.rows) (k:=0) (b:=none) rfl (Cl _) (fun i hi=>aA);cases hle:Gq t c 0 t.rows none with
   | none =>
    rw [hle] at i8;exact ⟨false,t,rfl,ht,K,R,h0,hK,fun h=>aR,fun _=>⟨c,aA,hneg,i8⟩⟩
   | some i =>
    rw [hle] at i8;obtain ⟨l1,l2,l5⟩:=i8;simp only;have h0':(tabV t).T i c≠0:=aK
    have jw:Simp.Step m N L (R.t K) i c:=by
     exact Ya1f
    obtain ⟨x1,x2⟩:=Asx ht l1 hcN h0' (by rw [<- hK]; exact ey.2 i c l1 aA (by rw [hK]; exact h0'));refine Abe hs n (R.more jw) (t:=pivR t i c) ?_ ?_ x1 aA
    ·rw [R.more_old jw (Cl _)]; exact h0
    ·rw [R.more_last jw,x2,hK]
end
theorem iQ_g {n:Int} (h:i64 n):gW (iQ n):=Ya h
theorem iQ_v (n:Int):qv (iQ n)=((n:Int):Rat):=by unfold qv iQ; simp only; show _ / ((1:Int):Rat)=_; rw [kL]; grind
theorem Apb {a b:Int} (h:i64 (a - b)):(WW.qF.minus (iQ a) (iQ b)).1=iQ (a - b):=by
 have g:Jm (a - b) 1:=Ya h;obtain ⟨-,h2,h3⟩:=g.fits;show (wn ((qz (a,1)).1*(qz (b,1)).2+-(qz (b,1)).1*(qz (a,1)).2) ((qz (a,1)).2*(qz (b,1)).2)).1=_;have e1:∀ x:Int,qz (x,1)=(x,1):=fun x=>by unfold qz; rw [if_neg (by simp)]
 rw [e1,e1];show (resN (a*1+-b*1) (1*1),resD (a*1+-b*1) (1*1))=_;rw [show a*1+-b*1=a - b by omega,show (1:Int)*1=1 from rfl,h2,h3]; rfl
theorem Aqq {α:Type} {d:α} {l r:List α} {j:Nat} : at_ d (l++r) j=if j<l.length then at_ d l j else at_ d r (j - l.length):=by
 unfold at_;rw [Af,Af,Af];split
 ·rename_i h; rw [Cv h]
 ·rename_i h; rw [Fh aA]
theorem Aeq {β:Type} {d:β} {n j:Nat} {f:Nat->β} : at_ d ((C8 n).map f) j=if j<n then f j else d:=by
 unfold at_;rw [Af,Et];by_cases h:j<n
 ·rw [if_pos h,List.getElem?_range h]; rfl
 ·rw [if_neg h,C5 aC]; rfl
theorem Ti {s:Int} {cs:List (ByteArray × Int)} : ∀ {vs:List ByteArray},(Ht s cs vs).length=2*vs.length
 | []=>rfl
 | v :: vs=>by simp only [Ht,Ci,Ti]; omega
theorem Yh {s:Int} {cs:List (ByteArray × Int)} : ∀ {vs:List ByteArray} {k:Nat},k<vs.length->at_ q0 (Ht s cs vs) (2*k)=iQ (s*Gy cs (at_ ⟨#[]⟩ vs k))/\at_ q0 (Ht s cs vs) (2*k+1)=iQ (-s*Gy cs (at_ ⟨#[]⟩ vs k))
 | [],_,h=>aO
 | v :: vs,0,_=>⟨rfl,rfl⟩
 | v :: vs,k+1,h=>Yh (vs:=vs) aL
theorem U6 {s:Int} {cs:List (ByteArray × Int)} {q:Q} : ∀ {vs:List ByteArray},q ∈ Ht s cs vs->∃ v,q=iQ (s*Gy cs v)\/q=iQ (-s*Gy cs v)
 | [],h=>aR
 | v :: vs,h=>by
  simp only [Ht,C4] at h;rcases h with h|h|h
  ·exact ⟨v,.inl h⟩
  ·exact ⟨v,.inr h⟩
  ·exact U6 h
theorem Z9 {v:ByteArray} : ∀ {cs:List (ByteArray × Int)},Gy cs v=0\/∃ c ∈ cs,c.2=Gy cs v
 | []=>.inl rfl
 | c :: cs=>by
  rw [Gy];split
  ·exact .inr ⟨c,Ct ..,rfl⟩
  ·rcases Z9 (v:=v) (cs:=cs) with h|⟨c',h1,h2⟩
   ·exact .inl h
   ·exact .inr ⟨c',Cq _ h1,h2⟩
def Dist (vars:List ByteArray):Prop:=∀ i j s,nth vars i=some s->nth vars j=some s->i=j
theorem Afo:∀ {l:List ByteArray},Inc l->Dist l
 | [],_=>fun i j s h _=>bM
 | x :: l,h=>by
  have hp:=Ia.1 h;have ih:=Afo hp.2;intro i j s h1 h2;cases i with
  | zero =>
   simp only [nth,Ba] at h1;subst h1;cases j with
   | zero=>rfl
   | succ j=>have:=hp.1 x (Aj (l:=l) (i:=j) h2); exact absurd this (kX _)
  | succ i =>
   cases j with
   | zero =>
    simp only [nth,Ba] at h2;subst h2;have:=hp.1 x (Aj (l:=l) (i:=i) h1); exact absurd this (kX _)
   | succ j=>have:=ih i j s h1 h2; omega
theorem Ann (l:List RowT):Dist (Ee l):=Afo (Kj (Ec l)).1
theorem Xx {vars:List ByteArray} (hd:Dist vars) {k:Nat} {v:ByteArray} (hv:nth vars k=some v):∀ {cs:List (ByteArray × Int)},(∀ c ∈ cs,c.1 ∈ vars)->Gy cs v=cofI vars cs k
 | [],_=>rfl
 | c :: cs,h=>by
  have h1:=Yb (h c (Ct ..));rw [Gy,cofI];by_cases e:c.1=v
  ·rw [if_pos (by rw [Nf]; simpa using e),if_pos (hd _ _ _ (by rw [<- e]; exact h1) hv)]
  ·rw [if_neg (by rw [Nf]; simpa using e),if_neg (fun e2=>e (by rw [e2,hv] at h1; simpa using h1.symm))];exact Xx hd hv fun c' h'=>h c' (Cq _ h')
theorem Ap4 (r:RowT):((sgI r:Int):Rat)=sgR r:=by
 unfold sgI sgR;by_cases h:0<r.2.1
 ·rw [if_pos aA,if_pos h]; rfl
 ·rw [if_neg aA,if_neg h]; rfl
theorem Ad0 {n:Int} {M:Nat} (r:RowT) (h:n.natAbs<=M):(sgI r*n).natAbs<=M/\(-sgI r*n).natAbs<=M:=by
 unfold sgI; split <;> omega
def Kv (vars:List ByteArray) (m i:Nat) (r:RowT) (j:Nat):Rat :=
 if j<2*vars.length then Nj (sgR r) vars r.1 (fun _=>0) j else if j=2*vars.length+m+i then 1 else if j=2*vars.length+i/\r.2.2=false then sgR r else if j=2*vars.length+m+m then -(sgR r*((r.2.1:Int):Rat)) else 0
section
variable {vars:List ByteArray} {m:Nat}
theorem Th {i:Nat} {r:RowT} : (H1 vars m i r).length=2*vars.length+m+m+1:=by
 unfold H1;simp only [Cm,Ti,Fg,jJ,Ou];omega
theorem Py {M:Nat} {i:Nat} {r:RowT} (hs:Gb M r) {q:Q} (h:q ∈ H1 vars m i r):∃ n:Int,q=iQ n/\n.natAbs<=M:=by
 have h1:=hs.one;unfold H1 at h;rw [C3,C3] at h;rcases h with (h|h)|h
 ·have hc:∀ v,(Gy r.1 v).natAbs<=M:=fun v=>by
   rcases Z9 (v:=v) (cs:=r.1) with e|⟨c,h1,h2⟩
   ·rw [e]; simp
   ·rw [<- h2]; exact hs.cof c h1
  obtain ⟨v,h|h⟩:=U6 h
  ·exact ⟨_,h,(Ad0 r (hc v)).1⟩
  ·exact ⟨_,h,(Ad0 r (hc v)).2⟩
 ·obtain ⟨k,-,rfl⟩:=F9.1 h;refine ⟨_,rfl,?_⟩;unfold Yg sgI;split
  ·simpa using h1
  ·split
   ·split <;> simpa using h1
   ·simp
 ·rw [F4.1 h];exact ⟨_,rfl,(Ad0 r (n:=-r.2.1) (by have:=hs.con; omega)).1⟩
theorem Afv (hd:Dist vars) {i:Nat} (hi:i<m) {r:RowT} (hr:Gl vars r) {j:Nat} (hj:j<2*vars.length+m+m+1):qv (at_ q0 (H1 vars m i r) j)=Kv vars m i r j:=by
 have hl:(Ht (sgI r) r.1 vars++(C8 (2*m)).map (fun k=>iQ (Yg m i r k))).length=2*vars.length+2*m:=by simp [Ti]
 unfold H1 Kv;rw [Aqq,hl];by_cases h1:j<2*vars.length+2*m
 ·rw [if_pos h1,Aqq,Ti];by_cases h2:j<2*vars.length
  ·rw [if_pos h2,if_pos h2];rcases Nat.mod_two_eq_zero_or_one j with h|h
   ·obtain ⟨k,rfl⟩:∃ k,j=2*k:=⟨j / 2,aA⟩;have hk:k<vars.length:=aA
    have hc:=Xx hd (Tz (d:=⟨#[]⟩) hk) hr.mem;rw [(Yh hk).1,(Hk hr.dis _).1,iQ_v,hc,Fa,Ap4]
   ·obtain ⟨k,rfl⟩:∃ k,j=2*k+1:=⟨j / 2,aA⟩;have hk:k<vars.length:=aA
    have hc:=Xx hd (Tz (d:=⟨#[]⟩) hk) hr.mem;rw [(Yh hk).2,(Hk hr.dis _).2,iQ_v,hc,Fa,Oa,Ap4];grind
  ·rw [if_neg h2,if_neg h2,Aeq,if_pos aA,iQ_v];unfold Yg;by_cases h3:j=2*vars.length+m+i
   ·rw [if_pos aA,if_pos h3]; rfl
   ·rw [if_neg aA,if_neg h3];by_cases h4:j=2*vars.length+i/\r.2.2=false
    ·rw [if_pos ⟨aA,h4.2⟩,if_pos h4]; exact Ap4 r
    ·rw [if_neg (fun h=>h4 ⟨aA,h.2⟩),if_neg h4,if_neg aA]; rfl
 ·rw [if_neg h1,if_neg aA,if_neg aA,if_neg (fun h=>aA),if_pos aA];have:j - (2*vars.length+2*m)=0:=aA
  rw [this,Ajv,iQ_v,Fa,Oa,Ap4];grind
theorem Pz:∀ {l:List RowT} {i:Nat},(linesR vars m i l).length=l.length
 | [],_=>rfl
 | r :: l,i=>by simp only [linesR,Ci,Pz]
theorem Abd:∀ {l:List RowT} {i k:Nat},k<l.length->at_ [] (linesR vars m i l) k=H1 vars m (i+k) (rwA l k)
 | [],_,_,h=>aO
 | r :: l,i,0,_=>rfl
 | r :: l,i,k+1,h=>by
  have:=Abd (l:=l) (i:=i+1) (k:=k) aL;rw [show i+1+k=i+(k+1) by omega] at this;exact this
theorem Mu {q:List Q} : ∀ {l:List RowT} {i:Nat},q ∈ linesR vars m i l->∃ r ∈ l,∃ k,q=H1 vars m k r
 | [],_,h=>aR
 | r :: l,i,h=>by
  simp only [linesR,C4] at h;rcases h with h|h
  ·exact ⟨r,Ct ..,i,h⟩
  ·obtain ⟨r',h1,k,h2⟩:=Mu h;exact ⟨r',Cq _ h1,k,h2⟩
theorem Aey {M k:Nat} : ∀ {rows:List (List Q)} {w:Int},(∀ r ∈ rows,∃ z:Int,at_ q0 r k=iQ z/\z.natAbs<=M)->w.natAbs+rows.length*M<=4000000000000000000->∃ v:Int,colR k rows (iQ w)=iQ v/\v.natAbs<=w.natAbs+rows.length*M/\((v:Int):Rat)=((w:Int):Rat) - Simp.sum rows.length fun i=>qv (at_ q0 (at_ [] rows i) k)
 | [],w,_,_=>⟨w,rfl,by simp,by show _=_ - (0:Rat); grind⟩
 | r :: l,w,h,hb=>by
  obtain ⟨z,e,hz⟩:=h r (Ct ..);have zu:w.natAbs+(l.length*M+M)<=4000000000000000000:=by rw [Ci,I9] at hb; exact hb
  obtain ⟨v,e1,e2,e3⟩:=Aey (k:=k) (rows:=l) (w:=w - z) (fun r' h'=>h r' (Cq _ h')) aA;refine ⟨v,?_,by rw [Ci,I9]; omega,?_⟩
  ·rw [colR,e,Apb aD]; exact e1
  ·rw [e3,Ci,Simp.sum_head,Ajv,e,iQ_v,kK];simp only [Ar6];grind
end
section
variable {vars:List ByteArray} {l:List RowT}
theorem Ajz (hd:Dist vars) (hm:l.length<=13) (hr:∀ r ∈ l,Gl vars r/\Gb 1000000000000 r) :
  TOk gW l.length (2*vars.length+l.length+l.length) (Ev l vars)/\Ints l.length (2*vars.length+l.length+l.length) 1000000000000 (l.length*1000000000000) (tabV (Ev l vars)) /\
  Agree l.length (2*vars.length+l.length+l.length) (tabV (Ev l vars)) (Simp.first l.length (2*vars.length+l.length) (fun i=>Kv vars l.length i (rwA l i)) fun i=>Kv vars l.length i (rwA l i) (2*vars.length+l.length+l.length)):=by
 have ho:∀ i,i<l.length->Gl vars (rwA l i)/\Gb 1000000000000 (rwA l i):=fun i hi=>hr _ (Ef (d:=([],0,true)) hi);have bl:∀ i,i<l.length->Bj (Ev l vars) i=H1 vars l.length i (rwA l i):=fun i hi=>by
  show at_ [] (linesR vars l.length 0 l) i=_;rw [Abd hi,Fm]
 have hT:∀ i j,i<l.length->j<2*vars.length+l.length+l.length+1->(tabV (Ev l vars)).T i j=Kv vars l.length i (rwA l i) j:=fun i j hi hj=>by
  show qv (at_ q0 (Bj (Ev l vars) i) j)=_;rw [bl i hi]; exact Afv hd hi (ho i hi).1 hj
 have hcell:∀ k,k<2*vars.length+l.length+l.length+1->∀ r ∈ linesR vars l.length 0 l,∃ z:Int,at_ q0 r k=iQ z/\z.natAbs<=1000000000000:=fun k hk r h=>by
  obtain ⟨r',h1,i,rfl⟩:=Mu h;exact Py (hr r' h1).2 (Ef (by rw [Th]; exact hk))
 have mf:∀ k,k<2*vars.length+l.length+l.length+1->∃ v:Int,at_ q0 (Ev l vars).cost k=iQ v/\v.natAbs<=1+l.length*1000000000000/\((v:Int):Rat)=(if 2*vars.length+l.length<=k/\k<2*vars.length+l.length+l.length then 1 else 0) - Simp.sum l.length fun i=>Kv vars l.length i (rwA l i) k:=fun k hk=>by
  have hw:∀ b:Prop,[Decidable b]->(if b then (1:Int) else 0).natAbs<=1:=fun b _=>by split <;> decide
  obtain ⟨v,e1,e2,e3⟩:=Aey (k:=k) (rows:=linesR vars l.length 0 l) (w:=if 2*vars.length+l.length<=k/\k<2*vars.length+l.length+l.length then 1 else 0) (hcell k hk) (by
   rw [Pz];have:=hw (2*vars.length+l.length<=k/\k<2*vars.length+l.length+l.length);have:=F6 1000000000000 hm;omega)
  rw [Pz] at e2 e3;refine ⟨v,?_,?_,?_⟩
  ·show at_ q0 ((C8 (2*vars.length+l.length+l.length+1)).map _) k=_;rw [Aeq,if_pos hk]; exact e1
  ·have:=hw (2*vars.length+l.length<=k/\k<2*vars.length+l.length+l.length); omega
  ·rw [e3];have e:∀ b:Prop,[Decidable b]->(((if b then (1:Int) else 0):Int):Rat)=if b then 1 else 0:=fun b _=>by split <;> rfl
   rw [e];congr 1;exact Simp.sum_congr fun i hi=>hT i k hi hk
 have hcv:∀ k,k<2*vars.length+l.length+l.length+1->(tabV (Ev l vars)).c k=if k<2*vars.length+l.length then -Simp.sum l.length (fun i=>Kv vars l.length i (rwA l i) k) else if k<2*vars.length+l.length+l.length then 0 else -Simp.sum l.length fun i=>Kv vars l.length i (rwA l i) (2*vars.length+l.length+l.length):=fun k hk=>by
  obtain ⟨v,e1,-,e3⟩:=mf k hk;show qv (at_ q0 (Ev l vars).cost k)=_;rw [e1,iQ_v,e3];by_cases h1:k<2*vars.length+l.length
  ·rw [if_neg aA,if_pos h1]; grind
  ·rw [if_neg h1];by_cases h2:k<2*vars.length+l.length+l.length
   ·rw [if_pos ⟨aA,h2⟩,if_pos h2];rw [Simp.sum_congr (g:=fun i=>if i=k - (2*vars.length+l.length) then 1 else 0) fun i hi=>?_,Simp.sum_one (f:=fun _=>(1:Rat)) aA]
    ·grind
    ·unfold Kv;rw [if_neg aA];by_cases h3:k=2*vars.length+l.length+i
     ·rw [if_pos h3,if_pos aA]
     ·rw [if_neg h3,if_neg aA,if_neg (fun h=>aA),if_neg aA]
   ·rw [if_neg (fun h=>h2 h.2),if_neg h2,show k=2*vars.length+l.length+l.length by omega]; grind
 refine ⟨⟨Pz,by simp [Ev],by simp [Ev],fun r h=>?_,fun r h q hq=>?_,fun q h=>?_⟩,⟨fun i j hi hj=>?_,fun j hj=>?_⟩,⟨fun i j hi hj=>?_,fun j hj=>?_,fun i hi=>?_⟩⟩
 ·obtain ⟨r',-,i,rfl⟩:=Mu h;exact Th
 ·obtain ⟨r',h1,i,rfl⟩:=Mu h;obtain ⟨n,rfl,hn⟩:=Py (hr r' h1).2 hq;exact iQ_g aD
 ·obtain ⟨k,hk,rfl⟩:=F9.1 h;have xj:=iG.1 hk;obtain ⟨v,e1,e2,-⟩:=mf k xj;have e0:at_ q0 (Ev l vars).cost k=Ahd (linesR vars l.length 0 l) (2*vars.length+l.length) l.length k:=by
   show at_ q0 ((C8 (2*vars.length+l.length+l.length+1)).map _) k=_;rw [Aeq,if_pos xj]
  have:Ahd (linesR vars l.length 0 l) (2*vars.length+l.length) l.length k=iQ v:=by rw [<- e0]; exact e1
  show gW (Ahd (linesR vars l.length 0 l) (2*vars.length+l.length) l.length k);rw [this];exact iQ_g (by have:=F6 1000000000000 hm; unfold i64; omega)
 ·obtain ⟨n,e,hn⟩:=Py (vars:=vars) (m:=l.length) (i:=i) (ho i hi).2 (Ef (d:=q0) (k:=j) (l:=H1 vars l.length i (rwA l i)) (by rw [Th]; exact hj));refine ⟨n,?_,hn⟩;show qv (at_ q0 (Bj (Ev l vars) i) j)=_;rw [bl i hi,e,iQ_v]
 ·obtain ⟨v,e1,e2,e3⟩:=mf j hj;by_cases h1:2*vars.length+l.length<=j/\j<2*vars.length+l.length+l.length
  ·refine ⟨0,?_,by simp⟩;rw [hcv j hj,if_neg aA,if_pos h1.2]; rfl
  ·obtain ⟨w,f1,f2⟩:=Y6 (M:=1000000000000) (n:=l.length) (f:=fun i=>Kv vars l.length i (rwA l i) j) fun i hi=>by
    obtain ⟨n,e,hn⟩:=Py (vars:=vars) (m:=l.length) (i:=i) (ho i hi).2 (Ef (d:=q0) (k:=j) (l:=H1 vars l.length i (rwA l i)) (by rw [Th]; exact hj));exact ⟨n,by rw [<- Afv hd hi (ho i hi).1 hj,e,iQ_v],hn⟩
   refine ⟨-w,?_,aA⟩;show qv (at_ q0 (Ev l vars).cost j)=_;rw [e1,iQ_v,e3,if_neg h1,f1,Oa]; grind
 ·show _=if j<2*vars.length+l.length then _ else if j<2*vars.length+l.length+l.length then (if j=2*vars.length+l.length+i then 1 else 0) else _
  rw [hT i j hi hj];by_cases h1:j<2*vars.length+l.length
  ·rw [if_pos h1]
  ·rw [if_neg h1];by_cases h2:j<2*vars.length+l.length+l.length
   ·rw [if_pos h2];unfold Kv;rw [if_neg aA];by_cases h3:j=2*vars.length+l.length+i
    ·rw [if_pos h3,if_pos h3]
    ·rw [if_neg h3,if_neg h3,if_neg (fun h=>aA),if_neg aA]
   ·rw [if_neg h2,show j=2*vars.length+l.length+l.length by omega]
 ·exact hcv j hj
 ·show at_ 0 ((C8 l.length).map _) i=_;rw [Aeq,if_pos hi]; rfl
theorem Aox (hr:∀ r ∈ l,Gl vars r):Simp.Cols (sysY vars l) (2*vars.length+l.length) (fun i=>sgR (rwA l i)) (fun i=>2*vars.length+i) (fun i=>Kv vars l.length i (rwA l i)) fun i=>Kv vars l.length i (rwA l i) (2*vars.length+l.length+l.length):=by
 have ho:∀ i,i<l.length->Gl vars (rwA l i):=fun i hi=>hr _ (Ef (d:=([],0,true)) hi);refine ⟨fun i hi=>?_,I6 _ _,fun i k hi hk=>?_,fun i k hi hk=>?_,fun i j hi h1 h2=>?_,fun i hi he=>?_,fun i k hi hk h1 h2 h3=>aA,fun i hi=>?_⟩
 ·unfold sgR; split <;> grind
 ·have xj:k<vars.length:=hk;unfold Kv;rw [if_pos aA];exact (Hk (ho i hi).dis k).1
 ·have xj:k<vars.length:=hk;unfold Kv;rw [if_pos aA];exact (Hk (ho i hi).dis k).2
 ·have qe:2*vars.length<=j:=h1;have ar:i<l.length:=hi;unfold Kv;rw [if_neg aA,if_neg aA];show _=if (rwA l i).2.2=false/\j=2*vars.length+i then _ else 0
  by_cases h:j=2*vars.length+i/\(rwA l i).2.2=false
  ·rw [if_pos h,if_pos (B6 h.2 h.1)]
  ·have hn:¬ ((rwA l i).2.2=false/\j=2*vars.length+i):=fun h'=>h ⟨h'.2,h'.1⟩;rw [if_neg h,if_neg aA,if_neg hn]
 ·have ar:i<l.length:=hi;exact ⟨I6 _ _,aA⟩
 ·have ar:i<l.length:=hi;unfold Kv;rw [if_neg aA,if_neg aA,if_neg (fun h=>aA),if_pos rfl]; rfl
theorem Ak0 (hd:Dist vars) (hm:l.length<=13) (hr:∀ r ∈ l,Gl vars r/\Gb 1000000000000 r) {K:Nat} (hK:(2*vars.length+l.length+l.length) ^ l.length+1<=K) :
  ∃ b t',Nb (2*vars.length+l.length+l.length) K (Ev l vars)=some (b,t')/\TOk gW l.length (2*vars.length+l.length+l.length) t'/\(Hz t'=true↔∃ v,Sat v l):=by
 have bz:∀ r ∈ l,Gl vars r:=fun r h=>(hr r h).1;obtain ⟨h1,h2,h3⟩:=Ajz hd hm hr;have hR:∃ R:Simp.Run l.length (2*vars.length+l.length+l.length) (2*vars.length+l.length+l.length) 0,R.t 0=tabV (Ev l vars) :=
  ⟨Simp.Run.none (h3.fit (Simp.first_fit _ _ _ _)) (Ce _) (fun i hi=>by
   rw [h3.T i _ hi aA];show 0<=if 2*vars.length+l.length+l.length<2*vars.length+l.length then _ else if 2*vars.length+l.length+l.length<2*vars.length+l.length+l.length then _ else _
   rw [if_neg aA,if_neg aA];have h:=Rz (vars:=vars) (l:=l) hi;rw [Ny hi] at h;unfold rowR at h;rw [if_pos aA] at h;show 0<=Kv vars l.length i (rwA l i) (2*vars.length+l.length+l.length);unfold Kv;rw [if_neg aA,if_neg aA,if_neg (fun h=>aA),if_pos rfl]; exact h),rfl⟩
 obtain ⟨R,h0⟩:=hR;obtain ⟨b,t',e1,e2,K',R',e3,e4,e5,e6⟩:=Abe (Ao9 (M:=1000000000000) (Mc:=l.length*1000000000000) aA h2 (Z4 hm rfl)) K R h0 h0 h1 aA;refine ⟨b,t',e1,e2,?_⟩;rw [Aap H8 e2,<- Amv bz,<- (Aox bz).solve,<- e4];refine Agi R' (by rw [e3]; exact h3) (I6 _ _) ?_;rw [e4];cases b with
 | true=>exact .inl (e5 rfl)
 | false=>exact .inr (e6 rfl)
end
end
section
open Go Go.Proofs.Tryz
set_option maxHeartbeats 8000000
set_option maxRecDepth 100000
def Ac4 (r:RowT):Bool:=decide (sgI r<0)
structure Aei (l:List RowT) (vars:List ByteArray):Prop where
 hm:l.length<=1000
 hv:vars.length<=1000
 hcl:∀ r ∈ l,r.1.length<=1048576
 hc:∀ r ∈ l,∀ c ∈ r.1,inB c.2=true
 hn:∀ r ∈ l,inB r.2.1=true
structure Aon (S:List Ent) (k:Nat) (l:List RowT) (vars:List ByteArray) (SS:List Ent) (tk1:List Nat) (cc:Cap) (q:Nat) (I:TI):Prop where
 hq:q<=l.length
 P:PTab SS I (linesR vars l.length 0 (l.take q)) ((C8 q).map (2*vars.length+l.length+·)) ((l.take q).map Ac4) vars l.length (2*vars.length+l.length+l.length+1) cc (.frz [] .nilc)
 it:I.it=S.length
 et:I.et=k
 ir:I.ir=S.length+4
 ib:I.ib=S.length+5
 len:SS.length=S.length+1+(if q=0 then 0 else 3*q+2)
 cap:Be tk1 cc 1=true
 fr:∀ j,j<S.length->nth SS j=nth S j
 ge:∀ p ∈ I.ids,S.length<=p.1
theorem W5 {n:Int} (h:i64 n):okW (iQ n):=(WW.Dp.whole n h)
section
variable (S:List Ent) (tk:List Nat) (k:Nat)
theorem Ahb (l:List RowT) (vars:List ByteArray) (hR:Aei l vars) (Φ:Rs->Prop)
  (fin:∀ SS n1 tk1 cc I T,Aon S k l vars SS tk1 cc l.length I->T.length=119->getT T 3=.ref S.length k 0->getT T 56=.int ((2*vars.length+l.length+l.length+1:Nat):Int)->getT T 57=.int ((0:Nat):Int)->Gd finM Φ (KA prog Tryz.f113 9 [] ⟨T,SS,tk1,n1⟩)) (T:List AV)
  (hTl:T.length=119) (t3:getT T 3=.ref S.length k 0) (t15:getT T 15=.frz (l.map rowC) .unk) (t16:getT T 16=.int (l.length:Nat)) (t17:getT T 17=.int ((0:Nat):Int)) :
  Gd finM Φ (KA prog Tryz.f113 3 [] ⟨T,S++[(⟨k,[.frz [] .nilc,.frz [] .nilc,.frz [] .nilc,.frz (vars.map strC) .unk,.frz [] .nilc,.prim (.int .i64 (l.length:Int))]⟩:Ent)],tk,k+1⟩):=by
 obtain ⟨hm,hv,hcl,hc,hn⟩:=hR;refine Vz rfl (t:=.mk) ?_;refine D8 (P:=prog) (fun x st=>st.T.length=119/\(Aon S k l vars x.1 x.2.2.1 x.2.2.2.1 x.2.2.2.2.1 x.2.2.2.2.2)/\getT st.T 3=.ref S.length k 0/\getT st.T 15=.frz (l.map rowC) .unk/\getT st.T 16=.int (l.length:Nat)/\getT st.T 17=.int (x.2.2.2.2.1:Nat)/\st.S=x.1/\st.tk=x.2.2.1/\st.n=x.2.1) (fun x=>l.length - x.2.2.2.2.1) ((S++[(⟨k,[.frz [] .nilc,.frz [] .nilc,.frz [] .nilc,.frz (vars.map strC) .unk,.frz [] .nilc,.prim (.int .i64 (l.length:Int))]⟩:Ent)]),(k+1),tk,Cap.nilc,0,(⟨S.length,k,S.length+4,0,0,0,S.length+5,0,[]⟩:TI)) ?_ ?_;case refine_2=>exact ⟨aH,⟨Cl _,⟨Bk,rfl,rfl,fun h=>absurd rfl h,fun h=>absurd rfl h,fun i p r h=>bM,fun r h=>by simp [linesR] at h,fun r h=>by simp [linesR] at h,by show S.length≠S.length+4; omega,by show S.length≠S.length+5; omega,by show S.length+4≠S.length+5; omega,fun p h=>aO,⟨by simp,fun p h=>aO⟩,fun i j p q h=>bM⟩,rfl,rfl,rfl,rfl,by simp,rfl,fun j hj=>Bh hj,fun p h=>aO⟩,aH,aH,aH,aH,aH,aH,aH⟩
 rintro ⟨SS,n1,tk1,cc,q,I⟩ ⟨T,S',tk',n'⟩ ⟨hl,hI,e3,e15,e16,e17,eS,eT,eN⟩ IH;simp only at hI e3 e15 e16 e17 eS eT eN;subst eS eT eN;obtain ⟨g,hg,hT⟩:=Ar hl;rw [hg] at e3 e15 e16 e17;subst hT;clear hg hl;have hI0:=hI;obtain ⟨hq,hP,ba,zo,hIr,hIb,hL,hcap,au,kv⟩:=hI;by_cases uv:q<l.length
 ·have c1:decide ((q:Int)<(l.length:Int))=true:=by simpa using uv
  have hw:Cd.wrap ((q:Int)+1)=((q+1:Nat):Int):=aQ
  obtain ⟨r,hr⟩:=Ac uv;have ae:nth (l.map rowC) q=some (rowC r):=by rw [Dj,hr]; rfl
  have o6:=Aj hr;have js:l.take (q+1)=l.take q++[r]:=by rw [Af] at hr; rw [iD,hr]; rfl
  have hql:(l.take q).length=q:=aC
  obtain ⟨R,hRe⟩:∃ R,R=linesR vars l.length 0 (l.take q):=⟨_,rfl⟩;obtain ⟨B,hBe⟩:∃ B,B=(C8 q).map (2*vars.length+l.length+·):=⟨_,rfl⟩;obtain ⟨F,hFe⟩:∃ F,F=(l.take q).map Ac4:=⟨_,rfl⟩;obtain ⟨W,px⟩:∃ W,W=2*vars.length+l.length+l.length+1:=⟨_,rfl⟩;have hRl:R.length=q:=by rw [hRe,Q5,hql]
  have hBl:B.length=q:=by rw [hBe]; simp
  have hFl:F.length=q:=by rw [hFe,Fg,hql]
  rw [<- hRe,<- hBe,<- hFe,<- px] at hP;have ag:=hP.top;rw [ba,zo,hRl,hBl] at ag;obtain ⟨thd,ng⟩:∃ x,x=shd I.ir I.er q:=⟨_,rfl⟩;obtain ⟨bhd,p8⟩:∃ x,x=shd I.ib I.eb q:=⟨_,rfl⟩;rw [<- ng,<- p8] at ag;have hb1:CkF (isB thd):=⟨by rw [ng]; cases q <;> rfl⟩;have hb2:CkF (isB bhd):=⟨by rw [p8]; cases q <;> rfl⟩;obtain ⟨S1,ck⟩:∃ X,X=S'++[(⟨n',rowC r⟩:Ent)]:=⟨_,rfl⟩;have a35:S1.length=S'.length+1:=by rw [ck]; simp
  have nh:entAt S1 S.length k=some [thd,bhd,.frz [] .nilc,.frz (vars.map strC) .unk,.frz (F.map Dc) cc,.prim (.int .i64 (l.length:Int))]:=by rw [ck]; exact Ad ag
  have i6:entAt S1 S'.length n'=some (rowC r):=by rw [ck]; exact Bk
  obtain ⟨o,az,S2,k2,ep,rfl,hl2,bo,jy,he2⟩:=An6 S1 tk' (n'+1) S.length k thd bhd (.frz [] .nilc) vars l.length F cc q r ⟨aA,hcap,aA,uv,aA,aA,hcl r o6,hc r o6,hn r o6⟩ nh;have hWr:(H1 vars l.length q r).length=W:=by unfold H1; simp only [Cm,U5,Fg,jJ,Ou]; omega
  rw [hWr] at az;simp only [intA] at jy;have sc:S1.length<=S2.length:=aA
  have yc:ldA prog 168 (.ref S.length k 0) S2=some thd:=by
   simp (disch:=try exact dqd) only [evs1,jy]
  have hra:=fun {all T X} (h1:loadsB all (some 30)=[(168,.tmp 25,some 26,true)]) (h2:X.length<=S2.length) (h3:decide (26<T.length)=true) (h4:getT T 25=.ref S.length k 0) (h5:getT T 26=thd)=>Avs (P:=prog) (S:=X) h1 h2 h3 h4 h5 yc;obtain ⟨flp,rj⟩:∃ x,x=AV.frz ((F++[decide (sgI r<0)]).map Dc) (Az tk' cc 1):=⟨_,rfl⟩;rw [<- rj] at jy;have rk:S2.length=S'.length+3:=aA
  have hSlt:S.length<S'.length:=by rw [hL]; omega
  have kw:∀ j,j<S'.length->j≠S.length->nth S2 j=nth S' j:=fun j h1 h2=>by rw [bo j aA h2,ck,Bh h1]
  have dt:(I.ids.map (dm W 4)).length=q:=by rw [Fg,hP.nids,hRl]
  have gz:∀ {α:Type} {ls:List α},ls.length=q->(ls=[]↔q=0):=fun h=>by rw [<- Cw,h]
  have ai:I.ids.map (dm W 4)=[]->S2.length=I.ir:=fun h=>by
   have:=(gz dt).1 h;rw [rk,hL,hIr,if_pos this]
  have bc:I.ids.map (dm W 4)≠[]->entAt S2 I.ir I.er=some (I.ids.map (dm W 4)):=fun h=>by
   have sx:q≠0:=fun e=>h ((gz dt).2 e);rw [Ab (kw I.ir (by rw [hL,hIr,if_neg sx]; omega) aA)];exact hP.rowsE fun e=>sx ((gz hRl).1 e)
  have a0m:(B.map intA).length=q:=by rw [Fg,hBl]
  obtain ⟨S3,cz⟩:∃ X,X=J5 S2 I.ir k2 (I.ids.map (dm W 4)) (dm W 4 (S1.length+1,ep)):=⟨_,rfl⟩;have a14:∀ t,t=168->apO prog t thd (.lit 1 [.sref (S1.length+1) ep 0 W 4]) S2 k2=some (.sref I.ir k2 0 (q+1) 1,S3,k2+1):=fun t ht=>by
   have:=Ajq (P:=prog) (t:=t) (S:=S2) (id:=I.ir) (e:=I.er) (n:=k2) (ls:=I.ids.map (dm W 4)) (x:=dm W 4 (S1.length+1,ep)) (y:=.lit 1 [.sref (S1.length+1) ep 0 W 4]) (by rw [ht]; kernel_rfl) rfl ai bc aA;rw [dt,<- ng,<- cz] at this;exact this
  have a14:=a14 _ rfl;have oh:S3.length=S2.length+(if q=0 then 1 else 0):=by rw [cz,T6]; simp only [gz dt]
  have rn:∀ j,j<S2.length->j≠I.ir->nth S3 j=nth S2 j:=fun j h1 h2=>by rw [cz,T7 h2 h1]
  have ph:entAt S3 S.length k=some [thd,bhd,.frz [] .nilc,.frz (vars.map strC) .unk,flp,.prim (.int .i64 (l.length:Int))]:=by rw [Ab (rn _ aA aA)]; exact jy
  obtain ⟨S4,z8⟩:∃ X,X=put S3 S.length ⟨k,[.sref I.ir k2 0 (q+1) 1,bhd,.frz [] .nilc,.frz (vars.map strC) .unk,flp,.prim (.int .i64 (l.length:Int))]⟩:=⟨_,rfl⟩;have a2u:S.length<S3.length:=aA
  have ro:S4.length=S3.length:=by rw [z8,Am]
  have wh:entAt S4 S.length k=some [.sref I.ir k2 0 (q+1) 1,bhd,.frz [] .nilc,.frz (vars.map strC) .unk,flp,.prim (.int .i64 (l.length:Int))]:=by rw [z8]; exact Ah a2u
  have rp:∀ j,j≠S.length->nth S4 j=nth S3 j:=fun j h=>by rw [z8,Ae (Ix h)]
  have cr tk n:=N8 S4 tk n S.length k _ bhd _ flp vars l.length wh aA aA;obtain ⟨bv,hbv⟩:∃ x,x=2*vars.length+l.length+q:=⟨_,rfl⟩;have hwb:Cd.wrap (((2*vars.length+l.length:Nat):Int)+(q:Int))=(bv:Int):=by rw [Aa aD,hbv]; rfl
  have hK0:B.map intA=[]->S4.length=I.ib:=fun h=>by
   have:=(gz a0m).1 h;rw [ro,oh,rk,hL,hIb,if_pos this,if_pos this]
  have dp:B.map intA≠[]->entAt S4 I.ib I.eb=some (B.map intA):=fun h=>by
   have sx:q≠0:=fun e=>h ((gz a0m).2 e);rw [Ab (rp I.ib aA),Ab (rn I.ib (by rw [rk,hL,hIb,if_neg sx]; omega) aA),Ab (kw I.ib (by rw [hL,hIb,if_neg sx]; omega) aA)];exact hP.basisE fun e=>sx ((gz hRl).1 e)
  obtain ⟨S5,hS5⟩:∃ X,X=J5 S4 I.ib (k2+1) (B.map intA) (intA bv):=⟨_,rfl⟩;have a15:∀ t,t=58->∀ c,apO prog t bhd (.frz [[.prim (.int .i64 (bv:Int))]] c) S4 (k2+1)=some (.sref I.ib (k2+1) 0 (q+1) 1,S5,k2+1+1):=fun t ht c=>by
   have:=Ajq (P:=prog) (t:=t) (S:=S4) (id:=I.ib) (e:=I.eb) (n:=k2+1) (ls:=B.map intA) (x:=intA bv) (y:=.frz [[.prim (.int .i64 (bv:Int))]] c) (by rw [ht]; kernel_rfl) rfl hK0 dp aA;rw [a0m,<- p8,<- hS5] at this;exact this
  have a15:=a15 _ rfl;have a16:S5.length=S4.length+(if q=0 then 1 else 0):=by rw [hS5,T6]; simp only [gz a0m]
  have rq:∀ j,j<S4.length->j≠I.ib->nth S5 j=nth S4 j:=fun j h1 h2=>by rw [hS5,T7 h2 h1]
  have ht5:entAt S5 S.length k=some [.sref I.ir k2 0 (q+1) 1,bhd,.frz [] .nilc,.frz (vars.map strC) .unk,flp,.prim (.int .i64 (l.length:Int))]:=by rw [Ab (rq _ aA aA)]; exact wh
  obtain ⟨S6,hS6⟩:∃ X,X=put S5 S.length ⟨k,[.sref I.ir k2 0 (q+1) 1,.sref I.ib (k2+1) 0 (q+1) 1,.frz [] .nilc,.frz (vars.map strC) .unk,flp,.prim (.int .i64 (l.length:Int))]⟩:=⟨_,rfl⟩;have a2v:=ck.symm;have a36:=z8.symm;have a37:=hS6.symm;simp only [rowC,Ag] at ae az a2v i6;simp (maxSteps:=10^6)+contextual(disch:=try exact dqd)only[evgm,simprocAttr,Ca,Bm,Cb,results113,e3,e15,e16,e17,c1,ae,uv,hw,a2v,i6,nh,hb1,hb2,az,sc,hra,jy,P0,a14,ph,a36,wh,cr,gO_refl,hwb,a15,ht5,a37,xfs];have e1:linesR vars l.length 0 (l.take (q+1))=R++[H1 vars l.length q r]:=by rw [js,U7,hql,Fm,<- hRe]
  have e2:(C8 (q+1)).map (2*vars.length+l.length+·)=B++[bv]:=by rw [List.range_succ,Fk,<- hBe,hbv]; rfl
  have e3:(l.take (q+1)).map Ac4=F++[Ac4 r]:=by rw [js,Fk,<- hFe]; rfl
  have rr:∀ j,j≠S.length->nth S6 j=nth S5 j:=fun j h=>by rw [hS6,Ae (Ix h)]
  have zy:S1.length+1≠S.length/\S1.length+1≠I.ir/\S1.length+1≠I.ib:=by
   rw [hIr,hIb,a35,hL];split <;> omega
  have a17:S6.length=S5.length:=by rw [hS6,Am]
  have kx:okL WW.qF (H1 vars l.length q r):=by
   intro x hx;unfold H1 at hx;rw [C3,C3] at hx;have qk : -1000000000000<=r.2.1/\r.2.1<=1000000000000:=by simpa [inB] using hn r o6
   have hsb:sgI r=1\/sgI r=-1:=by unfold sgI; split <;> simp
   rcases hx with (hx|hx)|hx
   ·obtain ⟨v,h|h⟩:=U6 hx
    ·have:=Xw (v:=v) (hc r o6);rw [h]; exact W5 Za17
    ·have:=Xw (v:=v) (hc r o6);rw [h]; exact W5 Za17
   ·obtain ⟨a,-,rfl⟩:=F9.1 hx;refine W5 ?_;unfold Yg;split
    ·unfold i64; omega
    ·split
     ·unfold i64; omega
     ·unfold i64; omega
   ·rw [F4.1 hx];exact W5 Za17
  have hP2:=hP.add (S':=S6) (cc':=Az tk' cc 1) (er:=k2) (eb:=k2+1) (id:=S1.length+1) (ep:=ep) (b:=bv) (f:=Ac4 r) (row:=H1 vars l.length q r)
   (by rw [ba,zo,hS6,Ah aA,hRl,rj]; rfl)
   (by rw [Ab (rr _ aA),Ab (rq _ (by rw [ro,oh,rk,hL,hIr]; split <;> omega) aA),Ab (rp _ aA),cz,Wn ai (fun h=>A5 (bc h)),Fk]; rfl)
   (by rw [Ab (rr _ aA),hS5,Wn hK0 (fun h=>A5 (dp h)),Fk]; rfl)
   (by rw [Ab (rr _ zy.1),Ab (rq _ Za63 zy.2.2),Ab (rp _ zy.1),Ab (rn _ aA zy.2.1)]; exact he2)
   hWr kx
   (fun p hp=>by
    have h1:=hP.row p hp;have h2:=hP.lt.2 p hp;rw [rr _ Za51,rq _ Za63 h1.2.2,rp _ Za51,rn _ aA h1.2.1,kw _ h2 Za51])
   (by rw [a17,a16,ro,oh]; omega) ⟨by rw [ba]; exact zy.1,zy.2.1,zy.2.2⟩ aA (by rw [a17,a16,ro,oh]; omega)
  have hN:Aon S k l vars S6 (En tk' cc) (Az tk' cc 1) (q+1) { I with er:=k2,eb:=k2+1,ids:=I.ids++[(S1.length+1,ep)] }:=⟨uv,by rw [e1,e2,e3,<- px]; exact hP2,ba,zo,hIr,hIb,by rw [a17,a16,ro,oh,rk,hL,if_neg (show ¬ q+1=0 by omega)]; split <;> omega,Bi hcap,fun j hj=>by rw [rr _ aA,rq _ Za63 aA,rp _ aA,rn _ aA aA,kw _ aA aA]; exact au j hj,fun p hp=>by
   rcases C3.1 hp with hp|hp
   ·exact kv p hp
   ·rw [F4.1 hp]; show S.length<=S1.length+1; omega⟩
  exact IH (S6,k2+1+1,En tk' cc,Az tk' cc 1,q+1,{ I with er:=k2,eb:=k2+1,ids:=I.ids++[(S1.length+1,ep)] }) _ aF ⟨rfl,hN,aT⟩
 ·have c1:decide ((q:Int)<(l.length:Int))=false:=by simpa using uv
  have hqe:q=l.length:=aA
  subst hqe;have ag:=hP.top;rw [ba,zo] at ag;obtain ⟨thd,ng⟩:∃ x,x=shd I.ir I.er (linesR vars l.length 0 (l.take l.length)).length:=⟨_,rfl⟩;obtain ⟨bhd,p8⟩:∃ x,x=shd I.ib I.eb ((C8 l.length).map (2*vars.length+l.length+·)).length:=⟨_,rfl⟩;obtain ⟨flp,rj⟩:∃ x,x=AV.frz (((l.take l.length).map Ac4).map Dc) cc:=⟨_,rfl⟩;rw [<- ng,<- p8,<- rj] at ag;have cr tk n:=N8 S' tk n S.length k _ bhd _ flp vars l.length ag aA aA;have hw1:Cd.wrap (((2*vars.length+l.length:Nat):Int)+(l.length:Int))=((2*vars.length+l.length+l.length:Nat):Int):=aQ
  have hw2:Cd.wrap (((2*vars.length+l.length+l.length:Nat):Int)+1)=((2*vars.length+l.length+l.length+1:Nat):Int):=aQ
  simp (maxSteps:=10^6)+contextual(disch:=try exact dqd)only[evgm,simprocAttr,Ca,Bm,Cb,results113,e3,e15,e16,e17,c1,ag,cr,gO_refl,hw1,hw2,xfs];exact Ls rfl (fin S' n' tk' cc I _ hI0 rfl rfl rfl rfl)
end
end
section
open Go Go.Proofs.Tryz
set_option maxHeartbeats 8000000
set_option maxRecDepth 100000
section
variable {S S':List Ent} {I:TI} {R:List (List Q)} {B:List Nat} {F:List Bool} {vars:List ByteArray} {m W:Nat} {cc:Cap} {x:AV}
theorem PTab.frame (h:PTab S I R B F vars m W cc x) {L:Nat} (h1:I.it<L/\I.ir<L/\I.ib<L/\∀ p ∈ I.ids,p.1<L) (hl:L<=S'.length) (hS:∀ j,j<L->nth S' j=nth S j):PTab S' I R B F vars m W cc x :=
 ⟨by rw [Ab (hS _ h1.1)]; exact h.top,h.nids,h.nb,fun e=>by rw [Ab (hS _ h1.2.1)]; exact h.rowsE e,fun e=>by rw [Ab (hS _ h1.2.2.1)]; exact h.basisE e,fun i p r hp hr=>by rw [Ab (hS _ (h1.2.2.2 p (Aj hp)))]; exact h.rowE i p r hp hr,h.rowW,h.okr,h.tr,h.tb,h.rb,h.row,⟨aA,fun p hp=>by have:=h1.2.2.2 p hp; omega⟩,h.rows⟩
theorem PTab.setX (h:PTab S I R B F vars m W cc x) (x':AV):PTab (put S I.it ⟨I.et,[shd I.ir I.er R.length,shd I.ib I.eb B.length,x',.frz (vars.map strC) .unk,.frz (F.map Dc) cc,.prim (.int .i64 (m:Int))]⟩) I R B F vars m W cc x':=by
 have key:∀ j,j≠I.it->nth (put S I.it ⟨I.et,[shd I.ir I.er R.length,shd I.ib I.eb B.length,x',.frz (vars.map strC) .unk,.frz (F.map Dc) cc,.prim (.int .i64 (m:Int))]⟩) j=nth S j:=fun j hj=>Ae (Ix hj);exact ⟨Ah h.lt.1,h.nids,h.nb,fun e=>by rw [Ab (key _ h.tr.symm)]; exact h.rowsE e,fun e=>by rw [Ab (key _ h.tb.symm)]; exact h.basisE e,fun i p r hp hr=>by rw [Ab (key _ (h.row p (Aj hp)).1)]; exact h.rowE i p r hp hr,h.rowW,h.okr,h.tr,h.tb,h.rb,h.row,⟨by rw [Am]; exact h.lt.1,fun p hp=>by rw [Am]; exact h.lt.2 p hp⟩,h.rows⟩
end
theorem Y1 {id e k:Nat} (h:k≠0):shd id e k=.sref id e 0 k 1:=by cases k with|zero=>exact absurd rfl h|succ k=>rfl
theorem Ar5 {P:Program} {t:TypeId} {S:List Ent} {id e n:Nat} {l zs:List Q} {c:Cap} (h:apT P t=some 4) (hz:zs≠[]) (h0:l=[]->S.length=id) (h1:l≠[]->entAt S id e=some (flat ceW l)) (hb:l.length+zs.length<=1048576):apO P t (ohd id e l.length) (.frz (zs.map ceW) c) S n=some (ohd id n (l.length+zs.length),G9 S id n l (flat ceW (l++zs)),n+1):=by
 have hr:Db 4 (zs.map ceW)=true:=Dq (f:=ceW) Al zs;have hl:((zs.map ceW).all fun e=>e.all leafOk)=true:=by simp [C9,Av]
 have hz0:0<zs.length:=Ic.2 hz;unfold G9;by_cases hn:l=[]
 ·rw [if_pos hn];subst hn;have:=ap4n (S:=S) (n:=n) (c:=c) h hr hl (by simpa using hz0) fX;rw [Fg] at this;simp only [Cu,Fm,Cr];rw [<- h0 rfl,show ohd S.length n zs.length=.sref S.length n 0 zs.length 4 from J9 aA];exact this
 ·rw [if_neg hn];have b8:0<l.length:=Ic.2 hn;have:=ap4m (S:=S) (n:=n) (c:=c) h hr hl (by simpa using hz0) (h1 hn) (Uk Al) b8 fX;rw [Fg] at this;rw [J9 aA,J9 aA,Afg];exact this
theorem Akb {k:Nat} : ∀ {R:List (List Q)} {c:Q},okW c->(∀ r ∈ R,okL WW.qF r/\k<r.length)->okW (colR k R c)
 | [],_,h,_=>h
 | r :: R,c,h,hr=>by
  obtain ⟨h1,h2⟩:=hr r (by simp);obtain ⟨x,hx⟩:=Ac h2;unfold colR;rw [Ay hx];exact Akb (WW.Dp.minus _ _ h (h1 x (Aj hx))) fun r dz=>hr r (by simp [dz])
def BegE (S:List Ent) (k:Nat) (t':Tb) (vars:List ByteArray) (m:Nat) (r:Rs):Prop :=
 ∃ S' tk' k' I cc,r=(.ref S.length k 0,S',tk',k')/\RTab S' I t' vars m cc/\I.it=S.length/\I.et=k/\S.length<=S'.length/\∀ j,j<S.length->nth S' j=nth S j/\OutR I j
section
variable (S:List Ent) (tk:List Nat) (k:Nat)
theorem Aha (l:List RowT) (vars:List ByteArray) (b8:l≠[]) (hR:Aei l vars) (t':Tb) (b:Bool) (K:Nat) (hK:Nb (2*vars.length+l.length+l.length) K (Ev l vars)=some (b,t')) (L0:List Ent) (n0:Nat) (tk1:List Nat) (cc:Cap) (J:TI) (hJ:Aon S k l vars L0 tk1 cc l.length J) (T:List AV)
  (hTl:T.length=119) (t3:getT T 3=.ref S.length k 0) (t56:getT T 56=.int ((2*vars.length+l.length+l.length+1:Nat):Int)) (t57:getT T 57=.int ((0:Nat):Int)) :
  Gd finM (BegE S k t' vars l.length) (KA prog Tryz.f113 9 [] ⟨T,L0,tk1,n0⟩):=by
 obtain ⟨Φ,hΦ⟩:∃ Φ,Φ=BegE S k t' vars l.length:=⟨_,rfl⟩;rw [<- hΦ];obtain ⟨hm,hv,hcl,hc,hn⟩:=hR;obtain ⟨-,hP0,ba,zo,hIr,hIb,hL,hcap,a38,kv⟩:=hJ;have dc:l.length≠0:=fun h=>b8 (Cw.1 h);rw [if_neg dc] at hL;rw [Fb] at hP0;obtain ⟨R,hRe⟩:∃ R,R=linesR vars l.length 0 l:=⟨_,rfl⟩;obtain ⟨B,hBe⟩:∃ B,B=(C8 l.length).map (2*vars.length+l.length+·):=⟨_,rfl⟩;obtain ⟨F,hFe⟩:∃ F,F=l.map Ac4:=⟨_,rfl⟩;obtain ⟨W,px⟩:∃ W,W=2*vars.length+l.length+l.length+1:=⟨_,rfl⟩;have hRl:R.length=l.length:=by rw [hRe,Q5]
 have hBl:B.length=l.length:=by rw [hBe]; simp
 rw [<- hRe,<- hBe,<- hFe,<- px] at hP0;rw [<- px] at t56;obtain ⟨ct,y4⟩:∃ ct:Nat->Q,ct=Ahd R (2*vars.length+l.length) l.length:=⟨_,rfl⟩;have bp:apT prog 78=some 4:=aM
 have jk S tk k:=N6 S tk k 0 aD;have hi1 S tk k:=N6 S tk k 1 aD;refine Vz rfl (t:=.mk) ?_;refine D8 (P:=prog) (fun x st=>st.T.length=119/\(x.2.2.1<=W)/\(PTab x.1 J R B F vars l.length W cc (ohd (L0.length+1) x.2.2.2 x.2.2.1))/\(x.1.length=L0.length+(if x.2.2.1=0 then 0 else x.2.2.1+1))/\(x.2.2.1≠0->entAt x.1 (L0.length+1) x.2.2.2=some (flat ceW ((C8 x.2.2.1).map ct)))/\(∀ j,j<S.length->nth x.1 j=nth S j)/\getT st.T 3=.ref S.length k 0/\getT st.T 56=.int (W:Nat)/\getT st.T 57=.int (x.2.2.1:Nat)/\st.S=x.1/\st.tk=tk1/\st.n=x.2.1) (fun x=>W - x.2.2.1) (L0,n0,0,0) ?_ ?_;case refine_2=>exact ⟨aH,Cl _,hP0,by simp,(fun h=>absurd rfl h),a38,aH,aH,aH,aH,aH,aH⟩
 rintro ⟨SS,n1,q,e⟩ ⟨T,S',tk',n'⟩ ⟨hl,hq,hP,ed,hE,au,e3,e56,e57,eS,eT,eN⟩ IH;simp only at hq hP ed hE au e3 e56 e57 eS eT eN;subst eS eT eN;obtain ⟨g,hg,hT⟩:=Ar hl;rw [hg] at e3 e56 e57;subst hT;clear hg hl;have IHA:=IH;clear IH;have ag:=hP.top;rw [ba,zo,hRl,hBl] at ag;obtain ⟨thd,ng⟩:∃ x,x=AV.sref J.ir J.er 0 l.length 1:=⟨_,rfl⟩;obtain ⟨bhd,p8⟩:∃ x,x=AV.sref J.ib J.eb 0 l.length 1:=⟨_,rfl⟩;obtain ⟨flp,rj⟩:∃ x,x=AV.frz (F.map Dc) cc:=⟨_,rfl⟩;obtain ⟨chd,a18⟩:∃ x,x=ohd (L0.length+1) e q:=⟨_,rfl⟩;rw [Y1 dc,Y1 dc,<- ng,<- p8,<- rj,<- a18] at ag;have io:=hP.rowsE (fun h=>dc (by rw [<- hRl,h]; rfl));have bh:J.it<L0.length/\J.ir<L0.length/\J.ib<L0.length/\∀ p ∈ J.ids,p.1<L0.length:=⟨hP0.lt.1,aA,aA,hP0.lt.2⟩;have hSL:S.length<L0.length:=aA
 by_cases hqW:q<W
 ·have c1:decide ((q:Int)<(W:Int))=true:=by simpa using hqW
  have hw:Cd.wrap ((q:Int)+1)=((q+1:Nat):Int):=aQ
  obtain ⟨c0,hc0⟩:∃ c0,c0=iQ (if 2*vars.length+l.length<=q/\q<2*vars.length+l.length+l.length then 1 else 0):=⟨_,rfl⟩;have oc0:okW c0:=by rw [hc0]; exact W5 (by unfold i64; split <;> omega)
  have a39:ct q=colR q R c0:=by rw [y4,hc0]; rfl
  have hw1:Cd.wrap (((2*vars.length+l.length:Nat):Int)+(l.length:Int))=((2*vars.length+l.length+l.length:Nat):Int):=aQ
  have nh:∀ cs,entAt (S'++[(⟨n',cs⟩:Ent)]) S.length k=some [thd,bhd,chd,.frz (vars.map strC) .unk,flp,.prim (.int .i64 (l.length:Int))]:=fun cs=>Ad ag;have cr cs tk n:=N8 (S'++[(⟨n',cs⟩:Ent)]) tk n S.length k _ bhd _ flp vars l.length (nh cs) aA aA;have a0c:∀ cs cs',put (S'++[(⟨n',cs⟩:Ent)]) S'.length ⟨n',cs'⟩=S'++[⟨n',cs'⟩]:=fun cs cs'=>Da rfl;have inner:∀ T,T.length=119->getT T 3=.ref S.length k 0->getT T 6=.int (q:Nat)->getT T 7=.ref S'.length n' 0->getT T 56=.int (W:Nat)->getT T 57=.int (q:Nat)->getT T 81=.int (l.length:Nat)->getT T 82=.int ((0:Nat):Int)->Gd finM Φ (KA prog Tryz.f113 15 [S'.length] ⟨T,S'++[(⟨n',ceW c0⟩:Ent)],tk',n'+1⟩):=by
   intro T hTl t3 t6 t7 t56 t57 t81 t82;refine Vz rfl (t:=.mk) ?_;refine D8 (P:=prog) (fun x st=>st.T.length=119/\(x.1<=l.length)/\(colR q R c0=colR q (R.drop x.1) x.2)/\(okW x.2)/\getT st.T 3=.ref S.length k 0/\getT st.T 6=.int (q:Nat)/\getT st.T 7=.ref S'.length n' 0/\getT st.T 56=.int (W:Nat)/\getT st.T 57=.int (q:Nat)/\getT st.T 81=.int (l.length:Nat)/\getT st.T 82=.int (x.1:Nat)/\st.S=S'++[(⟨n',ceW x.2⟩:Ent)]/\st.tk=tk'/\st.n=n'+1) (fun x=>l.length - x.1) (0,c0) ?_ ?_;case refine_2=>exact ⟨aH,Cl _,rfl,oc0,aH,aH,aH,aH,aH,aH,aH,aH,aH,aH⟩
   rintro ⟨i,v⟩ ⟨T,S',tk',n'⟩ ⟨hl,hi,hvc,ov,e3,e6,e7,e56,e57,e81,e82,eS,eT,eN⟩ IH;simp only at hi hvc ov e3 e6 e7 e56 e57 e81 e82 eS eT eN;subst eS eT eN;obtain ⟨g,hg,hT⟩:=Ar hl;rw [hg] at e3 e6 e7 e56 e57 e81 e82;subst hT;clear hg hl;have ee:=nh (ceW v);rw [ng] at ee;by_cases him:i<l.length
   ·have c2:decide ((i:Int)<(l.length:Int))=true:=by simpa using him
    have tm:Cd.wrap ((i:Int)+1)=((i+1:Nat):Int):=aQ
    obtain ⟨r,hr⟩:=Ac (show i<R.length by omega);obtain ⟨p,hp⟩:=Ac (show i<J.ids.length by rw [hP.nids]; omega);have nj:nth (O7 i (J.ids.map (dm W 4))) 0=some (.sref p.1 p.2 0 W 4):=B9 (by rw [Af] at hp ⊢; rw [Et,hp]; rfl);have a0n:entAt (S'++[(⟨n',ceW v⟩:Ent)]) p.1 p.2=some (flat ceW r):=Ad (hP.rowE i p r hp hr);have oc:entAt (S'++[(⟨n',ceW v⟩:Ent)]) J.ir J.er=some (J.ids.map (dm W 4)):=Ad io;have hrW:=hP.rowW r (Aj hr);obtain ⟨x,hx⟩:=Ac (show q<r.length by omega);have ox:=hP.okr r (Aj hr) x (Aj hx);have fc:=Aq (ce:=ceW) Al hx;have hD S tk k:=Ai9 S tk k v x ov ox;obtain ⟨y,hy⟩:∃ y,y=(WW.qF.minus v x).1:=⟨_,rfl⟩;have oy:okW y:=by rw [hy]; exact WW.Dp.minus _ _ ov ox
    rw [<- hy] at hD;have sj:colR q R c0=colR q (R.drop (i+1)) y:=by rw [hvc,Aw hr,colR,Ay hx,hy]
    have yj:Oe (S'++[(⟨n',ceW v⟩:Ent)]).length (S'++[(⟨n',ceW y⟩:Ent)])=S'++[⟨n',ceW y⟩]:=Fc (by simp);simp (maxSteps:=10^6)+contextual(disch:=try exact dqd)only[evgm,simprocAttr,Ca,Bm,Cb,results113,e3,e6,e7,e56,e57,e81,e82,c2,tm,yj,ee,oc,nj,a0n,fc,hD,him,hqW,a0c,WW.ovQ2,Fj,Al,Av,D2,D1,WW.tkQ,WW.puQ];exact IH (i+1,y) _ aF ⟨rfl,aE,sj,oy,aT⟩
   ·have c2:decide ((i:Int)<(l.length:Int))=false:=by simpa using him
    rw [Fe aA,colR,<- a39] at hvc;subst hvc;obtain ⟨cs,ig⟩:∃ cs,cs=(C8 q).map ct:=⟨_,rfl⟩;have a19:cs.length=q:=by rw [ig]; simp
    have ww:cs=[]↔q=0:=by rw [<- Cw,a19]
    have a4a:(C8 (q+1)).map ct=cs++[ct q]:=by rw [List.range_succ,Fk,<- ig]; rfl
    obtain ⟨S2,bm⟩:∃ X,X=G9 (S'++[(⟨n',ceW (ct q)⟩:Ent)]) (L0.length+1) (n'+1) cs (flat ceW (cs++[ct q])):=⟨_,rfl⟩;have h0:cs=[]->(S'++[(⟨n',ceW (ct q)⟩:Ent)]).length=L0.length+1:=fun h=>by rw [Cm,ed,if_pos (ww.1 h)]; rfl
    have h1:cs≠[]->entAt (S'++[(⟨n',ceW (ct q)⟩:Ent)]) (L0.length+1) e=some (flat ceW cs):=fun h=>by rw [ig]; exact Ad (hE fun e=>h (ww.2 e))
    have a4b:∀ c,apO prog 78 chd (.frz [ceW (ct q)] c) (S'++[(⟨n',ceW (ct q)⟩:Ent)]) (n'+1)=some (.sref (L0.length+1) (n'+1) 0 (q+1) 4,S2,n'+1+1):=fun c=>by
     have:=Ar5 (P:=prog) (S:=S'++[(⟨n',ceW (ct q)⟩:Ent)]) (id:=L0.length+1) (e:=e) (n:=n'+1) (l:=cs) (zs:=[ct q]) (c:=c) bp (by simp) h0 h1 (by rw [a19]; simp; omega);rw [a19,<- a18,<- bm] at this;exact this
    have kw:∀ j,j<L0.length->nth S2 j=nth S' j:=fun j hj=>by
     have hLS:L0.length<=S'.length:=by rw [ed]; omega
     rw [bm]; unfold G9; split
     ·rw [Bh aC,Bh aA]
     ·rw [Ae aA,Bh aA]
    have rk:S2.length=S'.length+1+(if q=0 then 1 else 0):=by rw [bm,Ah0]; simp only [ww]; simp
    have pz:entAt S2 (L0.length+1) (n'+1)=some (flat ceW (cs++[ct q])):=by
     rw [bm]; unfold G9; split
     ·rename_i h;rw [<- h0 h]; exact Bk
     ·rename_i h;exact Ah (A5 (h1 h))
    have a4c:entAt S2 S.length k=some [.sref J.ir J.er 0 l.length 1,bhd,chd,.frz (vars.map strC) .unk,flp,.prim (.int .i64 (l.length:Int))]:=by
     rw [Ab (kw _ hSL),<- ng]; exact ag
    obtain ⟨S3,cz⟩:∃ X,X=put S2 S.length ⟨k,[.sref J.ir J.er 0 l.length 1,bhd,.sref (L0.length+1) (n'+1) 0 (q+1) 4,.frz (vars.map strC) .unk,flp,.prim (.int .i64 (l.length:Int))]⟩:=⟨_,rfl⟩;have a2w:=cz.symm;have oh:S3.length=S2.length:=by rw [cz,Am]
    have hPf:=hP.frame (S':=S2) bh (by rw [rk,ed]; omega) kw;have hPx:=hPf.setX (.sref (L0.length+1) (n'+1) 0 (q+1) 4);rw [ba,zo,hRl,hBl,Y1 dc,Y1 dc,<- p8,<- rj,a2w] at hPx;have a4d:S3.length=L0.length+(if q+1=0 then 0 else q+1+1):=by
     rw [oh,rk,ed,if_neg (show ¬ q+1=0 by omega)];by_cases h:q=0
     ·rw [if_pos h,if_pos h]; omega
     ·rw [if_neg h,if_neg h]; omega
    simp (maxSteps:=10^6)+contextual(disch:=try exact dqd)only[evgm,simprocAttr,Ca,Bm,Cb,results113,e3,e6,e7,e56,e57,e81,e82,c2,hw,ee,a4b,a4c,a2w,Al,Av,D2,D1,WW.tkQ,WW.puQ];exact IHA (S3,n'+1+1,q+1,n'+1) _ aF ⟨rfl,aE,hPx,a4d,fun _=>by rw [cz,Ai aE,a4a]; exact pz,fun j hj=>by rw [cz,Ae aE,kw j aE]; exact au j hj,aT⟩
  cases d1:decide ((q:Int) >= ((2*vars.length+l.length:Nat):Int)) <;> cases d2:decide ((q:Int)<((2*vars.length+l.length+l.length:Nat):Int));all_goals
   have hcv:c0=iQ (if decide ((q:Int) >= ((2*vars.length+l.length:Nat):Int))=true/\decide ((q:Int)<((2*vars.length+l.length+l.length:Nat):Int))=true then 1 else 0):=by
    rw [hc0]; simp only [decide_eq_true_eq,ge_iff_le,Int.ofNat_le,Int.ofNat_lt]
   rw [d1,d2] at hcv
   simp only [C6,false_and,and_false,and_self,if_true,if_false] at hcv
   rw [hcv] at inner
   rw [ng] at nh
   simp (maxSteps:=10^6)+contextual(disch:=try exact dqd)only[evgm,simprocAttr,Ca,Bm,Cb,results113,e3,e56,e57,c1,nh,cr,gO_refl,hw1,d1,d2,jk,hi1,WW.ovQ,WW.ovQ2,a0c,xfs,Al,Av,D2,D1,WW.tkQ,WW.puQ]
   exact Ls rfl (inner _ rfl rfl rfl rfl rfl rfl rfl rfl)
 ·have c1:decide ((q:Int)<(W:Int))=false:=by simpa using hqW
  have hqe:q=W:=aA
  have hW0:W≠0:=aA
  subst hqe;have f7:=hE hW0;have wt:((C8 q).map ct).length=q:=by simp
  obtain ⟨I2,hI2⟩:∃ I2:TI,I2={ J with ic:=L0.length+1,ec:=e }:=⟨_,rfl⟩;have hbe:Ev l vars={ vars:=vars.length,real:=2*vars.length+l.length,rows:=R,cost:=(C8 q).map ct,basis:=B,flip:=F,fl:=false }:=by
   unfold Ev;simp only [hRe,hBe,hFe,y4,px];rfl
  have oct:okL WW.qF ((C8 q).map ct):=by
   intro x hx;obtain ⟨a,ha,rfl⟩:=F9.1 hx;rw [y4];unfold Ahd;exact Akb (W5 (by unfold i64; split <;> omega)) fun r hr=>⟨hP.okr r hr,by rw [hP.rowW r hr]; exact iG.1 ha⟩
  have hLS:L0.length+1<S'.length:=A5 f7;have hRT:RTab S' I2 (Ev l vars) vars l.length cc:=by
   rw [hbe,hI2];refine ⟨?_,hP.nids,?_,fun i p r hp hr=>?_,fun r hr=>?_,?_,?_,hP.nb,⟨hP.tr,by show J.it≠L0.length+1; omega,hP.tb,by show J.ir≠L0.length+1; omega,hP.rb,by show L0.length+1≠J.ib; omega,fun p hp=>?_,hP.rows⟩,hP.okr,oct,?_,?_,?_,?_⟩
   ·rw [ba,zo];simp only [hRl,wt,intA];rw [<- ng,<- p8,<- rj,<- J9 (id:=L0.length+1) (ep:=e) hW0,<- a18]; exact ag
   ·simp only [wt]; exact io
   ·exact hP.rowE i p r hp hr
   ·simp only [wt]; exact hP.rowW r hr
   ·exact f7
   ·exact hP.basisE fun h=>dc (by rw [<- hRl,h]; rfl)
   ·have h1:=hP.row p hp;exact ⟨h1.1,h1.2.1,by show p.1≠L0.length+1; have:=bh.2.2.2 p hp; omega,h1.2.2⟩
   ·simp only [wt]; omega
   ·simp only [hRl]; omega
   ·simp only [hRl]; omega
   ·simp only [wt]; omega
  have ry:2*vars.length+l.length+l.length<=(Ev l vars).cost.length:=by rw [hbe]; simp only [wt]; omega
  obtain ⟨r,az,S3,k3,I3,rfl,ei,c9,h3t,h3e,d6⟩:=Ai7 S' tk' n' I2 (Ev l vars) t' vars l.length cc _ K b hRT ry hK;have h2t:I2.it=S.length:=by rw [hI2]; exact ba
  have h2e:I2.et=k:=by rw [hI2]; exact zo
  rw [h2t,h2e] at az;have cr tk n:=N8 S' tk n S.length k _ bhd _ flp vars l.length ag aA aA;have hw1:Cd.wrap (((2*vars.length+l.length:Nat):Int)+(l.length:Int))=((2*vars.length+l.length+l.length:Nat):Int):=aQ
  simp (maxSteps:=10^6)+contextual(disch:=try exact dqd)only[evgm,simprocAttr,Ca,Bm,Cb,results113,e3,e56,e57,c1,ag,cr,gO_refl,hw1,az,ei,Adw,xfs];rw [hΦ];refine ⟨S3,_,k3,I3,cc,rfl,c9,h3t.trans h2t,h3e.trans h2e,aA,fun j hj=>?_⟩;have ky:OutR I2 j:=by
   rw [hI2];exact ⟨by show j≠J.it; omega,by show j≠J.ir; omega,by show j≠L0.length+1; omega,by show j≠J.ib; omega,fun p hp=>by have:=kv p hp; omega⟩
  exact ⟨by rw [(d6 j aA ky).1]; exact au j hj,(d6 j aA ky).2⟩
end
section
variable (S:List Ent) (tk:List Nat) (k:Nat)
theorem Ai6 (l:List RowT) (b8:l≠[]) (hf:fewC l) (h64:l.length<=64) (hR:Aei l (Ee l)) (t':Tb) (b:Bool) (K:Nat) (hK:Nb (2*(Ee l).length+l.length+l.length) K (Ev l (Ee l))=some (b,t')) :
  ∃ r,cL prog 113 [Au l] S tk k=some r/\BegE S k t' (Ee l) l.length r:=by
 have hn S tk k:=N7 S tk k l hf h64;simp only [Au,Ap] at hn;refine opM func113 ntmps113 ?_;simp (maxSteps:=10^6)+contextual(disch:=try exact dqd)only[evg1,simprocAttr,Ca,Bm,Cb,results113,Au,hn];exact Ls rfl (Ahb S tk k l (Ee l) hR _ (fun SS n1 tk1 cc I T hI hTl t3 t56 t57=>Aha S k l (Ee l) b8 hR t' b K hK SS n1 tk1 cc I hI T hTl t3 t56 t57) _ rfl rfl rfl rfl rfl)
theorem An5 (I:TI) (t:Tb) (vars:List ByteArray) (m:Nat) (cc:Cap) (hT:RTab S I t vars m cc):cL prog 114 [.ref I.it I.et 0] S tk k=some (.bool (Hz t),S,tk,k):=by
 have ag:=hT.top;have hW:=hT.bigW;have f7:=hT.costE;have hp:=hT.posW;obtain ⟨z,hz⟩:=Ac (show t.cost.length - 1<t.cost.length by omega);have i9:=Aq (ce:=ceW) Al hz;have hs S tk k:=N9 S tk k z;have fy:Cd.wrap ((t.cost.length:Int) - 1)=((t.cost.length - 1:Nat):Int):=aS
 have j4:t.cost.length - 1<t.cost.length:=aA
 refine opS func114 ntmps114 ?_;simp (maxSteps:=10^6)+contextual(disch:=try exact dqd)only[evs1,simprocAttr,Ca,Bm,Cb,results114,ag,f7,i9,fy,j4,hs,Fj,Al,Av,D2,D1,WW.tkQ,WW.puQ];rw [show Hz t=(sgn z == 0) by unfold Hz; rw [Ay hz]]
end
theorem As3 {l:List RowT} (h0:sysE l=0):Aei l (Ee l):=by
 obtain ⟨f1,f2,f3,f4⟩:=L9 h0;have hr:=Rc (vars:=Ee l) f4 Tp;exact ⟨aA,aA,fun r h=>Za40,fun r h c hc=>by have:=(hr r h).2.cof c hc; simp [inB]; omega,fun r h=>by have:=(hr r h).2.con; simp [inB]; omega⟩
section
variable (S:List Ent) (tk:List Nat) (k:Nat)
theorem Xi (l:List RowT) (hl:∀ r ∈ l,r.1.length<=1048576) (h0:sysE l≠0):cL prog 83 [Au l] S tk k=some (.tup [.bool false,.int (sysE l)],S,tk,k):=by
 have hC S tk k:=Ld S tk k l hl;simp only [Au] at hC;have c1:(sysE l != 0)=true:=aV
 refine opP func83 ntmps83 (hp3:=rfl) ?_;simp (maxSteps:=10^6)+contextual(disch:=try exact dqd)only[ev1,simprocAttr,Ca,Bm,Cb,results83,Au,hC,c1]
theorem V1 {l:List RowT} (hl:l.length<=13) (hne:l≠[]) (h0:sysE l=0):∃ b:Bool,(b=true↔∃ v,Sat v l)/\∀ S tk k,cL prog 83 [Au l] S tk k=some (.tup [.bool b,.int 0],S,tk,k):=by
 obtain ⟨f1,f2,f3,f4⟩:=L9 h0;have hr:=Rc (vars:=Ee l) f4 Tp;obtain ⟨b,t',hK,-,hS⟩:=Ak0 (l:=l) (Ann l) hl hr (Ce _);refine ⟨Hz t',hS,fun S tk k=>?_⟩;have hC S tk k:=Ld S tk k l (fun r h=>Za40);rw [h0] at hC;have c1:((0:Int) != 0)=false:=rfl;obtain ⟨r,hB,S',tk',k',I,cc,rfl,hT,ba,zo,-,-⟩:=Ai6 [] [] 0 l hne f1 f2 (As3 h0) t' b _ hK;have hF:=An5 S' tk' k' I t' _ _ cc hT;rw [ba,zo] at hF;simp only [Au,Cu] at hC hB hF;refine opP func83 ntmps83 (hp3:=rfl) ?_;simp (maxSteps:=10^6)+contextual(disch:=try exact dqd)only[evm,simprocAttr,Ca,Bm,Cb,results83,Au,hC,hB,hF,c1]
end
end
section
open Go Go.Proofs.Tryz
set_option maxHeartbeats 8000000
set_option maxRecDepth 100000
theorem Ato [Globs] {P:Program} [Ext P] {fn:Func} {c:Code} {st:St} {k:List Kont} {tg:Tag (lE c,k)} : KX P fn (.loop c) st k tg=KX P fn c st (.loop c st.S.length :: k) .mk:=Xk
def tabE (x:AV):List AV:=[.frz [] .nilc,.frz [] .nilc,x,.frz [] .unk,.frz [] .nilc,.prim (.int .i64 0)]
section
variable (S:List Ent) (tk:List Nat) (k:Nat)
theorem Ag1 (it et:Nat):∃ r,cL prog 140 [.ref it et 0,.int 0] S tk k=some r/\r=(.bool true,S,tk,k):=by
 obtain ⟨Φ,hΦ⟩:∃ Φ:Rs->Prop,Φ=fun r=>r=(.bool true,S,tk,k):=⟨_,rfl⟩;rw [show (∃ r,cL prog 140 [.ref it et 0,.int 0] S tk k=some r/\r=(.bool true,S,tk,k))=(∃ r,cL prog 140 [.ref it et 0,.int 0] S tk k=some r/\Φ r) by rw [hΦ]];have d1:decide ((-1:Int)<0)=true:=rfl;refine opM func140 ntmps140 ?_;simp (maxSteps:=10^6)+contextual(disch:=try exact dqd)only[evgm,simprocAttr,Ca,Bm,Cb,results140,Ato,d1];rw [hΦ]
theorem Agz:∃ r,cL prog 113 [.frz [] .unk] S tk k=some r/\r=(.ref S.length k 0,S++[⟨k,tabE (.sref (S.length+2) (k+2) 0 1 4)⟩]++[⟨k+1,ceW (iQ 0)⟩]++[⟨k+2,ceW (iQ 0)⟩],tk,k+3):=by
 obtain ⟨G,hG⟩:∃ G:Rs,G=(.ref S.length k 0,S++[⟨k,tabE (.sref (S.length+2) (k+2) 0 1 4)⟩]++[⟨k+1,ceW (iQ 0)⟩]++[⟨k+2,ceW (iQ 0)⟩],tk,k+3):=⟨_,rfl⟩;rw [<- hG];obtain ⟨Φ,hΦ⟩:∃ Φ:Rs->Prop,Φ=fun r=>r=G:=⟨_,rfl⟩;rw [show (∃ r,cL prog 113 [.frz [] .unk] S tk k=some r/\r=G)=(∃ r,cL prog 113 [.frz [] .unk] S tk k=some r/\Φ r) by rw [hΦ]];have hn S tk k:=N7 S tk k [] (by intro r h; simp at h) (by simp);have jk S tk k:=N6 S tk k 0 aD;have hA:∀ X,entAt (S++[(⟨k,X⟩:Ent)]) S.length k=some X:=fun X=>Bk;have hB:∀ X (e:Ent),entAt (S++[(⟨k,X⟩:Ent)]++[e]) S.length k=some X:=fun X e=>Ad Bk;have hC:∀ X (e f:Ent),entAt (S++[(⟨k,X⟩:Ent)]++[e]++[f]) S.length k=some X:=fun X e f=>Ad (Ad Bk);have cr:∀ X x tk n,entAt X S.length k=some (tabE x)->cL prog 137 [.ref S.length k 0] X tk n=some (.int 0,X,tk,n):=fun X x tk n h=>N8 X tk n S.length k (.frz [] .nilc) (.frz [] .nilc) x (.frz [] .nilc) [] 0 h (by simp) (by simp);have a2x tk n:=cr (S++[(⟨k,tabE (.frz [] .nilc)⟩:Ent)]) _ tk n (hA _);have a0n e tk n:=cr (S++[(⟨k,tabE (.frz [] .nilc)⟩:Ent)]++[e]) _ tk n (hB _ e);have a2y e f x tk n:=cr (S++[(⟨k,tabE x⟩:Ent)]++[e]++[f]) _ tk n (hC _ e f);have qx:∀ X tk n,cL prog 140 [.ref S.length k 0,.int 0] X tk n=some (.bool true,X,tk,n):=fun X tk n=>by obtain ⟨r,h,rfl⟩:=Ag1 X tk n S.length k; exact h
 simp only [tabE] at a2x a0n a2y;have li:Ee []=[]:=rfl;simp only [Au,Ap,li,Cs] at hn;have pn:Cd.wrap 0=0:=aP
 have hw1:Cd.wrap 1=1:=aP
 have hp1:∀ (X:Ent) cs cs',put (S++[X]++[(⟨k+1,cs⟩:Ent)]) (S++[X]).length ⟨k+1,cs'⟩=S++[X]++[⟨k+1,cs'⟩]:=fun X cs cs'=>Da rfl;have hp3:∀ X Y (e f:Ent),put (S++[(⟨k,X⟩:Ent)]++[e]++[f]) S.length ⟨k,Y⟩=S++[⟨k,Y⟩]++[e]++[f]:=fun X Y e f=>by rw [Dk (by simp),Dk (by simp),Da rfl]
 have bp:apT prog 78=some 4:=aM
 have ev:∀ t,t=78->∀ c X n,apO prog t (.frz [] .nilc) (.frz [ceW (iQ 0)] c) X n=some (.sref X.length n 0 1 4,X++[⟨n,ceW (iQ 0)⟩],n+1):=fun t ht c X n=>by rw [ht]; exact Ajl bp (Al _) (Av _)
 have ev:=ev _ rfl;refine opM func113 ntmps113 ?_;simp (maxSteps:=10^6)+contextual(disch:=try exact dqd)only[evgm,simprocAttr,Ca,Bm,Cb,results113,Ato,hn,jk,hA,hB,hC,a2x,a0n,a2y,qx,gO_refl,Adw,pn,hw1,hp1,hp3,ev,WW.ovQ,WW.ovQ2,xfs,Al,Av,D2,D1,WW.tkQ,WW.puQ];rw [hΦ,hG];simp [tabE,Oy]
theorem Ai5 (it et ic ec n:Nat) (a b v f:AV) (m:Int) (cost:List Q) (ht:entAt S it et=some [a,b,.sref ic ec 0 cost.length 4,v,f,.prim (.int .i64 m)]) (f7:entAt S ic ec=some (flat ceW cost)) (hp:0<cost.length) (hW:cost.length<=1000000):cL prog 114 [.ref it et 0] S tk k=some (.bool (sgn (at_ q0 cost (cost.length - 1)) == 0),S,tk,k):=by
 obtain ⟨z,hz⟩:=Ac (show cost.length - 1<cost.length by omega);have i9:=Aq (ce:=ceW) Al hz;have hs S tk k:=N9 S tk k z;have fy:Cd.wrap ((cost.length:Int) - 1)=((cost.length - 1:Nat):Int):=aS
 have j4:cost.length - 1<cost.length:=aA
 refine opS func114 ntmps114 ?_;simp (maxSteps:=10^6)+contextual(disch:=try exact dqd)only[evs1,simprocAttr,Ca,Bm,Cb,results114,ht,f7,i9,fy,j4,hs,Fj,Al,Av,D2,D1,WW.tkQ,WW.puQ];rw [Ay hz]
theorem Xj:cL prog 83 [Au []] S tk k=some (.tup [.bool true,.int 0],S,tk,k):=by
 have hC S tk k:=Ld S tk k [] (fun r h=>aO);have h0:sysE []=0:=aP
 rw [h0] at hC;have c1:((0:Int) != 0)=false:=rfl;obtain ⟨r,hB,rfl⟩:=Agz [] [] 0;have hF tk k:=Ai5 ([]++[(⟨0,tabE (.sref 2 2 0 1 4)⟩:Ent)]++[⟨0+1,ceW (iQ 0)⟩]++[⟨0+2,ceW (iQ 0)⟩]) tk k 0 0 2 2 0 _ _ _ _ _ [iQ 0] rfl rfl (by simp) (by simp);have hs:(sgn (at_ q0 [iQ 0] ([iQ 0].length - 1)) == 0)=true:=aP
 rw [hs] at hF;simp only [Au,Cs,Cr,Co,Cu,Fm] at hC hB hF;refine opP func83 ntmps83 (hp3:=rfl) ?_;simp (maxSteps:=10^6)+contextual(disch:=try exact dqd)only[evm,simprocAttr,Ca,Bm,Cb,results83,Au,Cs,hC,hB,hF,c1]
end
end
section
open Go Go.Proofs.Tryz
open Classical in
noncomputable def Ud (l:List RowT):Bool:=decide (sysE l=0/\∃ v,Sat v l)
open Classical in
theorem Afe {l:List RowT} (h:sysE l≠0):Ud l=false:=by
 unfold Ud;exact decide_eq_false fun h'=>h h'.1
open Classical in
theorem X4 {l:List RowT} (h:sysE l=0) {b:Bool} (hb:b=true↔∃ v,Sat v l):Ud l=b:=by
 refine Vn.2 ?_;unfold Ud;rw [decide_eq_true_iff];exact ⟨fun h'=>hb.2 h'.2,fun h'=>⟨h,hb.1 h'⟩⟩
theorem As6 (v:ByteArray->Rat):Sat v []:=fun r h=>aR
section
variable (S:List Ent) (tk:List Nat) (k:Nat)
theorem Abw (l:List RowT) (hl:l.length<=13) (b8:∀ r ∈ l,r.1.length<=1048576):cL prog 23 [Au l] S tk k=some (.tup [.bool (Ud l),.int (sysE l)],S,tk,k):=by
 by_cases h0:sysE l=0
 ·obtain ⟨b,i1,e1⟩:=Asg hl h0;rw [e1,X4 h0 i1,h0]
 ·have:=Ri S tk k l b8 ⟨false,[],[],none⟩ fun h=>absurd h h0;rw [if_neg h0] at this;rw [this,Afe h0]
theorem An2 (l:List RowT) (hl:l.length<=13) (b8:∀ r ∈ l,r.1.length<=1048576):cL prog 83 [Au l] S tk k=some (.tup [.bool (Ud l),.int (sysE l)],S,tk,k):=by
 by_cases h0:sysE l=0
 ·by_cases hne:l=[]
  ·subst hne;rw [Xj,X4 h0 (b:=true) ⟨fun _=>⟨fun _=>0,As6 _⟩,fun _=>rfl⟩,h0]
  ·obtain ⟨b,i1,e1⟩:=V1 hl hne h0;rw [e1,X4 h0 i1,h0]
 ·rw [Xi S tk k l b8 h0,Afe h0]
end
noncomputable def infB (l:List RowT):Bool:=(sysE l == 0) && !Ud l
open Classical in
end
section
open Go Go.Proofs.Tryz
theorem Apc {n:Int} (h:inB n=true):i64 n:=by rw [Jw] at h; unfold i64; omega
section
variable (S:List Ent) (tk:List Nat) (k:Nat)
theorem Q8 (n:Int):cL prog 58 [.int n] S tk k=some (.bool (inB n),S,tk,k):=by
 refine opP func58 ntmps58 ?_;simp (maxSteps:=10^6)+contextual(disch:=try exact dqd)only[ev1,simprocAttr,Ca,Bm,Cb,results58];exact Ya3d
theorem Adk (n:Int) (ok:Bool):cL prog 104 [.int n,.bool ok] S tk k=some (.tup [.int (chk ok n).1,.bool (chk ok n).2],S,tk,k):=by
 refine opP func104 ntmps104 ?_;simp (maxSteps:=10^6)+contextual(disch:=try exact dqd)only[ev1,simprocAttr,Ca,Bm,Cb,results104,Q8];simp +contextual [chk]
theorem Ta {a b:Int} (ha:inB a=true) (hb:inB b=true):Cd.wrap (a+b)=a+b:=by
 rw [Jw] at ha hb; exact Aa aD
theorem Ass (n:Int) (h:i64 n):cL prog 103 [.int n] S tk k=some (.int (absS n),S,tk,k):=by
 refine opP func103 ntmps103 ?_;simp (maxSteps:=10^6)+contextual(disch:=try exact dqd)only[ev1,simprocAttr,Ca,Bm,Cb,results103];simp only [IntKind.wrap_i64,absS,AV.prim.injEq,jC.injEq,Ba,true_and,decide_eq_true_eq,decide_eq_false_iff_not];unfold i64 at h;refine ⟨fun h1=>?_,fun h1=>⟨fun h2=>?_,fun h2=>?_⟩⟩ <;> (split <;> try split) <;> omega
theorem Apo {n:Int} (h:inB n=true):cL prog 103 [.int n] S tk k=some (.int n.natAbs,S,tk,k):=by rw [Ass S tk k n (Apc h),Ar3 h]
theorem Afy {a b:Int} (ha:inB a=true) (hb:inB b=true) (h0:¬ a=0) (v:Int) (hv:v=(a.natAbs:Int)) :
  (decide ((b.natAbs:Int) > Cd.wrap (Int.tdiv 1000000000000 v))=false->Cd.wrap (a*b)=a*b/\inB (a*b)=true)/\(decide ((b.natAbs:Int) > Cd.wrap (Int.tdiv 1000000000000 v))=true->inB (a*b)=false):=by
 subst hv;have hp:0<(a.natAbs:Int):=aA
 have e:Int.tdiv 1000000000000 (a.natAbs:Int)=1000000000000 / (a.natAbs:Int):=Cz aA;have h1:0<=1000000000000 / (a.natAbs:Int):=Int.ediv_nonneg aA aA;have h2:1000000000000 / (a.natAbs:Int)<=1000000000000:=Int.ediv_le_self _ aA;rw [e,Aa aD];rcases Apl a b h0 with ⟨h3,h4,h5,h6⟩|⟨h3,h4⟩
 ·exact ⟨fun _=>⟨Aa aD,h6⟩,fun h=>Za2x⟩
 ·exact ⟨fun h=>Za2x,fun _=>h4⟩
theorem Adj (a b:Int):cL prog 66 [.int a,.int b] S tk k=some (.tup [.int (mulS a b).1,.bool (mulS a b).2],S,tk,k):=by
 refine opP func66 ntmps66 ?_;simp (maxSteps:=10^6)+contextual(disch:=try exact dqd)only[ev1,simprocAttr,Ca,Bm,Cb,results66,Q8,Adk,Apo];refine ⟨fun ha=>⟨fun hb=>⟨fun h0=>?_,fun h0=>⟨fun h1=>?_,fun h1=>?_⟩⟩,fun hb=>?_⟩,fun ha=>?_⟩
 ·simp at h0; subst h0; simp [mulS,chk,hb]; decide
 ·simp at h1; subst h1; simp [mulS,chk,ha]; decide
 ·have h0':¬ a=0:=aV
  obtain ⟨c1,c2⟩:=Afy ha hb h0' _ rfl;refine ⟨aA,fun h=>?_,fun h=>?_⟩
  ·simp [mulS,chk,ha,hb,c2 h]
  ·simp [mulS,chk,ha,hb,(c1 h).1,(c1 h).2]
 ·simp [mulS,chk,hb]
 ·simp [mulS,chk,ha]
theorem Acc (a b:Int):cL prog 108 [.int a,.int b] S tk k=some (.tup [.int (mulS a b).1,.bool (mulS a b).2],S,tk,k):=by
 refine opP func108 ntmps108 ?_;simp (maxSteps:=10^6)+contextual(disch:=try exact dqd)only[ev1,simprocAttr,Ca,Bm,Cb,results108,Aef];have wn:∀ {x:Int},inB x=true->Cd.wrap (0 - x)=0 - x:=fun h=>Aa (by rw [Jw] at h; unfold i64; omega);have comm:∀ x y:Int,mulS x y=mulS y x:=fun x y=>by simp [mulS,Fu,Bool.and_comm]
 refine ⟨fun ha=>⟨fun hb=>⟨fun h0=>?_,fun h0=>⟨fun h1=>?_,fun h1=>?_⟩⟩,fun hb=>?_⟩,fun ha=>?_⟩
 ·simp at h0; subst h0; simp [mulS,chk,hb]; decide
 ·simp at h1; subst h1; simp [mulS,chk,ha]; decide
 ·have h0':¬ a=0:=aV
  have qe:¬ b=0:=aW
  rw [wn ha,wn hb,comm a b];obtain ⟨c1,c2⟩:=Afy hb ha qe _ rfl;rw [Fu] at c1 c2;simp only [decide_eq_true_eq,decide_eq_false_iff_not] at c1 c2 ⊢;have fin1:∀ x y:Int,x=(a.natAbs:Int)->y=(b.natAbs:Int)->¬ y=0/\(x > Cd.wrap (Int.tdiv 1000000000000 y)->0=(mulS b a).1/\false=(mulS b a).2)/\(¬ x > Cd.wrap (Int.tdiv 1000000000000 y)->Cd.wrap (a*b)=(mulS b a).1/\true=(mulS b a).2):=by
   intro x y hx hy;subst hx hy;refine ⟨aA,fun h=>?_,fun h=>?_⟩
   ·rw [Fu] at c2; simp [mulS,chk,ha,hb,c2 h]
   ·rw [Fu] at c1; simp [mulS,chk,ha,hb,(c1 h).2]; rw [Fu]; exact (c1 h).1
  refine ⟨fun pm=>⟨fun hb0=>?_,fun hb0=>?_⟩,fun pm=>⟨fun hb0=>?_,fun hb0=>?_⟩⟩;all_goals exact fin1 _ _ aA aA
 ·simp [mulS,chk,hb]
 ·simp [mulS,chk,ha]
end
end
section
open Go
end
section
open Go
section
variable (S:List Ent) (tk:List Nat) (k:Nat)
theorem K0 {α:Type} : ∀ {l:List α} {i:Nat} {x:α},nth l i=some x->l.take (i+1)=l.take i++[x]
 | y :: l,0,x,h=>dG
 | y :: l,i+1,x,h=>by simp only [Ga,Co,K0 (l:=l) (i:=i) h]
 | [],_,_,h=>bM
end
theorem Wo {n:Int} : ∀ {p:Option ByteArray} {cs:List (ByteArray × Int)},A6 n p cs=0->(∀ c ∈ cs,inB c.2=true/\c.2≠0)/\inB n=true
 | p,[],h=>by
  simp only [A6] at h;refine ⟨by simp,?_⟩;cases hn:inB n with
  | true=>rfl
  | false=>rw [hn] at h; simp at h
 | p,c :: cs,h=>by
  simp only [A6] at h;split at h
  ·simp at h
  ·split at h
   ·simp at h
   ·rename_i h1;split at h
    ·simp at h
    ·obtain ⟨g1,g2⟩:=Wo h;refine ⟨fun d hd=>?_,g2⟩;rcases C4.1 hd with rfl|hd
     ·simp at h1; exact ⟨h1.2,h1.1⟩
     ·exact g1 d hd
theorem G7 {cs:List (ByteArray × Int)} {n:Int} (h:A1 cs n=0):(∀ c ∈ cs,inB c.2=true/\c.2≠0)/\inB n=true/\cs.length<=24:=by
 unfold A1 at h;split at h
 ·simp at h
 ·obtain ⟨h1,h2⟩:=Wo h;exact ⟨h1,h2,aA⟩
end
section
open Go Go.Proofs.Tryz
set_option maxHeartbeats 4000000
set_option maxRecDepth 100000
def E3:List (ByteArray × Int)->List (ByteArray × Int)->List (ByteArray × Int)
 | [],b=>b
 | x :: a,[]=>x :: a
 | x :: a,y :: b=>if sLt x.1 y.1 then x :: E3 a (y :: b) else if sLt y.1 x.1 then y :: E3 (x :: a) b else if x.2+y.2=0 then E3 a b else (x.1,x.2+y.2) :: E3 a b
termination_by a b=>a.length+b.length
theorem Mx (b:List (ByteArray × Int)):E3 [] b=b:=by rw [E3]
theorem Hn (a:List (ByteArray × Int)):E3 a []=a:=by cases a <;> rw [E3]
def G3 (cs:List (ByteArray × Int)) (n:Int):(List (ByteArray × Int) × Int) × Bool:=if A1 cs n=0 then ((cs,n),true) else (([],0),false)
def addL (a:List (ByteArray × Int)) (n:Int) (b:List (ByteArray × Int)) (m:Int):(List (ByteArray × Int) × Int) × Bool:=if A1 a n=0/\A1 b m=0 then G3 (E3 a b) (n+m) else (([],0),false)
section
variable (S:List Ent) (tk:List Nat) (k:Nat)
theorem Abc (cs:List (ByteArray × Int)) (n:Int) (c:Cap) (hlen:cs.length<=1048576):cL prog 107 [.agg [.frz (cs.map Ao) c,.int n]] S tk k=some (.tup [linA (G3 cs n).1.1 (G3 cs n).1.2,.bool (G3 cs n).2],S,tk,k):=by
 have hC S tk k:=G2 S tk k cs n hlen;simp only [linA,Ag] at hC;refine opP func107 ntmps107 ?_;by_cases h0:A1 cs n=0
 ·have d0:(A1 cs n != 0)=false:=cX
  exact Ya1b
 ·have d0:(A1 cs n != 0)=true:=aV
  exact Ya1b
theorem Ahq (a b:List (ByteArray × Int)) (n m:Int) (ha:a.length<=100000) (hb:b.length<=100000):cL prog 72 [linA a n,linA b m] S tk k=some (.tup [linA (addL a n b m).1.1 (addL a n b m).1.2,.bool (addL a n b m).2],S,tk,k):=by
 have zp S tk k:=G2 S tk k a n aA;have hCb S tk k:=G2 S tk k b m aA;simp only [linA,Ag] at zp hCb;refine opP func72 ntmps72 ?_;by_cases ea:A1 a n=0;case neg =>
  have da:(A1 a n != 0)=true:=by simpa using ea
  simp (maxSteps:=10^6)+contextual(disch:=try exact dqd)only[ev1,simprocAttr,Ca,Bm,Cb,results72,linA,Ag,zp,da]
  simp [addL,ea]
 have da:(A1 a n != 0)=false:=by simp [ea]
 by_cases eb:A1 b m=0;case neg =>
  have db:(A1 b m != 0)=true:=by simpa using eb
  simp (maxSteps:=10^6)+contextual(disch:=try exact dqd)only[ev1,simprocAttr,Ca,Bm,Cb,results72,linA,Ag,zp,da,hCb,db]
  simp [addL,eb]
 have db:(A1 b m != 0)=false:=by simp [eb]
 have hw:=Ta (G7 ea).2.1 (G7 eb).2.1;simp (maxSteps:=10^6)+contextual(disch:=try exact dqd)only[ev1,simprocAttr,Ca,Bm,Cb,results72,linA,Ag,zp,da,hCb,db,hw];have hba:=(G7 ea).1;have td:=(G7 eb).1;have o9:addL a n b m=G3 (E3 a b) (n+m):=by simp [addL,ea,eb]
 rw [o9];clear o9 zp hCb da db hw;refine loop1 (P:=prog) (fun x st=>st.T.length=146/\(x.1<=a.length)/\(x.2.1<=b.length)/\(x.2.2.1.length<=x.1+x.2.1)/\(Be st.tk x.2.2.2 2=true)/\(E3 a b=x.2.2.1++E3 (a.drop x.1) (b.drop x.2.1))/\getT st.T 2=.ref 0 0 0/\getT st.T 3=.ref 1 1 0/\getT st.T 4=.ref 2 2 0/\getT st.T 6=.ref 3 3 0/\getT st.T 7=.int (x.1:Nat)/\getT st.T 8=.int (x.2.1:Nat)/\st.S=[⟨0,[Ag a,.int n]⟩,⟨1,[Ag b,.int m]⟩,⟨2,[.frz [] .nilc,.int 0]⟩,⟨3,[.frz (x.2.2.1.map Ao) x.2.2.2,.int (n+m)]⟩]) (fun x=>a.length - x.1+(b.length - x.2.1)) (fun x=>.tup [linA (G3 (E3 a b) (n+m)).1.1 (G3 (E3 a b) (n+m)).1.2,.bool (G3 (E3 a b) (n+m)).2]) (0,0,[],.nilc) ?_ ?_;case refine_2=>exact ⟨rfl,Cl _,Cl _,Ce _,rfl,rfl,rfl,rfl,rfl,rfl,rfl,rfl,rfl⟩
 rintro ⟨i,j,o,c⟩ ⟨T,S',tk',n'⟩ ⟨hl,hi,hj,ho,ab,hm,e2,e3,e4,e6,e7,e8,eS⟩ IH;simp only at hi hj ho ab hm e2 e3 e4 e6 e7 e8 eS;subst eS;obtain ⟨g,hg,hT⟩:=Ar hl;rw [hg] at e2 e3 e4 e6 e7 e8;subst hT;clear hg hl;have hr:=Dq (f:=Ao) (sz:=2) (fun _=>rfl) o;have hn:(o.map Ao).length+1<=1048576:=aC
 have am:=Bi ab;by_cases la:i<a.length
 ·have d1:decide ((i:Int)<(a.length:Int))=true:=aY
  have d1':((i:Int) == (a.length:Int))=false:=aC
  obtain ⟨x,hx⟩:=Ac la;have hx':nth (a.map Ao) i=some (Ao x):=eP
  have tm:=A4 (i:=i) aA;rw [Aw hx] at hm;by_cases lb:j<b.length
  ·have d2:decide ((j:Int)<(b.length:Int))=true:=cA
   have d2':((j:Int) == (b.length:Int))=false:=aC
   obtain ⟨y,hy⟩:=Ac lb;have f9:nth (b.map Ao) j=some (Ao y):=gF
   have di:=A4 (i:=j) aA;have hxm:x ∈ a:=dY
   have hym:y ∈ b:=Za1w
   have hws:=Ta (hba x hxm).1 (td y hym).1;rw [Aw hy,E3] at hm;simp (maxSteps:=10^6)+contextual(disch:=try exact dqd)only[ev1,simprocAttr,Ca,Bm,Cb,results72,e2,e3,e4,e6,e7,e8,d1,d1',d2,d2',Ag,hx',f9,tm,di,hws,Ao,hr];exact Yae
  ·have d2:decide ((j:Int)<(b.length:Int))=false:=cA
   have lz:j=b.length:=aA
   have d2':((j:Int) == (b.length:Int))=true:=aC
   rw [lz,Fi,Hn] at hm;simp (maxSteps:=10^6)+contextual(disch:=try exact dqd)only[ev1,simprocAttr,Ca,Bm,Cb,results72,e2,e3,e4,e6,e7,e8,d1,d1',d2,d2',Ag,hx',tm,Ao,hr];exact Ya2s
 ·have d1:decide ((i:Int)<(a.length:Int))=false:=aY
  have vn:i=a.length:=aA
  have d1':((i:Int) == (a.length:Int))=true:=aC
  rw [vn,Fi,Mx] at hm;by_cases lb:j<b.length
  ·have d2:decide ((j:Int)<(b.length:Int))=true:=cA
   have d2':((j:Int) == (b.length:Int))=false:=aC
   obtain ⟨y,hy⟩:=Ac lb;have f9:nth (b.map Ao) j=some (Ao y):=gF
   have di:=A4 (i:=j) aA;rw [Aw hy] at hm;simp (maxSteps:=10^6)+contextual(disch:=try exact dqd)only[ev1,simprocAttr,Ca,Bm,Cb,results72,e2,e3,e4,e6,e7,e8,d1,d1',d2,d2',Ag,f9,di,Ao,hr];exact Ya2t
  ·have d2:decide ((j:Int)<(b.length:Int))=false:=cA
   have lz:j=b.length:=aA
   rw [lz,Fi,Fo] at hm;have hR S tk k:=Abc S tk k o (n+m) c aA;simp (maxSteps:=10^6)+contextual(disch:=try exact dqd)only[ev1,simprocAttr,Ca,Bm,Cb,results72,e2,e3,e4,e6,e7,e8,d1,d2,Ag,linA,hR];rw [hm];simp [linA,Ag]
end
end
section
open Go Go.Proofs.Tryz
set_option maxHeartbeats 4000000
set_option maxRecDepth 100000
section
variable (S:List Ent) (tk:List Nat) (k:Nat)
theorem Ai4 (cs:List (ByteArray × Int)) (n:Int) (c:Cap) (hlen:cs.length<=1048576):cL prog 109 [.agg [.frz (cs.map Ao) c,.int n]] S tk k=some (.tup [linA (G3 cs n).1.1 (G3 cs n).1.2,.bool (G3 cs n).2],S,tk,k):=by
 have hC S tk k:=Kb S tk k cs n hlen;have hr:=Dq (f:=Ao) (sz:=2) (fun _=>rfl) cs;have hl:([]:List (List AV)).length+(cs.map Ao).length<=1048576:=aC
 simp only [linA,Ag] at hC;refine opP func109 ntmps109 ?_;by_cases h0:A1 cs n=0
 ·have d0:(A1 cs n != 0)=false:=cX
  simp (maxSteps:=10^6)+contextual(disch:=try exact dqd)only[ev1,simprocAttr,Ca,Bm,Cb,results109,hC,d0,Mv,hr];simp [G3,h0,linA,Ag]
 ·have d0:(A1 cs n != 0)=true:=aV
  simp (maxSteps:=10^6)+contextual(disch:=try exact dqd)only[ev1,simprocAttr,Ca,Bm,Cb,results109,hC,d0];simp [G3,h0,linA,Ag]
theorem Arn (a b:List (ByteArray × Int)) (n m:Int) (ha:a.length<=100000) (hb:b.length<=100000):cL prog 75 [linA a n,linA b m] S tk k=some (.tup [linA (addL a n b m).1.1 (addL a n b m).1.2,.bool (addL a n b m).2],S,tk,k):=by
 have zp S tk k:=Kb S tk k a n aA;have hCb S tk k:=Kb S tk k b m aA;simp only [linA,Ag] at zp hCb;refine opP func75 ntmps75 ?_;by_cases ea:A1 a n=0;case neg =>
  have da:(A1 a n != 0)=true:=by simpa using ea
  simp (maxSteps:=10^6)+contextual(disch:=try exact dqd)only[ev1,simprocAttr,Ca,Bm,Cb,results75,linA,Ag,zp,da]
  simp [addL,ea]
 have da:(A1 a n != 0)=false:=by simp [ea]
 by_cases eb:A1 b m=0;case neg =>
  have db:(A1 b m != 0)=true:=by simpa using eb
  simp (maxSteps:=10^6)+contextual(disch:=try exact dqd)only[ev1,simprocAttr,Ca,Bm,Cb,results75,linA,Ag,zp,da,hCb,db]
  simp [addL,eb]
 have db:(A1 b m != 0)=false:=by simp [eb]
 have hw:=Ta (G7 ea).2.1 (G7 eb).2.1;simp (maxSteps:=10^6)+contextual(disch:=try exact dqd)only[ev1,simprocAttr,Ca,Bm,Cb,results75,linA,Ag,zp,da,hCb,db,hw];have hba:=(G7 ea).1;have td:=(G7 eb).1;have o9:addL a n b m=G3 (E3 a b) (n+m):=by simp [addL,ea,eb]
 rw [o9];clear o9 zp hCb da db hw;refine loop1 (P:=prog) (fun x st=>st.T.length=146/\(x.1<=a.length)/\(x.2.1<=b.length)/\(x.2.2.1.length<=x.1+x.2.1)/\(Be st.tk x.2.2.2 2=true)/\(E3 a b=x.2.2.1++E3 (a.drop x.1) (b.drop x.2.1))/\getT st.T 2=.ref 0 0 0/\getT st.T 3=.ref 1 1 0/\getT st.T 4=.ref 2 2 0/\getT st.T 6=.ref 3 3 0/\getT st.T 7=.int (x.1:Nat)/\getT st.T 8=.int (x.2.1:Nat)/\st.S=[⟨0,[Ag a,.int n]⟩,⟨1,[Ag b,.int m]⟩,⟨2,[.frz [] .nilc,.int 0]⟩,⟨3,[.frz (x.2.2.1.map Ao) x.2.2.2,.int (n+m)]⟩]) (fun x=>a.length - x.1+(b.length - x.2.1)) (fun x=>.tup [linA (G3 (E3 a b) (n+m)).1.1 (G3 (E3 a b) (n+m)).1.2,.bool (G3 (E3 a b) (n+m)).2]) (0,0,[],.nilc) ?_ ?_;case refine_2=>exact ⟨rfl,Cl _,Cl _,Ce _,rfl,rfl,rfl,rfl,rfl,rfl,rfl,rfl,rfl⟩
 rintro ⟨i,j,o,c⟩ ⟨T,S',tk',n'⟩ ⟨hl,hi,hj,ho,ab,hm,e2,e3,e4,e6,e7,e8,eS⟩ IH;simp only at hi hj ho ab hm e2 e3 e4 e6 e7 e8 eS;subst eS;obtain ⟨g,hg,hT⟩:=Ar hl;rw [hg] at e2 e3 e4 e6 e7 e8;subst hT;clear hg hl;have hr:=Dq (f:=Ao) (sz:=2) (fun _=>rfl) o;have hn:(o.map Ao).length+1<=1048576:=aC
 have am:=Bi ab;by_cases la:i<a.length
 ·have d1:decide ((i:Int)<(a.length:Int))=true:=aY
  have d1':((i:Int) == (a.length:Int))=false:=aC
  obtain ⟨x,hx⟩:=Ac la;have hx':nth (a.map Ao) i=some (Ao x):=eP
  have tm:=A4 (i:=i) aA;rw [Aw hx] at hm;by_cases lb:j<b.length
  ·have d2:decide ((j:Int)<(b.length:Int))=true:=cA
   have d2':((j:Int) == (b.length:Int))=false:=aC
   obtain ⟨y,hy⟩:=Ac lb;have f9:nth (b.map Ao) j=some (Ao y):=gF
   have di:=A4 (i:=j) aA;have hxm:x ∈ a:=dY
   have hym:y ∈ b:=Za1w
   have hws:=Ta (hba x hxm).1 (td y hym).1;rw [Aw hy,E3] at hm;simp (maxSteps:=10^6)+contextual(disch:=try exact dqd)only[ev1,simprocAttr,Ca,Bm,Cb,results75,e2,e3,e4,e6,e7,e8,d1,d1',d2,d2',Ag,hx',f9,tm,di,hws,Ao,hr];exact Yae
  ·have d2:decide ((j:Int)<(b.length:Int))=false:=cA
   have lz:j=b.length:=aA
   have d2':((j:Int) == (b.length:Int))=true:=aC
   rw [lz,Fi,Hn] at hm;simp (maxSteps:=10^6)+contextual(disch:=try exact dqd)only[ev1,simprocAttr,Ca,Bm,Cb,results75,e2,e3,e4,e6,e7,e8,d1,d1',d2,d2',Ag,hx',tm,Ao,hr];exact Ya2s
 ·have d1:decide ((i:Int)<(a.length:Int))=false:=aY
  have vn:i=a.length:=aA
  have d1':((i:Int) == (a.length:Int))=true:=aC
  rw [vn,Fi,Mx] at hm;by_cases lb:j<b.length
  ·have d2:decide ((j:Int)<(b.length:Int))=true:=cA
   have d2':((j:Int) == (b.length:Int))=false:=aC
   obtain ⟨y,hy⟩:=Ac lb;have f9:nth (b.map Ao) j=some (Ao y):=gF
   have di:=A4 (i:=j) aA;rw [Aw hy] at hm;simp (maxSteps:=10^6)+contextual(disch:=try exact dqd)only[ev1,simprocAttr,Ca,Bm,Cb,results75,e2,e3,e4,e6,e7,e8,d1,d1',d2,d2',Ag,f9,di,Ao,hr];exact Ya2t
  ·have d2:decide ((j:Int)<(b.length:Int))=false:=cA
   have lz:j=b.length:=aA
   rw [lz,Fi,Fo] at hm;have hR S tk k:=Ai4 S tk k o (n+m) c aA;simp (maxSteps:=10^6)+contextual(disch:=try exact dqd)only[ev1,simprocAttr,Ca,Bm,Cb,results75,e2,e3,e4,e6,e7,e8,d1,d2,Ag,linA,hR];rw [hm];simp [linA,Ag]
def mulC (q:Int) (c:ByteArray × Int):ByteArray × Int:=(c.1,(mulS c.2 q).1)
def Ea (cs:List (ByteArray × Int)) (n q:Int):(List (ByteArray × Int) × Int) × Bool :=
 if A1 cs n=0 then
  if q=0 then (([],0),true)
  else if inB q=true then (if (mulS n q).2=true/\(cs.all fun c=>(mulS c.2 q).2)=true then ((cs.map (mulC q),(mulS n q).1),true) else (([],0),false))
  else (([],0),decide (cs=[]) && (n == 0))
 else (([],0),false)
theorem Ap3 (q:Int) (c:ByteArray × Int) (id ep:Nat) (h:entAt S id ep=some [.int q]):cL prog 106 [.agg (Ao c),.ref id ep 0] S tk k=some (.tup [.agg (Ao (mulC q c)),.bool (mulS c.2 q).2],S,tk,k+2):=by
 refine opS func106 ntmps106 ?_;simp (maxSteps:=10^6)+contextual(disch:=try exact dqd)only[evs1,simprocAttr,Ca,Bm,Cb,results106,Ao,h,Adj,mulC]
def Nn (q:Int):List (ByteArray × Int)->List (ByteArray × Int)->Cap->List Nat->Nat->AV × List Nat × Nat
 | [],acc,c,tk,n=>(.tup [.frz (acc.map Ao) c,.bool true],tk,n)
 | x :: r,acc,c,tk,n=>if (mulS x.2 q).2=true then Nn q r (acc++[mulC q x]) (Az tk c 2) (En tk c) (n+4) else (.tup [.frz [] .nilc,.bool false],tk,n+4)
theorem Ae9 (q:Int):∀ (l acc:List (ByteArray × Int)) (c:Cap) (tk:List Nat) (n:Nat),(l.all fun c=>(mulS c.2 q).2)=true->∃ c' tk' n',Nn q l acc c tk n=(.tup [.frz ((acc++l.map (mulC q)).map Ao) c',.bool true],tk',n')
 | [],acc,c,tk,n,_=>⟨c,tk,n,by simp [Nn]⟩
 | x :: r,acc,c,tk,n,h=>by
  simp only [Ox,Ch] at h;obtain ⟨c',tk',n',e⟩:=Ae9 q r (acc++[mulC q x]) (Az tk c 2) (En tk c) (n+4) h.2;exact ⟨c',tk',n',by rw [Nn,if_pos h.1,e]; simp⟩
theorem Ae8 (q:Int):∀ (l acc:List (ByteArray × Int)) (c:Cap) (tk:List Nat) (n:Nat),(l.all fun c=>(mulS c.2 q).2)=false->∃ tk' n',Nn q l acc c tk n=(.tup [.frz [] .nilc,.bool false],tk',n')
 | [],acc,c,tk,n,h=>aO
 | x :: r,acc,c,tk,n,h=>by
  rw [Nn];by_cases hx:(mulS x.2 q).2=true
  ·rw [if_pos hx];exact Ae8 q r _ _ _ _ (by simpa [hx] using h)
  ·rw [if_neg hx]; exact ⟨_,_,rfl⟩
theorem Ahe (q:Int) (cs:List (ByteArray × Int)) (id ep:Nat) (hlen:cs.length<=1048576) (h:entAt S id ep=some [.int q]) :
  cL prog 101 [Ag cs,.fn 106 [.ref id ep 0]] S tk k=some ((Nn q cs [] .nilc tk k).1,S,(Nn q cs [] .nilc tk k).2.1,(Nn q cs [] .nilc tk k).2.2):=by
 refine opS func101 ntmps101 ?_;simp (maxSteps:=10^6)+contextual(disch:=try exact dqd)only[evs1,simprocAttr,Ca,Bm,Cb,results101,Ag];refine Ada (P:=prog) (fun x st=>st.T.length=31/\(x.1<=cs.length)/\(x.2.1.length<=x.1)/\(Be x.2.2.2.1 x.2.2.1 2=true)/\getT st.T 1=.fn 106 [.ref id ep 0]/\getT st.T 6=.frz (x.2.1.map Ao) x.2.2.1/\getT st.T 11=Ag cs/\getT st.T 12=.int cs.length/\getT st.T 13=.int (x.1:Nat)/\st.S=S/\st.tk=x.2.2.2.1/\st.n=x.2.2.2.2) (fun x=>cs.length - x.1) (fun x=>((Nn q (cs.drop x.1) x.2.1 x.2.2.1 x.2.2.2.1 x.2.2.2.2).1,S,(Nn q (cs.drop x.1) x.2.1 x.2.2.1 x.2.2.2.1 x.2.2.2.2).2.1,(Nn q (cs.drop x.1) x.2.1 x.2.2.1 x.2.2.2.1 x.2.2.2.2).2.2)) (0,[],.nilc,tk,k) ?_ ?_;case refine_2=>exact ⟨rfl,Cl _,Ce _,rfl,rfl,rfl,rfl,rfl,rfl,rfl,rfl,rfl⟩
 rintro ⟨i,o,c,t,m⟩ ⟨T,S',tk',n'⟩ ⟨hl,hi,ho,ab,e1,e6,e11,e12,e13,eS,eT,eN⟩ IH;simp only at hi ho ab e1 e6 e11 e12 e13 eS eT eN;subst eS eT eN;obtain ⟨g,hg,hT⟩:=Ar hl;rw [hg] at e1 e6 e11 e12 e13;subst hT;clear hg hl;by_cases hlt:i<cs.length
 ·have d1:decide ((i:Int)<(cs.length:Int))=true:=aN
  obtain ⟨x,hc⟩:=Ac hlt;have ew:nth (cs.map Ao) i=some (Ao x):=gE
  have hw:=A4 (i:=i) aA;have hf e tk k:=Ap3 (S'++[e]) tk k q x id ep (Ll h);have hr:=Dq (f:=Ao) (sz:=2) (fun _=>rfl) o;have hn:(o.map Ao).length+1<=1048576:=aC
  have am:=Bi ab;simp only [Ao] at hf ew;rw [Aw hc];by_cases hx:(mulS x.2 q).2=true
  ·rw [Nn,if_pos hx];simp (maxSteps:=10^6)+contextual(disch:=try exact dqd)only[evs1,simprocAttr,Ca,Bm,Cb,results101,e1,e6,e11,e12,e13,d1,Ag,ew,hw,hf,Ao,hx];exact IH (i+1,o++[mulC q x],Az tk' c 2,En tk' c,n'+4) _ aF ⟨rfl,hlt,aC,am,by and_intros <;> first|rfl|simp only [getT,Fk,Cn,Cs,Ao,Ag]⟩
  ·rw [Nn,if_neg hx];have hx':(mulS x.2 q).2=false:=dA
   simp (maxSteps:=10^6)+contextual(disch:=try exact dqd)only[evs1,simprocAttr,Ca,Bm,Cb,results101,e1,e6,e11,e12,e13,d1,Ag,ew,hw,hf,Ao,hx']
 ·have d1:decide ((i:Int)<(cs.length:Int))=false:=aN
  have he:i=cs.length:=aA
  simp (maxSteps:=10^6)+contextual(disch:=try exact dqd)only[evs1,simprocAttr,Ca,Bm,Cb,results101,e1,e6,e11,e12,e13,d1,Ag];rw [he,Fi]; simp [Nn]
end
end
section
open Go Go.Proofs.Tryz
set_option maxRecDepth 100000
section
variable (S:List Ent) (tk:List Nat) (k:Nat)
theorem Al2 {a b:Int} (h:inB b=false):mulS a b=(0,false):=by simp [mulS,chk,h]
theorem Abb (cs:List (ByteArray × Int)) (n q:Int) (hlen:cs.length<=1048576):cL prog 71 [linA cs n,.int q] S tk k=some (.tup [linA (Ea cs n q).1.1 (Ea cs n q).1.2,.bool (Ea cs n q).2],S,tk,k):=by
 have hC S tk k:=G2 S tk k cs n hlen;simp only [linA,Ag] at hC;refine opP func71 ntmps71 ?_;by_cases h0:A1 cs n=0;case neg =>
  have d0:(A1 cs n != 0)=true:=aV
  simp (maxSteps:=10^6)+contextual(disch:=try exact dqd)only[ev1,simprocAttr,Ca,Bm,Cb,results71,linA,Ag,hC,d0]
  simp [Ea,h0]
 have d0:(A1 cs n != 0)=false:=cX
 by_cases hq:q=0
 ·have d1:(q == 0)=true:=gV
  simp (maxSteps:=10^6)+contextual(disch:=try exact dqd)only[ev1,simprocAttr,Ca,Bm,Cb,results71,linA,Ag,hC,d0,d1];simp [Ea,h0,hq]
 have d1:(q == 0)=false:=gV
 cases hb:inB q with
 | false =>
  by_cases ig:cs=[]
  ·subst ig;have hz:(((0:Nat):Int) == 0)=true:=rfl;simp only [Cs] at hC;simp (maxSteps:=10^6)+contextual(disch:=try exact dqd)only[ev1,simprocAttr,Ca,Bm,Cb,results71,linA,Ag,hC,d0,d1,hb,Q8,Cs,hz];simp [Ea,h0,hq,hb]
  ·have hz:((cs.length:Int) == 0)=false:=by
    have:cs.length≠0:=fun h=>ig (Cw.1 h);simp; omega
   simp (maxSteps:=10^6)+contextual(disch:=try exact dqd)only[ev1,simprocAttr,Ca,Bm,Cb,results71,linA,Ag,hC,d0,d1,hb,Q8,hz];simp [Ea,h0,hq,hb,ig]
 | true =>
  have hE tk k:=Ahe [⟨0,[Ag cs,.int n]⟩,⟨1,[.int q]⟩,⟨2,[.frz [] .nilc,.int 0]⟩] tk k q cs 1 1 hlen rfl;simp only [Ag] at hE;cases bj:cs.all fun c=>(mulS c.2 q).2 with
  | true =>
   obtain ⟨c',tk',n',e⟩:=Ae9 q cs [] .nilc [] 3 bj;simp only [Cr] at e;have hE':=hE [] 3;rw [e] at hE';simp (maxSteps:=10^6)+contextual(disch:=try exact dqd)only[ev1,simprocAttr,Ca,Bm,Cb,results71,linA,Ag,hC,d0,d1,hb,Q8,Adj,hE',Lk];exact Ya2v
  | false =>
   obtain ⟨tk',n',e⟩:=Ae8 q cs [] .nilc [] 3 bj;have hE':=hE [] 3;rw [e] at hE';have hs:Ea cs n q=(([],0),false):=by simp [Ea,h0,hq,hb,bj]
   rw [hs];simp (maxSteps:=10^6)+contextual(disch:=try exact dqd)only[ev1,simprocAttr,Ca,Bm,Cb,results71,linA,Ag,hC,d0,d1,hb,Q8,Adj,hE',Lk];exact ⟨fun _=>trivial,fun _=>trivial⟩
theorem Ai3 (cs:List (ByteArray × Int)) (n q:Int) (hlen:cs.length<=1000000):cL prog 74 [linA cs n,.int q] S tk k=some (.tup [linA (Ea cs n q).1.1 (Ea cs n q).1.2,.bool (Ea cs n q).2],S,tk,k):=by
 have hC S tk k:=Kb S tk k cs n aA;simp only [linA,Ag] at hC;refine opP func74 ntmps74 ?_;by_cases h0:A1 cs n=0;case neg =>
  have d0:(A1 cs n != 0)=true:=aV
  simp (maxSteps:=10^6)+contextual(disch:=try exact dqd)only[ev1,simprocAttr,Ca,Bm,Cb,results74,linA,Ag,hC,d0]
  simp [Ea,h0]
 have d0:(A1 cs n != 0)=false:=cX
 by_cases hq:q=0
 ·have d1:(q == 0)=true:=gV
  simp (maxSteps:=10^6)+contextual(disch:=try exact dqd)only[ev1,simprocAttr,Ca,Bm,Cb,results74,linA,Ag,hC,d0,d1];simp [Ea,h0,hq]
 have d1:(q == 0)=false:=gV
 simp (maxSteps:=10^6)+contextual(disch:=try exact dqd)only[ev1,simprocAttr,Ca,Bm,Cb,results74,linA,Ag,hC,d0,d1];refine loop1 (P:=prog) (fun x st=>st.T.length=70/\(x.1<=cs.length)/\(Be st.tk x.2 2=true)/\(((cs.take x.1).all fun y=>(mulS y.2 q).2)=true)/\getT st.T 1=.int q/\getT st.T 2=.ref 0 0 0/\getT st.T 4=.ref 1 1 0/\getT st.T 6=.ref 2 2 0/\getT st.T 7=.int (x.1:Nat)/\st.S=[⟨0,[Ag cs,.int n]⟩,⟨1,[.frz [] .nilc,.int 0]⟩,⟨2,[.frz (((cs.take x.1).map (mulC q)).map Ao) x.2,.int 0]⟩]) (fun x=>cs.length - x.1) (fun x=>.tup [linA (Ea cs n q).1.1 (Ea cs n q).1.2,.bool (Ea cs n q).2]) (0,.nilc) ?_ ?_;case refine_2=>exact ⟨rfl,Cl _,rfl,rfl,rfl,rfl,rfl,rfl,rfl,rfl⟩
 rintro ⟨i,c⟩ ⟨T,S',tk',n'⟩ ⟨hl,hi,ab,bj,e1,e2,e4,e6,e7,eS⟩ IH;simp only at hi ab bj e1 e2 e4 e6 e7 eS;subst eS;obtain ⟨g,hg,hT⟩:=Ar hl;rw [hg] at e1 e2 e4 e6 e7;subst hT;clear hg hl;by_cases hlt:i<cs.length
 ·have d1:decide ((i:Int)<(cs.length:Int))=true:=aN
  obtain ⟨x,hc⟩:=Ac hlt;have ew:nth (cs.map Ao) i=some (Ao x):=gE
  have hw:=A4 (i:=i) aA;have hr:=Dq (f:=Ao) (sz:=2) (fun _=>rfl) ((cs.take i).map (mulC q));have hn:(((cs.take i).map (mulC q)).map Ao).length+1<=1048576:=aC
  have am:=Bi ab;simp only [Ao] at ew;by_cases hx:(mulS x.2 q).2=true
  ·simp (maxSteps:=10^6)+contextual(disch:=try exact dqd)only[ev1,simprocAttr,Ca,Bm,Cb,results74,e1,e2,e4,e6,e7,d1,Ag,ew,hw,Ao,hx,Acc,hr];exact IH (i+1,Az tk' c 2) _ aF ⟨rfl,hlt,am,by rw [K0 hc,List.all_append,bj]; simp [hx],aG,aG,aG,aG,aG,by simp only [K0 hc,Fk,Cn,Cs,Ao,Ag,mulC]⟩
  ·have hx':(mulS x.2 q).2=false:=dA
   have hs:Ea cs n q=(([],0),false):=by
    have ig:cs≠[]:=by rintro rfl; simp at hlt
    have ha:¬ (cs.all fun c=>(mulS c.2 q).2)=true:=fun h=>by
     have:=C9.1 h x (by rw [Af] at hc; exact Il hc);rw [hx'] at this; simp at this
    simp only [Ea,h0,hq,if_true,if_false,ha,and_false,ig];cases inB q <;> simp
   rw [hs];simp (maxSteps:=10^6)+contextual(disch:=try exact dqd)only[ev1,simprocAttr,Ca,Bm,Cb,results74,e1,e2,e4,e6,e7,d1,Ag,ew,hw,Ao,hx',Acc,hr,linA,Cs]
 ·have d1:decide ((i:Int)<(cs.length:Int))=false:=aN
  have he:i=cs.length:=aA
  rw [he,Fb] at bj;by_cases eh:n=0
  ·have d2:(n != 0)=false:=by simp [eh]
   simp (maxSteps:=10^6)+contextual(disch:=try exact dqd)only[ev1,simprocAttr,Ca,Bm,Cb,results74,e1,e2,e4,e6,e7,d1,d2,Ag,linA];rw [he,Fb];subst eh;cases hb:inB q with
   | true =>
    have hm:mulS 0 q=(0,true):=by unfold mulS chk; rw [hb]; simp [inB]
    simp [Ea,h0,hq,hb,bj,hm]
   | false =>
    cases cs with
    | nil=>simp [Ea,h0,hq,hb]
    | cons c cs=>simp [Al2 hb] at bj
  ·have d2:(n != 0)=true:=cH
   simp (maxSteps:=10^6)+contextual(disch:=try exact dqd)only[ev1,simprocAttr,Ca,Bm,Cb,results74,e1,e2,e4,e6,e7,d1,d2,Ag,linA,Acc];rw [he,Fb];cases hb:inB q with
   | true =>
    exact Ya2v
   | false =>
    rw [Al2 hb];simp [Ea,h0,hq,hb,eh]
end
end
section
open Go
theorem Y0 {a b:ByteArray} : sEq a b=true↔a=b:=by
 rw [Nf];constructor
 ·intro h; simpa using h
 ·rintro rfl; simp
theorem Aqb (l:List RowT):Inc (Ee l):=(Kj (Ec l)).1
def oneR (r:RowT) (k:Int):RowT:=(r.1.map (mulC k),r.2.1*k+1,false)
noncomputable def Jt (l:List RowT) (r:RowT) (k:Int):Bool:=inB (r.2.1*k+1) && infB (l++[oneR r k])
noncomputable def Pn (l:List RowT) (r:RowT):Bool:=(A1 r.1 r.2.1 == 0) && (Jt l r (-1) && (!r.2.2 || Jt l r 1))
section
variable {k:Int} (hk:k=1\/k=-1)
include hk
theorem Ald {a:Int} (ha:inB a=true):inB (a*k)=true:=by
 rw [Jw] at ha ⊢;rcases hk with rfl|rfl <;> omega
theorem Adf {a:Int} (ha:inB a=true):mulS a k=(a*k,true):=by
 have h1:=Ald hk ha;have h2:inB k=true:=by rw [Jw]; omega
 simp [mulS,chk,ha,h1,h2]
theorem Aqx {m:Int} (hm:inB m=true) {n:Int} : ∀ {p:Option ByteArray} {cs:List (ByteArray × Int)},A6 n p cs=0->A6 m p (cs.map (mulC k))=0
 | p,[],_=>by simp only [Cs,A6,hm,if_true]
 | p,c :: cs,h=>by
  unfold A6 at h;split at h
  ·cases h
  ·rename_i g1;split at h
   ·cases h
   ·rename_i g2;split at h
    ·cases h
    ·rename_i g3;simp only [Ib,beq_iff_eq,Ih,not_or,Bool.not_eq_false] at g2;have e:mulC k c=(c.1,c.2*k):=by unfold mulC; rw [Adf hk g2.2]
     rw [Cn,e];unfold A6;simp only;rw [if_neg g1,if_neg (by
      rw [Ald hk g2.2];simp only [Gf,Fy,beq_iff_eq];intro e;have:=g2.1;rcases hk with rfl|rfl <;> omega),if_neg g3]
     exact Aqx hm h
theorem Aeu {m:Int} (hm:inB m=true) {cs:List (ByteArray × Int)} {n:Int} (h:A1 cs n=0):A1 (cs.map (mulC k)) m=0:=by
 unfold A1 at h ⊢;rw [Fg];split at h
 ·cases h
 ·rename_i g;rw [if_neg g]; exact Aqx hk hm h
theorem Agl {cs:List (ByteArray × Int)} {n:Int} (h:A1 cs n=0):Ea cs n k=((cs.map (mulC k),n*k),true):=by
 obtain ⟨hb,hn,-⟩:=G7 h;unfold Ea;rw [if_pos h,if_neg aA,if_pos (by rw [Jw]; omega),Adf hk hn,if_pos ⟨rfl,C9.2 fun c hc=>by rw [Adf hk (hb c hc).1]⟩]
theorem Aqp {cs:List (ByteArray × Int)} {n:Int} (h:A1 cs n=0):addL (cs.map (mulC k)) (n*k) [] 1=if inB (n*k+1)=true then ((cs.map (mulC k),n*k+1),true) else (([],0),false):=by
 obtain ⟨hb,hn,-⟩:=G7 h;have h1:A1 [] 1=0:=aP
 unfold addL;rw [if_pos ⟨Aeu hk (Ald hk hn) h,h1⟩,Hn];unfold G3;split
 ·rename_i h2;rw [if_pos (G7 h2).2.1]
 ·rename_i h2;rw [if_neg fun h3=>h2 (Aeu hk h3 h)]
end
end
section
open Go
end
section
open Go
abbrev BigT:=Bool × List Int
def vB (b:BigT):Int:=V b.1 b.2
end
section
open Go
end
section
open Go
structure RatCert (vars:List ByteArray) (l:List RowT) (y:Nat->Rat):Prop where
 zero:∀ k,k<vars.length->(Simp.sum l.length fun i=>y i*((cofI vars (rwA l i).1 k:Int):Rat))=0
 nn:∀ i,i<l.length->(rwA l i).2.2=false->0<=y i
 pos:0<Simp.sum l.length fun i=>y i*(((rwA l i).2.1:Int):Rat)
structure IntCert (vars:List ByteArray) (l:List RowT) (zs:List Int):Prop where
 len:zs.length=l.length
 zero:∀ k,k<vars.length->Simp.isum l.length (fun i=>at_ 0 zs i*cofI vars (rwA l i).1 k)=0
 nn:∀ i,i<l.length->(rwA l i).2.2=false->0<=at_ 0 zs i
 pos:0<Simp.isum l.length fun i=>at_ 0 zs i*(rwA l i).2.1
def Aup:List (ByteArray × Int)->ByteArray->Int
 | [],_=>0
 | c :: cs,s=>if sEq c.1 s=true then c.2 else Aup cs s
def dotN (f:RowT->Int) (l:List RowT) (ms:List BigT):Nat->Int
 | 0=>0
 | i+1=>dotN f l ms i+(match nth l i,nth ms i with|some r,some m=>vB m*f r|_,_=>0)
def constD (l:List RowT) (ms:List BigT) (i:Nat):Int:=dotN (fun r=>r.2.1) l ms i
end
section
open Go
end
section
open Go
end
section
open Go
def dotZ (f:RowT->Int):List RowT->List Int->Int
 | r :: l,z :: zs=>z*f r+dotZ f l zs
 | _,_=>0
structure CertZ (l:List RowT) (zs:List Int):Prop where
 len:zs.length=l.length
 zero:∀ v,dotZ (fun r=>Aup r.1 v) l zs=0
 nn:∀ i,i<l.length->(rwA l i).2.2=false->0<=at_ 0 zs i
 pos:0<dotZ (fun r=>r.2.1) l zs
end
section
open Go
end
section
open Go
end
section
open Go
end
section
open Go
end
section
open Go
end
section
open Go
theorem map_set {g g':ByteArray->Int} {s:ByteArray} (hg:∀ v,v≠s->g' v=g v):∀ {vs:List ByteArray} {q:Nat},Inc vs->nth vs q=some s->(vs.map g).set q (g' s)=vs.map g'
 | [],_,_,h=>bM
 | a :: vs,0,hi,h=>by
  simp only [nth,Ba] at h;subst h;have h1:=Ia.1 hi;simp only [Cn,List.set_cons_zero,iV,true_and];refine Sv fun v hv=>(hg v fun he=>?_).symm;have:=h1.1 v hv;rw [he] at this;exact Ya4a
 | a :: vs,q+1,hi,h=>by
  have h1:=Ia.1 hi;have hs:s ∈ vs:=U9 (i:=q) h;have ha:a≠s:=fun he=>by
   have:=h1.1 s hs;rw [he] at this;exact Ya4a
  simp only [Cn,Sz,hg a ha,map_set hg h1.2 (show nth vs q=some s from h)]
end
section
open Go
end
section
open Go
end
section
open Go
end
section
open Go Go.Proofs.Tryz
set_option maxRecDepth 100000
theorem Ji (l:List RowT):Db 3 (l.map rowC)=true:=Dq (f:=rowC) (sz:=3) (fun _=>rfl) l
def Ah9 (l:List RowT):List AV:=[Au l]
section
variable (S:List Ent) (tk:List Nat) (k:Nat)
theorem Ac5 (ls:List (List RowT)) (h1:ls.length<=1000) (h2:ls.flatten.length<=100000):cL prog 22 [.frz (ls.map Ah9) .unk] S tk k=some (Au ls.flatten,S,tk,k):=by
 refine opP func22 ntmps22 (hp3:=rfl) ?_;simp (maxSteps:=10^6)+contextual(disch:=try exact dqd)only[ev1,simprocAttr,Ca,Bm,Cb,results22];refine loop1 (P:=prog) (fun x st=>st.T.length=17/\(x.1<=ls.length)/\(Be st.tk x.2 3=true)/\getT st.T 3=.frz ((ls.take x.1).flatten.map rowC) x.2/\getT st.T 6=.frz (ls.map Ah9) .unk/\getT st.T 7=.int (ls.length:Nat)/\getT st.T 8=.int (x.1:Nat)/\st.S=[]) (fun x=>ls.length - x.1) (fun x=>Au ls.flatten) (0,.nilc) ?_ ?_;case refine_2=>exact ⟨rfl,Cl _,rfl,rfl,rfl,rfl,rfl,rfl⟩
 rintro ⟨i,c⟩ ⟨T,S',tk',n'⟩ ⟨hl,hi,ab,e3,e6,e7,e8,eS⟩ IH;simp only at hi ab e3 e6 e7 e8 eS;subst eS;obtain ⟨g,hg,hT⟩:=Ar hl;rw [hg] at e3 e6 e7 e8;subst hT;clear hg hl;have dx:=A4 (i:=i) aA;by_cases la:i<ls.length
 ·have d1:decide ((i:Int)<(ls.length:Int))=true:=aY
  obtain ⟨x,hx⟩:=Ac la;have hx':nth (ls.map Ah9) i=some (Ah9 x):=eP
  have vf:=D4 hx;have hfl:(ls.take (i+1)).flatten=(ls.take i).flatten++x:=by rw [vf]; simp
  have hle:(ls.take (i+1)).flatten.length<=ls.flatten.length:=by
   have e:ls.flatten=(ls.take (i+1)).flatten++(ls.drop (i+1)).flatten:=by rw [<- kO,Ir]
   rw [e,Cm]; omega
  rw [hfl,Cm] at hle;have bz:=Ji (ls.take i).flatten;have ae:=Ji x;have am:=Bi ab;have hn:((ls.take i).flatten.map rowC).length+(x.map rowC).length<=1048576:=Za2y
  simp only [Ah9,Au] at hx';simp (maxSteps:=10^6)+contextual(disch:=try exact dqd)only[ev1,simprocAttr,Ca,Bm,Cb,results22,e3,e6,e7,e8,d1,hx',dx,bz,ae];exact IH (i+1,Az tk' c 3) _ aF ⟨rfl,aE,am,dX,dX,dX,dX,dX⟩
 ·have d1:decide ((i:Int)<(ls.length:Int))=false:=aY
  have g9:i=ls.length:=aA
  subst g9;rw [Fb] at e3;simp (maxSteps:=10^6)+contextual(disch:=try exact dqd)only[ev1,simprocAttr,Ca,Bm,Cb,results22,e3,e6,e7,e8,d1,Au]
theorem Au0 {A B:List (List AV)} : cL prog 22 [.frz [[.frz A .unk],[.frz B .unk]] .tight] S tk k=cL prog 22 [.frz [[.frz A .unk],[.frz B .unk]] .unk] S tk k:=Aco rfl rfl rfl
theorem add_n {A:List (List AV)} {n:Int} : cL prog 72 [.agg [.frz A .unk,.int n],.agg [.frz [] .nilc,.int 1]] S tk k=cL prog 72 [.agg [.frz A .unk,.int n],.agg [.frz [] .unk,.int 1]] S tk k:=Aco rfl rfl rfl
theorem At9 {A:List (List AV)} {n:Int} : cL prog 75 [.agg [.frz A .unk,.int n],.agg [.frz [] .nilc,.int 1]] S tk k=cL prog 75 [.agg [.frz A .unk,.int n],.agg [.frz [] .unk,.int 1]] S tk k:=Aco rfl rfl rfl
theorem Af0 {l:List RowT} {r:RowT} {q:Int} (h1:l.length<=12) (h2:∀ r ∈ l,r.1.length<=1048576) (h3:r.1.length<=1048576):(l++[oneR r q]).length<=13/\∀ x ∈ l++[oneR r q],x.1.length<=1048576:=by
 refine ⟨aC,fun x hx=>?_⟩;rcases C3.1 hx with hx|hx
 ·exact h2 x hx
 ·rw [F4.1 hx]; simpa [oneR] using h3
theorem Jx (l:List RowT) (r:RowT) (q:Int) (hq:q=1\/q=-1) (h0:A1 r.1 r.2.1=0) (hl:l.length<=12) (b8:∀ r ∈ l,r.1.length<=1048576):cL prog 34 [Au l,linA r.1 r.2.1,.int q] S tk k=some (.bool (Jt l r q),S,tk,k):=by
 have i5:=Kd h0;have hS S tk k:=Abb S tk k r.1 r.2.1 q aA;have hA S tk k:=(add_n S tk k).trans (Ahq S tk k (r.1.map (mulC q)) [] (r.2.1*q) 1 aC (by simp));rw [Agl hq h0] at hS;rw [Aqp hq h0] at hA;obtain ⟨o1,o2⟩:=Af0 (q:=q) hl b8 (show r.1.length<=1048576 by omega);have hJ S tk k:=(Au0 S tk k).trans (Ac5 S tk k [l,[oneR r q]] (by simp) aC);have hF S tk k:=Abw S tk k (l++[oneR r q]) o1 o2;have hc:Jt l r q=(inB (r.2.1*q+1) && ((sysE (l++[oneR r q]) == 0) && !Ud (l++[oneR r q]))):=rfl;rw [hc];simp only [F1,jS,Fo,Au] at hJ;simp only [linA,Ag,Cs] at hS hA;simp only [Au] at hF;cases hb:inB (r.2.1*q+1) with
 | true =>
  rw [hb,if_pos rfl] at hA;simp only [oneR,Cn,Cs,Fk,Ah9,Au,rowC,Ag] at hJ hF ⊢;refine opP func34 ntmps34 (hp3:=rfl) ?_;cases ji:Ud (l++[(r.1.map (mulC q),r.2.1*q+1,false)]) <;> rw [ji] at hF <;>
  simp (maxSteps:=10^6)+contextual(disch:=try exact dqd)only[ev1,simprocAttr,Ca,Bm,Cb,results34,Au,linA,Ag,hS,hA,hJ,hF,Fq,kA,iH,Gf,Hs]
 | false =>
  rw [hb,if_neg (by simp)] at hA;refine opP func34 ntmps34 (hp3:=rfl) ?_;simp (maxSteps:=10^6)+contextual(disch:=try exact dqd)only[ev1,simprocAttr,Ca,Bm,Cb,results34,Au,linA,Ag,hS,hA,Ff]
end
end
section
open Go Go.Proofs.Tryz
set_option maxRecDepth 100000
section
variable (S:List Ent) (tk:List Nat) (k:Nat)
theorem An7 (a b:List RowT) (ha:a.length<=100000) (hb:b.length<=100000):cL prog 77 [Au a,Au b] S tk k=some (Au (a++b),S,tk,k):=by
 have h1 tk:=apB_all (tk:=tk) (c:=.tight) (es:=[]) (ys:=a.map rowC) (sz:=3) rfl rfl (Ji a) aC;have h2 tk:=apB_all (tk:=En tk .tight) (c:=Az tk .tight 3) (es:=a.map rowC) (ys:=b.map rowC) (sz:=3) (Bi rfl) (Ji a) (Ji b) aC;refine opP func77 ntmps77 (hp3:=rfl) ?_;simp (maxSteps:=10^6)+contextual(disch:=try exact dqd)only[ev1,simprocAttr,Ca,Bm,Cb,results77,Au,h1,h2,Cr];simp only [Fk]
theorem V2 (l:List RowT) (hl:l.length<=13) (b8:∀ r ∈ l,r.1.length<=1048576):cL prog 76 [Au l] S tk k=some (.bool (infB l),S,tk,k):=by
 have hF S tk k:=An2 S tk k l hl b8;have hc:infB l=((sysE l == 0) && !Ud l):=rfl;rw [hc];simp only [Au] at hF;refine opP func76 ntmps76 (hp3:=rfl) ?_;cases ji:Ud l <;> rw [ji] at hF <;>
 simp (maxSteps:=10^6)+contextual(disch:=try exact dqd)only[ev1,simprocAttr,Ca,Bm,Cb,results76,Au,hF,kA,iH,Gf,Hs];all_goals exact ⟨fun _=>trivial,fun _=>trivial⟩
theorem Aui {A B:List (List AV)} : cL prog 77 [.frz A .unk,.frz B .tight] S tk k=cL prog 77 [.frz A .unk,.frz B .unk] S tk k:=Aco rfl rfl rfl
theorem Tv (l:List RowT) (r:RowT) (q p:Int) (hq:q=1\/q=-1) (hp:p=-q) (h0:A1 r.1 r.2.1=0) (hl:l.length<=12) (b8:∀ r ∈ l,r.1.length<=1048576):cL prog 36 [Au l,linA r.1 r.2.1,.int p] S tk k=some (.bool (Jt l r q),S,tk,k):=by
 have i5:=Kd h0;have hS S tk k:=Ai3 S tk k r.1 r.2.1 q aA;have hA S tk k:=(At9 S tk k).trans (Arn S tk k (r.1.map (mulC q)) [] (r.2.1*q) 1 aC (by simp));rw [Agl hq h0] at hS;rw [Aqp hq h0] at hA;obtain ⟨o1,o2⟩:=Af0 (q:=q) hl b8 (show r.1.length<=1048576 by omega);have hJ S tk k:=(Aui S tk k).trans (An7 S tk k l [oneR r q] aA (by simp));have hF S tk k:=V2 S tk k (l++[oneR r q]) o1 o2;have hw:Cd.wrap (0 - p)=q:=aS
 have hc:Jt l r q=(inB (r.2.1*q+1) && infB (l++[oneR r q])):=rfl;rw [hc];simp only [Au] at hJ;simp only [linA,Ag,Cs] at hS hA;simp only [Au] at hF;cases hb:inB (r.2.1*q+1) with
 | true =>
  rw [hb,if_pos rfl] at hA;simp only [oneR,Cn,Cs,Fk,rowC,Ag] at hJ hF ⊢;refine opP func36 ntmps36 (hp3:=rfl) ?_;simp (maxSteps:=10^6)+contextual(disch:=try exact dqd)only[ev1,simprocAttr,Ca,Bm,Cb,results36,Au,linA,Ag,hw,hS,hA,hJ,hF,Fq]
 | false =>
  rw [hb,if_neg (by simp)] at hA;refine opP func36 ntmps36 (hp3:=rfl) ?_;simp (maxSteps:=10^6)+contextual(disch:=try exact dqd)only[ev1,simprocAttr,Ca,Bm,Cb,results36,Au,linA,Ag,hw,hS,hA,Ff]
theorem V4 (l:List RowT) (r:RowT) (hl:l.length<=12) (b8:∀ r ∈ l,r.1.length<=1048576) (hr:r.1.length<=1048576):cL prog 13 [Au l,.agg (rowC r)] S tk k=some (.bool (Pn l r),S,tk,k):=by
 have hC S tk k:=G2 S tk k r.1 r.2.1 hr;have hc:Pn l r=((A1 r.1 r.2.1 == 0) && (Jt l r (-1) && (!r.2.2 || Jt l r 1))):=rfl;rw [hc];simp only [linA,Ag] at hC;by_cases h0:A1 r.1 r.2.1=0
 ·have h1 S tk k:=Jx S tk k l r 1 (.inl rfl) h0 hl b8;have h2 S tk k:=Jx S tk k l r (-1) (.inr rfl) h0 hl b8;have c1:(A1 r.1 r.2.1 != 0)=false:=cX
  have c2:(A1 r.1 r.2.1 == 0)=true:=cX
  simp only [linA,Ag,Au] at h1 h2;rw [c2,Fq];refine opP func13 ntmps13 (hp3:=rfl) ?_;cases ha:Jt l r (-1) <;> rw [ha] at h2 <;> cases hb:Jt l r 1 <;> rw [hb] at h1 <;> cases he:r.2.2 <;>
  simp (maxSteps:=10^6)+contextual(disch:=try exact dqd)only[ev1,simprocAttr,Ca,Bm,Cb,results13,Au,rowC,Ag,hC,c1,h1,h2,he,Fq,Ff,Gf,Hs,jI,N2]
 ·have c1:(A1 r.1 r.2.1 != 0)=true:=aV
  have c2:(A1 r.1 r.2.1 == 0)=false:=aV
  rw [c2,Ff];refine opP func13 ntmps13 (hp3:=rfl) ?_;simp (maxSteps:=10^6)+contextual(disch:=try exact dqd)only[ev1,simprocAttr,Ca,Bm,Cb,results13,Au,rowC,Ag,hC,c1]
theorem Acf (l:List RowT) (r:RowT) (hl:l.length<=12) (b8:∀ r ∈ l,r.1.length<=1048576) (hr:r.1.length<=1048576):cL prog 14 [Au l,.agg (rowC r)] S tk k=some (.bool (Pn l r),S,tk,k):=by
 have hC S tk k:=Kb S tk k r.1 r.2.1 hr;have hc:Pn l r=((A1 r.1 r.2.1 == 0) && (Jt l r (-1) && (!r.2.2 || Jt l r 1))):=rfl;rw [hc];simp only [linA,Ag] at hC;by_cases h0:A1 r.1 r.2.1=0
 ·have h1 S tk k:=Tv S tk k l r 1 (-1) (.inl rfl) rfl h0 hl b8;have h2 S tk k:=Tv S tk k l r (-1) 1 (.inr rfl) rfl h0 hl b8;have c1:(A1 r.1 r.2.1 != 0)=false:=cX
  have c2:(A1 r.1 r.2.1 == 0)=true:=cX
  simp only [linA,Ag,Au] at h1 h2;rw [c2,Fq];refine opP func14 ntmps14 (hp3:=rfl) ?_;cases ha:Jt l r (-1) <;> rw [ha] at h2 <;> cases hb:Jt l r 1 <;> rw [hb] at h1 <;> cases he:r.2.2 <;>
  simp (maxSteps:=10^6)+contextual(disch:=try exact dqd)only[ev1,simprocAttr,Ca,Bm,Cb,results14,Au,rowC,Ag,hC,c1,h1,h2,he,Fq,Ff,Gf,Hs,jI,N2]
 ·have c1:(A1 r.1 r.2.1 != 0)=true:=aV
  have c2:(A1 r.1 r.2.1 == 0)=false:=aV
  rw [c2,Ff];refine opP func14 ntmps14 (hp3:=rfl) ?_;simp (maxSteps:=10^6)+contextual(disch:=try exact dqd)only[ev1,simprocAttr,Ca,Bm,Cb,results14,Au,rowC,Ag,hC,c1]
end
end
section
open Go Go.Proofs.Tryz
set_option maxRecDepth 100000
def Lb (l:List RowT):List ByteArray:=if sysE l=0 then Ee l else []
theorem Mb (l:List RowT):(Lb l).length<=24:=by
 unfold Lb;split
 ·rename_i h; exact (L9 h).2.2.1
 ·simp
theorem Anm (l:List RowT):Inc (Lb l):=by
 unfold Lb;split
 ·exact Aqb l
 ·exact List.Pairwise.nil
def ixS (s:ByteArray):List ByteArray->Nat->Int
 | [],_=>-1
 | x :: l,i=>if sEq s x=true then (i:Int) else ixS s l (i+1)
def memS (s:ByteArray) (l:List ByteArray):Bool:=l.any fun x=>sEq s x
theorem Aq4 (s:ByteArray):∀ (l:List ByteArray) (i:Nat),decide (ixS s l i >= 0)=memS s l
 | [],_=>rfl
 | x :: l,i=>by
  unfold ixS memS;rw [List.any_cons];cases h:sEq s x with
  | true=>rw [if_pos rfl]; simp
  | false=>rw [if_neg (by simp),Aq4 s l]; rfl
def Rh (a b:List RowT):List ByteArray:=(Lb a).filter fun s=>memS s (Lb b)
def Ava (s:ByteArray) (l:List ByteArray):List ByteArray:=if memS s l=true then [s] else []
def Wb (s:ByteArray) (l:List ByteArray):List ByteArray:=(l.filter fun x=>sEq s x).map fun _=>s
theorem Abu {s:ByteArray} : ∀ {l:List ByteArray},Inc l->Wb s l=Ava s l
 | [],_=>rfl
 | x :: l,h=>by
  have hp:=Ia.1 h;have ih:=Abu (s:=s) hp.2;unfold Wb Ava memS at *;rw [List.filter_cons,List.any_cons];cases e:sEq s x with
  | false=>rw [if_neg (by simp)]; simpa using ih
  | true =>
   have e2:=Y0.1 e;have se:∀ y ∈ l,¬ sEq s y=true:=fun y hy h'=>by
    have:=hp.1 y hy;rw [<- e2,<- Y0.1 h'] at this;exact Ya4a
   rw [if_pos rfl,List.filter_eq_nil_iff.2 se];simp
theorem Pm {α:Type} {p:α->Bool} {l:List α} {x:α} : (l++[x]).filter p=l.filter p++(if p x=true then [x] else []):=by
 rw [List.filter_append];congr 1;cases h:p x <;> simp [h]
section
variable (S:List Ent) (tk:List Nat) (k:Nat)
theorem Qi (l:List RowT) (b8:∀ r ∈ l,r.1.length<=1048576):cL prog 27 [Au l] S tk k=some (Ap (Lb l),S,tk,k):=by
 unfold Lb;by_cases h:sysE l=0
 ·rw [if_pos h]; exact Abx S tk k l h
 ·have hC S tk k:=H3 S tk k l b8;have d0:(sysE l != 0)=true:=aL
  rw [if_neg h];simp only [Au] at hC;refine opP func27 ntmps27 (hp3:=rfl) ?_;simp (maxSteps:=10^6)+contextual(disch:=try exact dqd)only[ev1,simprocAttr,Ca,Bm,Cb,results27,Au,Ap,Cs,hC,d0]
theorem Zm (l:List RowT) (b8:∀ r ∈ l,r.1.length<=1048576):cL prog 32 [Au l] S tk k=some (Ap (Lb l),S,tk,k):=by
 unfold Lb;by_cases h:sysE l=0
 ·rw [if_pos h]; exact An3 S tk k l h
 ·have hC S tk k:=Ld S tk k l b8;have d0:(sysE l != 0)=true:=aL
  rw [if_neg h];simp only [Au] at hC;refine opP func32 ntmps32 (hp3:=rfl) ?_;simp (maxSteps:=10^6)+contextual(disch:=try exact dqd)only[ev1,simprocAttr,Ca,Bm,Cb,results32,Au,Ap,Cs,hC,d0]
theorem Y3 (l:List ByteArray) (s:ByteArray) (hl:l.length<=1000000):cL prog 68 [Ap l,.str s] S tk k=some (.int (ixS s l 0),S,tk,k):=by
 refine opP func68 ntmps68 (hp3:=rfl) ?_;simp (maxSteps:=10^6)+contextual(disch:=try exact dqd)only[ev1,simprocAttr,Ca,Bm,Cb,results68,Ap];refine loop1 (P:=prog) (fun x st=>st.T.length=19/\(x<=l.length)/\(ixS s l 0=ixS s (l.drop x) x)/\getT st.T 0=Ap l/\getT st.T 1=.str s/\getT st.T 7=.int (l.length:Nat)/\getT st.T 8=.int (x:Nat)/\st.S=[]) (fun x=>l.length - x) (fun x=>.int (ixS s l 0)) (0) ?_ ?_;case refine_2=>exact ⟨rfl,Cl _,rfl,rfl,rfl,rfl,rfl,rfl⟩
 rintro i ⟨T,S',tk',n'⟩ ⟨hl,hi,iw,e0,e1,e7,e8,eS⟩ IH;subst eS;obtain ⟨g,hg,hT⟩:=Ar hl;rw [hg] at e0 e1 e7 e8;subst hT;clear hg hl;have dx:=A4 (i:=i) aA;by_cases la:i<l.length
 ·have d1:decide ((i:Int)<(l.length:Int))=true:=aY
  obtain ⟨x,hx⟩:=Ac la;have hx':=Lr hx;rw [Aw hx,ixS] at iw;cases h:sEq s x with
  | true =>
   rw [if_pos h] at iw;simp (maxSteps:=10^6)+contextual(disch:=try exact dqd)only[ev1,simprocAttr,Ca,Bm,Cb,results68,e0,e1,e7,e8,d1,Ap,strC,hx',h,iw]
  | false =>
   rw [if_neg (by rw [h]; simp)] at iw;simp (maxSteps:=10^6)+contextual(disch:=try exact dqd)only[ev1,simprocAttr,Ca,Bm,Cb,results68,e0,e1,e7,e8,d1,Ap,strC,hx',h,dx];exact IH (i+1) _ aF ⟨rfl,aE,iw,bE,bE,bE,bE,bE⟩
 ·have d1:decide ((i:Int)<(l.length:Int))=false:=aY
  have g9:i=l.length:=aA
  rw [g9,Fi,ixS] at iw;simp (maxSteps:=10^6)+contextual(disch:=try exact dqd)only[ev1,simprocAttr,Ca,Bm,Cb,results68,e0,e1,e7,e8,d1,Ap,iw]
theorem R7 (l:List ByteArray) (s:ByteArray) (hl:l.length<=1000000):cL prog 31 [Ap l,.str s] S tk k=some (.bool (memS s l),S,tk,k):=by
 have hI S tk k:=Y3 S tk k l s hl;have hg:=Aq4 s l 0;simp only [Ap] at hI;refine opP func31 ntmps31 (hp3:=rfl) ?_;simp (maxSteps:=10^6)+contextual(disch:=try exact dqd)only[ev1,simprocAttr,Ca,Bm,Cb,results31,Ap,hI,hg]
theorem Yc (a b:List RowT) (ha:∀ r ∈ a,r.1.length<=1048576) (hb:∀ r ∈ b,r.1.length<=1048576):cL prog 11 [Au a,Au b] S tk k=some (Ap (Rh a b),S,tk,k):=by
 have hA S tk k:=Qi S tk k a ha;have hB S tk k:=Qi S tk k b hb;have f1:=Mb a;have f2:=Mb b;have hs:Rh a b=(Lb a).filter fun s=>memS s (Lb b):=rfl;rw [hs];clear hs;generalize Lb a=u at *;generalize Lb b=w at *;simp only [Au,Ap] at hA hB;refine opP func11 ntmps11 (hp3:=rfl) ?_;simp (maxSteps:=10^6)+contextual(disch:=try exact dqd)only[ev1,simprocAttr,Ca,Bm,Cb,results11,Au,Ap,hA,hB];refine loop1 (P:=prog) (fun x st=>st.T.length=27/\(x.1<=u.length)/\(Be st.tk x.2 1=true)/\getT st.T 5=Ap w/\getT st.T 6=.frz (((u.take x.1).filter fun s=>memS s w).map strC) x.2/\getT st.T 12=Ap u/\getT st.T 13=.int (u.length:Nat)/\getT st.T 14=.int (x.1:Nat)/\st.S=[]) (fun x=>u.length - x.1) (fun x=>Ap (u.filter fun s=>memS s w)) (0,.nilc) ?_ ?_;case refine_2=>exact ⟨rfl,Cl _,rfl,rfl,rfl,rfl,rfl,rfl,rfl⟩
 rintro ⟨i,c⟩ ⟨T,S',tk',n'⟩ ⟨hl,hi,ab,e5,e6,e12,e13,e14,eS⟩ IH;simp only at hi ab e5 e6 e12 e13 e14 eS;subst eS;obtain ⟨g,hg,hT⟩:=Ar hl;rw [hg] at e5 e6 e12 e13 e14;subst hT;clear hg hl;have dx:=A4 (i:=i) aA;by_cases la:i<u.length
 ·have d1:decide ((i:Int)<(u.length:Int))=true:=aY
  obtain ⟨x,hx⟩:=Ac la;have hx':=Lr hx;have hC S tk k:=R7 S tk k w x aA;have vf:=D4 hx;have hle:((u.take i).filter fun s=>memS s w).length<=u.length:=Fp (List.length_filter_le ..) aC;have hr:=Gg ((u.take i).filter fun s=>memS s w);have am:=Bi ab;have hn:((((u.take i).filter fun s=>memS s w)).map strC).length+1<=1048576:=Za2y
  simp only [Ap] at hC;cases hm:memS x w with
  | true =>
   rw [hm] at hC;have he:((u.take (i+1)).filter fun s=>memS s w)=((u.take i).filter fun s=>memS s w)++[x]:=by rw [vf,Pm,hm,if_pos rfl]
   simp (maxSteps:=10^6)+contextual(disch:=try exact dqd)only[ev1,simprocAttr,Ca,Bm,Cb,results11,e5,e6,e12,e13,e14,d1,Ap,hx',hC,dx,hr];exact IH (i+1,Az tk' c 1) _ aF ⟨rfl,aE,am,bD,bD,bD,bD,bD,bD⟩
  | false =>
   rw [hm] at hC;have he:((u.take (i+1)).filter fun s=>memS s w)=((u.take i).filter fun s=>memS s w):=by rw [vf,Pm,hm,if_neg (by simp),Fo]
   simp (maxSteps:=10^6)+contextual(disch:=try exact dqd)only[ev1,simprocAttr,Ca,Bm,Cb,results11,e5,e6,e12,e13,e14,d1,Ap,hx',hC,dx];exact IH (i+1,c) _ aF ⟨rfl,aE,ab,bD,bD,bD,bD,bD,bD⟩
 ·have d1:decide ((i:Int)<(u.length:Int))=false:=aY
  have g9:i=u.length:=aA
  subst g9;rw [Fb] at e6;simp (maxSteps:=10^6)+contextual(disch:=try exact dqd)only[ev1,simprocAttr,Ca,Bm,Cb,results11,e5,e6,e12,e13,e14,d1,Ap]
theorem Ag2 (a b:List RowT) (ha:∀ r ∈ a,r.1.length<=1048576) (hb:∀ r ∈ b,r.1.length<=1048576):cL prog 12 [Au a,Au b] S tk k=some (Ap (Rh a b),S,tk,k):=by
 have hA S tk k:=Zm S tk k a ha;have hB S tk k:=Zm S tk k b hb;have f1:=Mb a;have f2:=Mb b;have f3:=Anm b;have hs:Rh a b=(Lb a).filter fun s=>memS s (Lb b):=rfl;rw [hs];clear hs;generalize Lb a=u at *;generalize Lb b=w at *;simp only [Au,Ap] at hA hB;refine opP func12 ntmps12 (hp3:=rfl) ?_;simp (maxSteps:=10^6)+contextual(disch:=try exact dqd)only[ev1,simprocAttr,Ca,Bm,Cb,results12,Au,Ap,hA,hB];refine loop1 (P:=prog) (fun x st=>st.T.length=43/\(x.1<=u.length)/\(Be st.tk x.2 1=true)/\getT st.T 5=.frz (((u.take x.1).filter fun s=>memS s w).map strC) x.2/\getT st.T 6=Ap u/\getT st.T 7=Ap w/\getT st.T 8=.int (x.1:Nat)/\st.S=[]) (fun x=>u.length - x.1) (fun x=>Ap (u.filter fun s=>memS s w)) (0,.nilc) ?_ ?_;case refine_2=>exact ⟨rfl,Cl _,rfl,rfl,rfl,rfl,rfl,rfl⟩
 rintro ⟨i,c⟩ ⟨T,S',tk',n'⟩ ⟨hl,hi,ab,e5,e6,e7,e8,eS⟩ IH;simp only at hi ab e5 e6 e7 e8 eS;subst eS;obtain ⟨g,hg,hT⟩:=Ar hl;rw [hg] at e5 e6 e7 e8;subst hT;clear hg hl;have OUT:=IH;clear IH;have dx:=A4 (i:=i) aA;by_cases la:i<u.length
 ·have d1:decide ((i:Int)<(u.length:Int))=true:=aY
  obtain ⟨z,hx⟩:=Ac la;have hx':=Lr hx;have vf:=D4 hx;have hle:((u.take i).filter fun s=>memS s w).length<=u.length:=Fp (List.length_filter_le ..) aC;generalize hO:((u.take i).filter fun s=>memS s w)=O at *;simp (maxSteps:=10^6)+contextual(disch:=try exact dqd)only[ev1,simprocAttr,Ca,Bm,Cb,results12,e5,e6,e7,e8,d1,Ap];refine loop1 (P:=prog) (fun x st=>st.T.length=43/\(x.1<=w.length)/\(Be st.tk x.2.2 1=true)/\(x.2.1=O++Wb z (w.take x.1))/\getT st.T 5=.frz (x.2.1.map strC) x.2.2/\getT st.T 6=Ap u/\getT st.T 7=Ap w/\getT st.T 8=.int (i:Nat)/\getT st.T 9=.int (x.1:Nat)/\st.S=[]) (fun x=>w.length - x.1) (fun x=>Ap (u.filter fun s=>memS s w)) (0,O,c) ?_ ?_;case refine_2=>exact ⟨rfl,Cl _,ab,by simp [Wb],rfl,rfl,rfl,rfl,rfl,rfl⟩
  rintro ⟨j,o,c2⟩ ⟨T,S',tk',n'⟩ ⟨hl,hj,dy,ho,e5,e6,e7,e8,e9,eS⟩ IH;simp only at hj dy ho e5 e6 e7 e8 e9 eS;subst eS;obtain ⟨g,hg,hT⟩:=Ar hl;rw [hg] at e5 e6 e7 e8 e9;subst hT;clear hg hl;have s5:=A4 (i:=j) aA;have qp:o.length<=48:=by
   have:(Wb z (w.take j)).length<=w.length:=by
    unfold Wb;rw [Fg];exact Fp (List.length_filter_le ..) aC
   rw [ho,Cm]; omega
  by_cases lb:j<w.length
  ·have d2:decide ((j:Int)<(w.length:Int))=true:=cA
   obtain ⟨y,hy⟩:=Ac lb;have f9:=Lr hy;have hty:=D4 hy;have hr:=Gg o;have am:=Bi dy;have hn:(o.map strC).length+1<=1048576:=Za2y
   cases hm:sEq z y with
   | true =>
    have hq:o++[z]=O++Wb z (w.take (j+1)):=by
     unfold Wb at ho ⊢;rw [hty,Pm,hm,if_pos rfl,Fk,<- Cy,<- ho]; rfl
    simp (maxSteps:=10^6)+contextual(disch:=try exact dqd)only[ev1,simprocAttr,Ca,Bm,Cb,results12,e5,e6,e7,e8,e9,d2,Ap,strC,hx',f9,hm,s5,hr];exact IH (j+1,o++[z],Az tk' c2 1) _ aF ⟨rfl,aE,am,hq,bE,bE,bE,bE,bE,bE⟩
   | false =>
    have hq:o=O++Wb z (w.take (j+1)):=by
     unfold Wb at ho ⊢;rw [hty,Pm,hm,if_neg (by simp),Fo,<- ho]
    simp (maxSteps:=10^6)+contextual(disch:=try exact dqd)only[ev1,simprocAttr,Ca,Bm,Cb,results12,e5,e6,e7,e8,e9,d2,Ap,strC,hx',f9,hm,s5];exact IH (j+1,o,c2) _ aF ⟨rfl,aE,dy,hq,bE,bE,bE,bE,bE,bE⟩
  ·have d2:decide ((j:Int)<(w.length:Int))=false:=cA
   have qo:j=w.length:=aA
   subst qo;have he:o=((u.take (i+1)).filter fun s=>memS s w):=by
    rw [Fb,Abu f3] at ho;rw [vf,Pm,hO,ho]; rfl
   simp (maxSteps:=10^6)+contextual(disch:=try exact dqd)only[ev1,simprocAttr,Ca,Bm,Cb,results12,e5,e6,e7,e8,e9,d2,Ap,dx];exact OUT (i+1,c2) _ aF ⟨rfl,aE,dy,bD,bD,bD,bD,bD⟩
 ·have d1:decide ((i:Int)<(u.length:Int))=false:=aY
  have g9:i=u.length:=aA
  subst g9;rw [Fb] at e5;simp (maxSteps:=10^6)+contextual(disch:=try exact dqd)only[ev1,simprocAttr,Ca,Bm,Cb,results12,e5,e6,e7,e8,d1,Ap]
end
end
section
open Go
end
section
open Go
inductive PT where
 | node (op:Int) (name:ByteArray) (n:Int) (kids:List PT)
def PT.op:PT->Int|.node o _ _ _=>o
def PT.name:PT->ByteArray|.node _ s _ _=>s
def PT.n:PT->Int|.node _ _ n _=>n
end
section
open Go
end
section
open Go
end
section
open Go
end
section
open Go Go.Proofs.Tryz
def Ln (l:List RowT):Bool:=decide (l.length<=6) && l.all fun r=>decide (r.1.length<=6)
theorem Yf {l:List RowT} (h:Ln l=true):l.length<=6/\∀ r ∈ l,r.1.length<=6:=by
 unfold Ln at h;rw [Ch,decide_eq_true_iff,C9] at h;exact ⟨h.1,fun r hr=>by simpa using h.2 r hr⟩
section
variable (S:List Ent) (tk:List Nat) (k:Nat)
theorem Ts (l:List RowT):cL prog 7 [Au l] S tk k=some (.bool (Ln l),S,tk,k):=by
 refine opP func7 ntmps7 (hp3:=rfl) ?_;by_cases h6:l.length<=6;case neg =>
  have d0:decide ((l.length:Int) > 6)=true:=aC
  have hr:Ln l=false:=by unfold Ln; rw [decide_eq_false h6]; rfl
  rw [hr]
  simp (maxSteps:=10^6)+contextual(disch:=try exact dqd)only[ev1,simprocAttr,Ca,Bm,Cb,results7,Au,d0]
 have d0:decide ((l.length:Int) > 6)=false:=aC
 simp (maxSteps:=10^6)+contextual(disch:=try exact dqd)only[ev1,simprocAttr,Ca,Bm,Cb,results7,Au,d0];refine loop1 (P:=prog) (fun x st=>st.T.length=21/\(x<=l.length)/\(Ln l=(l.drop x).all fun r=>decide (r.1.length<=6))/\getT st.T 0=Au l/\getT st.T 3=.int (x:Nat)/\st.S=[]) (fun x=>l.length - x) (fun x=>.bool (Ln l)) (0) ?_ ?_;case refine_2=>exact ⟨rfl,Cl _,by unfold Ln; rw [decide_eq_true h6]; rfl,rfl,rfl,rfl⟩
 rintro i ⟨T,S',tk',n'⟩ ⟨hl,hi,hE,e0,e3,eS⟩ IH;subst eS;obtain ⟨g,hg,hT⟩:=Ar hl;rw [hg] at e0 e3;subst hT;clear hg hl;have dx:=A4 (i:=i) aA;by_cases la:i<l.length
 ·have d1:decide ((i:Int)<(l.length:Int))=true:=aY
  obtain ⟨r,hx⟩:=Ac la;have hx':=Kx hx;rw [Aw hx,Ox] at hE;simp only [rowC,Ag] at hx';by_cases hc:r.1.length<=6
  ·have d2:decide ((r.1.length:Int) > 6)=false:=aC
   rw [decide_eq_true hc,Fq] at hE;simp (maxSteps:=10^6)+contextual(disch:=try exact dqd)only[ev1,simprocAttr,Ca,Bm,Cb,results7,e0,e3,Au,Ag,d1,d2,hx',dx];exact IH (i+1) _ aF ⟨rfl,aE,hE,cY,cY,cY⟩
  ·have d2:decide ((r.1.length:Int) > 6)=true:=aC
   rw [decide_eq_false hc,Ff] at hE;simp (maxSteps:=10^6)+contextual(disch:=try exact dqd)only[ev1,simprocAttr,Ca,Bm,Cb,results7,e0,e3,Au,Ag,d1,d2,hx',hE]
 ·have d1:decide ((i:Int)<(l.length:Int))=false:=aY
  have g9:i=l.length:=aA
  rw [g9,Fi] at hE;simp (maxSteps:=10^6)+contextual(disch:=try exact dqd)only[ev1,simprocAttr,Ca,Bm,Cb,results7,e0,e3,Au,d1,hE,List.all_nil]
theorem Asq {A:List (List AV)} {c:Cap} : cL prog 7 [.frz A c] S tk k=cL prog 7 [.frz A .unk] S tk k:=Aco rfl rfl rfl
end
end
section
open Go Go.Proofs.Tryz
set_option maxHeartbeats 4000000
set_option maxRecDepth 100000
section
variable (S:List Ent) (tk:List Nat) (k:Nat)
theorem Aib (a b:List RowT):(Rh a b).length<=24:=Fp (List.length_filter_le ..) (Mb a)
theorem K9 (l m:List RowT) (r:RowT):cL prog 4 [Au l,Au m,.agg (rowC r)] S tk k=some (.bool true,S,tk,k):=by
 have hA S tk k:=Aip S tk k;have su S tk k:=Ts S tk k l;have hL2 S tk k:=Ts S tk k m;have zg c S tk k:=(Asq S tk k (c:=c)).trans (Ts S tk k [r]);simp only [Au,Cn,Cs,rowC,Ag] at su hL2 zg;refine opP func4 ntmps4 (hp3:=rfl) ?_;by_cases h1:Ln l=true;case neg =>
  rw [jZ] at h1
  rw [h1] at su
  simp (maxSteps:=10^6)+contextual(disch:=try exact dqd)only[ev1,simprocAttr,Ca,Bm,Cb,results4,Au,rowC,Ag,su,hL2,zg,hA,Gf,Hs]
 by_cases h2:Ln m=true;case neg =>
  rw [jZ] at h2
  rw [h1] at su
  rw [h2] at hL2
  simp (maxSteps:=10^6)+contextual(disch:=try exact dqd)only[ev1,simprocAttr,Ca,Bm,Cb,results4,Au,rowC,Ag,su,hL2,zg,hA,Gf,Hs]
 by_cases h3:Ln [r]=true;case neg =>
  rw [jZ] at h3
  rw [h1] at su
  rw [h2] at hL2
  rw [h3] at zg
  simp (maxSteps:=10^6)+contextual(disch:=try exact dqd)only[ev1,simprocAttr,Ca,Bm,Cb,results4,Au,rowC,Ag,su,hL2,zg,hA,Gf,Hs]
 obtain ⟨l1,l2⟩:=Yf h1;obtain ⟨m1,m2⟩:=Yf h2;have r1:=(Yf h3).2 r (by simp);have ck S tk k:=Yc S tk k l m (fun r h=>fN) (fun r h=>by have:=m2 r h; omega);have bm S tk k:=Ag2 S tk k l m (fun r h=>fN) (fun r h=>by have:=m2 r h; omega);have hF1 S tk k:=V4 S tk k l r aA (fun r h=>fN) aA;have hF2 S tk k:=Acf S tk k l r aA (fun r h=>fN) aA;have hul:=Aib l m;rw [h1] at su;rw [h2] at hL2;rw [h3] at zg;generalize Rh l m=u at *;generalize Pn l r=q at *;have z1:((((u.length:Nat):Int)) != ((u.length:Nat):Int))=false:=by simp
 have z2:(q != q)=false:=by cases q <;> rfl
 simp only [Au,Ap,rowC,Ag] at ck bm hF1 hF2;simp (maxSteps:=10^6)+contextual(disch:=try exact dqd)only[ev1,simprocAttr,Ca,Bm,Cb,results4,Au,rowC,Ag,su,hL2,zg,ck,bm,hF1,hF2,z1,z2,Gf,Hs];refine loop1 (P:=prog) (fun x st=>st.T.length=61/\(x<=u.length)/\getT st.T 7=Ap u/\getT st.T 8=Ap u/\getT st.T 9=.int (x:Nat)/\st.S=[⟨0,[.frz (r.1.map Ao) .unk,.prim (.int .i64 r.2.1),.prim (.bool r.2.2)]⟩]) (fun x=>u.length - x) (fun x=>.bool true) (0) ?_ ?_;case refine_2=>exact ⟨rfl,Cl _,rfl,rfl,rfl,rfl⟩
 rintro i ⟨T,S',tk',n'⟩ ⟨hl,hi,e7,e8,e9,eS⟩ IH;subst eS;obtain ⟨g,hg,hT⟩:=Ar hl;rw [hg] at e7 e8 e9;subst hT;clear hg hl;have dx:=A4 (i:=i) aA;by_cases la:i<u.length
 ·have d1:decide ((i:Int)<(u.length:Int))=true:=aY
  obtain ⟨s,hx⟩:=Ac la;have hx':=Lr hx;have hs:sEq s s=true:=Y0.2 rfl;simp (maxSteps:=10^6)+contextual(disch:=try exact dqd)only[ev1,simprocAttr,Ca,Bm,Cb,results4,e7,e8,e9,Ap,d1,hx',hs,dx,Gf];exact IH (i+1) _ aF ⟨rfl,aE,cY,cY,cY,cY⟩
 ·have d1:decide ((i:Int)<(u.length:Int))=false:=aY
  simp (maxSteps:=10^6)+contextual(disch:=try exact dqd)only[ev1,simprocAttr,Ca,Bm,Cb,results4,e7,e8,e9,Ap,d1,hA]
end
end
end Go.Proofs.YthelkgdmgihhiaaGreat
