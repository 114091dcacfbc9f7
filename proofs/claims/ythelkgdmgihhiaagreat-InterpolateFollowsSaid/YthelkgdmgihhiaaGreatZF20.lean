/- Part 20. -/
import Derived.Test.YthelkgdmgihhiaaGreatZF19
open And renaming intro->Cc
open Bool renaming and_eq_true->Ch,false_eq_true->C7,false_and->Fo,true_and->Fq,not_true->Fs,not_false->Fu,or_false->F5,not_eq_true'->Ig,or_eq_true->Io,false_ne_true->Iw,false_or->Oe,and_false->S9,eq_iff_iff->iJ,and_true->jE,true_or->jU
open Go.Code renaming loop->lO
open Go.IntKind renaming i64->B8
open Go.Proofs.YthelkgdmgihhiaaGreat.AV renaming bool->Bo,int->Ca,str->Cb
open Go.Value renaming int->jO
open Int renaming tdiv_eq_ediv_of_nonneg->Cz,mul_comm->Fy,mul_add->I1
open List renaming length_cons->Cj,map_cons->Cm,length_append->Cn,cons_append->Co,map_nil->Cp,mem_cons_self->Cq,mem_cons_of_mem->Cr,nil_append->Ct,mem_append->Cu,length_nil->Cv,getElem?_append_left->Cy,getElem?_eq_none->C3,mem_cons->C4,length_eq_zero_iff->C5,append_assoc->C6,take_length->C8,map_append->C9,range->E7,all_eq_true->Fc,getElem?_map->Fe,take_of_length_le->Ff,length_map->Fg,getElem?_append_right->Fi,append_nil->Fj,drop_eq_nil_of_le->Fm,drop_length->Fp,mem_singleton->Ft,flatten_cons->Fw,mem_map->F6,getElem?_eq_some_iff->F9,take_succ_cons->He,pairwise_cons->Ib,length_pos_iff->Ic,mem_of_getElem?->Ip,take_append_drop->Ix,take->Ob,length_singleton->O0,drop->Se,all_cons->Sw,map_congr_left->Sy,mem_flatten->S7,flatten_nil->S8,set_cons_succ->iC,take_add_one->iN,mem_range->iR,length_range->jX,flatten_append->kV,lt_irrefl->lH,Pairwise->lM
open List.cons renaming injEq->jH
open Nat renaming le_refl->Ce,zero_le->Ci,mul_one->Cw,le_trans->Fh,zero_add->Fk,mul_le_mul_right->F8,lt_of_le_of_lt->Iu,le_add_right->Mn,succ_mul->Nb,sub_self->Oj,add_assoc->O4,add_sub_cancel->jN
open Ne renaming symm->I8
open Option.some renaming injEq->Bg
open Rat renaming intCast_mul->Fb,intCast_neg->Og,intCast_pos->Oz,le_refl->iU,intCast_add->jK,intCast_sub->kR,intCast_one->kS
namespace Go.Proofs.YthelkgdmgihhiaaGreat
section
open Go Tryz
set_option maxRecDepth 100000
section
variable {P:Program} {t:TypeId} {ys:List (List AV)} {S:List Ent} {n:Nat} {c:Cap}
theorem lit4 (hr:B2 4 ys=true) (hl:(ys.all fun e=>e.all leafOk)=true):litC 4 (.frz ys c)=some (ys.length,ys.flatten):=if_pos ⟨hr,hl⟩
theorem ap4n (h:apT P t=some 4) (hr:B2 4 ys=true) (hl:(ys.all fun e=>e.all leafOk)=true) (h0:0<ys.length) (hm:ys.length<=1048576):apO P t (.frz [] .nilc) (.frz ys c) S n=some (.sref S.length n 0 ys.length 4,S++[⟨n,ys.flatten⟩],n+1):=by
 unfold apO;rw [h]; simp only [lit4 hr hl];rw [if_pos ⟨h0,by simpa [roomy] using hm⟩];rfl
theorem ap4m {id ep len:Nat} {cs:List AV} (h:apT P t=some 4) (hr:B2 4 ys=true) (hl:(ys.all fun e=>e.all leafOk)=true) (hy:0<ys.length) (hE:entAt S id ep=some cs) (hc:cs.length=len*4) (h0:0<len) (h1:len+ys.length<=1048576):apO P t (.sref id ep 0 len 4) (.frz ys c) S n=some (.sref id n 0 (len+ys.length) 4,put S id ⟨n,cs++ys.flatten⟩,n+1):=by
 unfold apO;rw [h]; simp only [lit4 hr hl];rw [if_pos ⟨hy,by simp [roomy]; omega⟩];simp only [apO2,hE];rw [if_pos ⟨trivial,h0⟩];rw [if_pos ⟨hc,Za59⟩]
end
section
variable (S:List Ent) (tk:List Nat) (k:Nat)
theorem Ao4 (cs:List (ByteArray × Int)) (n:Int) (s:ByteArray) (hl:cs.length<=1048576):cL prog 164 [.agg [Ag cs,.int n],.str s] S tk k=some (.int (Hb cs s),S,tk,k):=by
 refine opP func164 ntmps164 (hp3:=rfl) ?_;simp (maxSteps:=10^6)+contextual(disch:=try exact dqd)only[ev1,simprocAttr,Ca,Bo,Cb,results164,Ag];refine loop1 (P:=prog) (fun x st=>st.T.length=21/\(x<=cs.length)/\(Hb cs s=Hb (cs.drop x) s)/\getT st.T 1=.str s/\getT st.T 8=Ag cs/\getT st.T 9=.int (cs.length:Nat)/\getT st.T 10=.int (x:Nat)/\st.S=[⟨0,[Ag cs,.int n]⟩]) (fun x=>cs.length - x) (fun x=>.int (Hb cs s)) (0) ?_ ?_;case refine_2=>exact ⟨rfl,Ci _,rfl,rfl,rfl,rfl,rfl,rfl⟩
 rintro i ⟨T,S',tk',n'⟩ ⟨hl,hi,hs,e1,e8,e9,e10,eS⟩ IH;subst eS;obtain ⟨g,hg,hT⟩:=Ap hl;rw [hg] at e1 e8 e9 e10;subst hT;clear hg hl;by_cases la:i<cs.length
 ·have bg:B8.wrap ((i:Int)+1)=((i+1:Nat):Int):=aS
  have d1:decide ((i:Int)<(cs.length:Int))=true:=aZ
  obtain ⟨c,hx⟩:=Ab la;have hx':nth (cs.map Ar) i=some (Ar c):=eP
  simp only [Ar] at hx';rw [Ax hx] at hs;cases d2:sEq c.1 s with
  | true =>
   simp (maxSteps:=10^6)+contextual(disch:=try exact dqd)only[ev1,simprocAttr,Ca,Bo,Cb,results164,e1,e8,e9,e10,d1,d2,hx',bg,Ag];rw [hs,Hb,if_pos d2]
  | false =>
   simp (maxSteps:=10^6)+contextual(disch:=try exact dqd)only[ev1,simprocAttr,Ca,Bo,Cb,results164,e1,e8,e9,e10,d1,d2,hx',bg,Ag];exact IH (i+1) _ aF ⟨rfl,aE,by rw [hs,Hb,if_neg (by rw [d2]; simp)],aN,aN,aN,aN,aN⟩
 ·have d1:decide ((i:Int)<(cs.length:Int))=false:=aZ
  rw [Fm aA] at hs;simp (maxSteps:=10^6)+contextual(disch:=try exact dqd)only[ev1,simprocAttr,Ca,Bo,Cb,results164,e1,e8,e9,e10,d1];rw [hs,Hb]
theorem Pu (it et:Nat) (a b c d:AV) (vars:List ByteArray) (m:Nat) (h:entAt S it et=some [a,b,c,.frz (vars.map strC) .unk,d,intA m]) (hv:vars.length<=1000000) (hm:m<=1000000):cL prog 137 [.ref it et 0] S tk k=some (.int ((2*vars.length+m:Nat):Int),S,tk,k):=by
 have w1':B8.wrap (2*(vars.length:Int))=((2*vars.length:Nat):Int):=aS
 have w2':B8.wrap (((2*vars.length:Nat):Int)+(m:Int))=((2*vars.length+m:Nat):Int):=aS
 simp only [intA] at h;refine opS func137 ntmps137 ?_;simp (maxSteps:=10^6)+contextual(disch:=try exact dqd)only[evs1,simprocAttr,Ca,Bo,Cb,results137,h,w1',w2',Fg];try simp only [finS_some,C8,fz3,fz2,fz1]
end
end
section
open Go Tryz
set_option maxHeartbeats 8000000
set_option maxRecDepth 100000
theorem Ab2 {s:Int} {cs:List (ByteArray × Int)} : ∀ {a b:List ByteArray},Ja s cs (a++b)=Ja s cs a++Ja s cs b
 | [],_=>rfl
 | v :: a,b=>by simp only [Co,Ja,Ab2]
theorem Aih {s:Int} {cs:List (ByteArray × Int)} {vs:List ByteArray} {j:Nat} {v:ByteArray} (h:nth vs j=some v):Ja s cs (vs.take (j+1))=Ja s cs (vs.take j)++[iQ (s*Hb cs v),iQ (-s*Hb cs v)]:=by
 rw [Af] at h;rw [iN,h,Ab2]; rfl
theorem Vn {s:Int} {cs:List (ByteArray × Int)} : ∀ {vs:List ByteArray},(Ja s cs vs).length=2*vs.length
 | []=>rfl
 | v :: vs=>by simp only [Ja,Cj,Vn]; omega
theorem Yp {cs:List (ByteArray × Int)} {v:ByteArray} (h:∀ c ∈ cs,inB c.2=true) : -1000000000000<=Hb cs v/\Hb cs v<=1000000000000:=by
 induction cs with
 | nil=>simp [Hb]
 | cons c cs ih =>
  unfold Hb;split
  ·have:=h c (by simp); simpa [inB] using this
  ·exact ih fun c hc=>h c (by simp [hc])
def OwnL (SS:List Ent) (id e:Nat) (l:List Q):Prop:=if l=[] then SS.length=id else SS.length=id+1/\entAt SS id e=some (flat ceW l)
def Hn (S:List Ent) (id n:Nat) (l:List Q) (cs:List AV):List Ent:=if l=[] then S++[⟨n,cs⟩] else put S id ⟨n,cs⟩
section
variable {P:Program} {t:TypeId} {S:List Ent} {id e n:Nat} {l zs:List Q} {cs:List AV} {c:Cap}
theorem Af6:flat ceW (l++zs)=flat ceW l++flat ceW zs:=by unfold flat; simp
theorem Adf (h:apT P t=some 4) (hz:zs≠[]) (hO:OwnL S id e l) (hb:l.length+zs.length<=1048576):apO P t (ohd id e l.length) (.frz (zs.map ceW) c) S n=some (ohd id n (l.length+zs.length),Hn S id n l (flat ceW (l++zs)),n+1):=by
 have hr:B2 4 (zs.map ceW)=true:=Dh (f:=ceW) Al zs;have hl:((zs.map ceW).all fun e=>e.all leafOk)=true:=by simp [Fc,Av]
 have h0:0<zs.length:=Ic.2 hz;unfold OwnL at hO;unfold Hn;by_cases hn:l=[]
 ·rw [if_pos hn] at hO;rw [if_pos hn];subst hn hO;have:=ap4n (S:=S) (n:=n) (c:=c) h hr hl aX fW;rw [Fg] at this;simp only [Cv,Fk,Ct];rw [show ohd S.length n zs.length=.sref S.length n 0 zs.length 4 from Kq aA];exact this
 ·rw [if_neg hn] at hO;rw [if_neg hn];have bw:0<l.length:=Ic.2 hn;have:=ap4m (S:=S) (n:=n) (c:=c) h hr hl aX hO.2 (Va Al) bw fW;rw [Fg] at this;rw [Kq aA,Kq aA,Af6];exact this
theorem OwnL.put (hO:OwnL S id e l) (hz:zs≠[]):OwnL (Hn S id n l (flat ceW (l++zs))) id n (l++zs):=by
 unfold OwnL Hn at *;rw [if_neg (show l++zs≠[] by simp [hz])];by_cases hn:l=[]
 ·rw [if_pos hn] at hO ⊢;subst hO;exact ⟨by simp,Bm⟩
 ·rw [if_neg hn] at hO ⊢;exact ⟨by rw [Am]; exact hO.1,Ah aA⟩
theorem OwnL.le (hO:OwnL S id e l):id<=S.length:=by unfold OwnL at hO; split at hO <;> omega
theorem OwnL.old (hO:OwnL S id e l) {j:Nat} (hj:j<id):nth (Hn S id n l cs) j=nth S j:=by
 have:=hO.le;unfold Hn; split
 ·exact Bj aA
 ·exact Ae aA
theorem Ais:(Hn S id n l cs).length=S.length+(if l=[] then 1 else 0):=by
 unfold Hn; split
 ·simp
 ·simp [Am]
end
def Ad2 (S:List Ent) (tk:List Nat) (it et:Nat) (a b c:AV) (vars:List ByteArray) (m:Nat) (fl:List Bool) (cc:Cap) (i:Nat) (r:RowT) (o:Rs):Prop :=
 ∃ S' k' ep,o=(.sref (S.length+1) ep 0 (Jf vars m i r).length 4,S',Eh tk cc,k')/\S'.length=S.length+2/\(∀ j,j<S.length->j≠it->nth S' j=nth S j)/\entAt S' it et=some [a,b,c,.frz (vars.map strC) .unk,.frz ((fl++[decide (sgI r<0)]).map Di) (Ay tk cc 1),intA m]/\entAt S' (S.length+1) ep=some (flat ceW (Jf vars m i r))
section
variable (S:List Ent) (tk:List Nat) (k:Nat)
theorem Ps (n:Int) (hn:i64 n):cL prog 138 [.int n] S tk k=some (.agg (ceW (iQ n)),S,tk,k):=Asq S tk k n hn
structure Avg (S:List Ent) (tk:List Nat) (it et:Nat) (vars:List ByteArray) (m:Nat) (fl:List Bool) (cc:Cap) (i:Nat) (r:RowT):Prop where
 hit:it<S.length
 hcap:Be tk cc 1=true
 hfl:fl.length<=1000000
 hi:i<m
 hv:vars.length<=100000
 hm:m<=100000
 hcl:r.1.length<=1048576
 hc:∀ c ∈ r.1,inB c.2=true
 hn:inB r.2.1=true
theorem Ab3 (it et:Nat) (a b c:AV) (vars:List ByteArray) (m:Nat) (fl:List Bool) (cc:Cap) (i:Nat) (r:RowT) (C:Avg S tk it et vars m fl cc i r) (sg:Int) (hsd:sg=sgI r) (E:Ent) (hE:E=⟨et,[a,b,c,.frz (vars.map strC) .unk,.frz (fl.map Di++[Di (decide (sg<0))]) (Ay tk cc 1),.prim (.int .i64 (m:Int))]⟩) (T:List AV)
  (hTl:T.length=97) (t0:getT T 0=.ref it et 0) (t1:getT T 1=.int (i:Nat)) (t5:getT T 5=.ref S.length k 0) (t7:getT T 7=.int (-r.2.1)) (t8:getT T 8=.int sg) (t9:getT T 9=.frz [] .nilc) (t34:getT T 34=.frz (vars.map strC) .unk) (t35:getT T 35=.int (vars.length:Nat)) (t36:getT T 36=.int ((0:Nat):Int)) :
  Gd finM (Ad2 S tk it et a b c vars m fl cc i r) (KA prog Tryz.f136 8 [] ⟨T,put S it E++[(⟨k,[Ag r.1,.int r.2.1,.bool r.2.2]⟩:Ent)],Eh tk cc,k+1⟩):=by
 obtain ⟨hit,hcap,hfl,hi,hv,hm,hcl,hc,hn⟩:=C;obtain ⟨Φ,hΦ⟩:∃ Φ,Φ=Ad2 S tk it et a b c vars m fl cc i r:=⟨_,rfl⟩;rw [<- hΦ];have dy:sg=1\/sg=-1:=by rw [hsd]; unfold sgI; split <;> simp
 have rh : -1000000000000<=r.2.1/\r.2.1<=1000000000000:=by simpa [inB] using hn
 have hco:∀ v S tk k,cL prog 164 [.agg [Ag r.1,.int r.2.1],.str v] S tk k=some (.int (Hb r.1 v),S,tk,k):=fun v S tk k=>Ao4 S tk k r.1 r.2.1 v hcl;simp only [Ag] at hco;have jy:B8.wrap (2*(m:Int))=((2*m:Nat):Int):=aS
 have hmi:B8.wrap ((m:Int)+(i:Int))=((m+i:Nat):Int):=aS
 have bh:apT prog 78=some 4:=aK
 have jt:=fun S tk k=>Ps S tk k 0 aD;have hi1:=fun S tk k=>Ps S tk k 1 aD;have is:=fun S tk k=>Ps S tk k sg aD;have hEt:∀ (L:List Ent),entAt (put S it E++L) it et=some E.cells:=fun L=>by rw [hE]; exact Ad (Ah hit)
 refine Wl rfl (t:=.mk) ?_;refine Ef (P:=prog) (fun x st=>st.T.length=97/\(x.2.2.1<=vars.length)/\(OwnL x.1 (S.length+1) x.2.2.2 (Ja sg r.1 (vars.take x.2.2.1)))/\(entAt x.1 S.length k=some [Ag r.1,.int r.2.1,.bool r.2.2])/\(entAt x.1 it et=some E.cells)/\(∀ q,q<S.length->q≠it->nth x.1 q=nth S q)/\getT st.T 0=.ref it et 0/\getT st.T 1=.int (i:Nat)/\getT st.T 5=.ref S.length k 0/\getT st.T 7=.int (-r.2.1)/\getT st.T 8=.int sg/\getT st.T 9=ohd (S.length+1) x.2.2.2 (2*x.2.2.1)/\getT st.T 34=.frz (vars.map strC) .unk/\getT st.T 35=.int (vars.length:Nat)/\getT st.T 36=.int (x.2.2.1:Nat)/\st.S=x.1/\st.tk=Eh tk cc/\st.n=x.2.1) (fun x=>vars.length - x.2.2.1) ((put S it E++[(⟨k,[Ag r.1,.int r.2.1,.bool r.2.2]⟩:Ent)]),(k+1),0,0) ?_ ?_;case refine_2=>exact ⟨aH,Ci _,by simp [OwnL,Ja,Am],An (Am),hEt _,(fun q h1 h2=>by rw [Bj (by rw [Am]; exact h1),Ae (I8 h2)]),aH,aH,aH,aH,aH,aH,aH,aH,aH,aH,aH,aH⟩
 rintro ⟨SS,n1,j,e⟩ ⟨T,S',tk',n'⟩ ⟨hl,hj,hO,hB,hSt,aw,e0,e1,e5,e7,e8,e9,e34,e35,e36,eS,eT,eN⟩ IH;simp only at hj hO hB hSt aw e0 e1 e5 e7 e8 e9 e34 e35 e36 eS eT eN;subst eS eT eN;obtain ⟨g,hg,hT⟩:=Ap hl;rw [hg] at e0 e1 e5 e7 e8 e9 e34 e35 e36;subst hT;clear hg hl;have md:(Ja sg r.1 (vars.take j)).length=2*j:=by rw [Vn]; simp; omega
 by_cases hjv:j<vars.length
 ·have c1:decide ((j:Int)<(vars.length:Int))=true:=gF
  have hw:B8.wrap ((j:Int)+1)=((j+1:Nat):Int):=aS
  obtain ⟨v,hv1⟩:=Ab hjv;have hv2:nth (vars.map strC) j=some (strC v):=by rw [Dd,hv1]; rfl
  simp only [strC] at hv2;have hcb:=Yp (v:=v) hc;obtain ⟨x,hx⟩:∃ x,x=sg*Hb r.1 v:=⟨_,rfl⟩;obtain ⟨y,hy⟩:∃ y,y=-sg*Hb r.1 v:=⟨_,rfl⟩;have dm:B8.wrap (sg*Hb r.1 v)=x:=by rw [hx]; exact Aa Za1f
  have fw:B8.wrap (-sg*Hb r.1 v)=y:=by rw [hy]; exact Aa Za1f
  have hng:B8.wrap (0 - sg)=-sg:=aP
  have ix:=fun S tk k=>Ps S tk k x (by unfold i64; rw [hx]; rcases dy with h|h <;> rw [h] <;> omega);have iy:=fun S tk k=>Ps S tk k y (by unfold i64; rw [hy]; rcases dy with h|h <;> rw [h] <;> omega);have o6:=Aih (s:=sg) (cs:=r.1) hv1;rw [<- hx,<- hy] at o6;have fg:∀ c n,apO prog 78 (ohd (S.length+1) e (2*j)) (.frz [ceW (iQ x),ceW (iQ y)] c) S' n=some (ohd (S.length+1) n (2*(j+1)),Hn S' (S.length+1) n (Ja sg r.1 (vars.take j)) (flat ceW (Ja sg r.1 (vars.take (j+1)))),n+1):=fun c n=>by
   have:=Adf (n:=n) (c:=c) (zs:=[iQ x,iQ y]) bh (by simp) hO (by rw [md]; simp; omega);rw [md,<- o6] at this;exact this
  simp (maxSteps:=10^6)+contextual(disch:=try exact dqd)only[evg1,simprocAttr,Ca,Bo,Cb,results136,e0,e1,e5,e7,e8,e9,e34,e35,e36,c1,hw,hv2,hjv,hB,hco,dm,fw,hng,ix,iy,fg,Ag,Al,Av,Ea,D9,WW.tkQ,WW.puQ];exact IH (Hn S' (S.length+1) n' (Ja sg r.1 (vars.take j)) (flat ceW (Ja sg r.1 (vars.take (j+1)))),n'+1,j+1,n') _ aF ⟨rfl,aE,by rw [o6]; exact hO.put (by simp),by rw [Ac (hO.old aE)]; exact hB,by rw [Ac (hO.old aE)]; exact hSt,fun q h1 h2=>by rw [hO.old aE]; exact aw q h1 h2,aU⟩
 ·have c1:decide ((j:Int)<(vars.length:Int))=false:=gF
  have rj:j=vars.length:=aA
  subst rj;rw [C8] at hO md;obtain ⟨L1,tn⟩:∃ L1,L1=Ja sg r.1 vars:=⟨_,rfl⟩;rw [<- tn] at hO md;have a16:=hSt;rw [hE] at a16;simp only at a16;simp (maxSteps:=10^6)+contextual(disch:=try exact dqd)only[evg1,simprocAttr,Ca,Bo,Cb,results136,e0,e1,e5,e7,e8,e9,e34,e35,e36,c1,a16,jy];obtain ⟨F,hF⟩:∃ F:Nat->Q,F=fun q=>iQ (Y7 m i r q):=⟨_,rfl⟩;refine Ef (P:=prog) (fun x st=>st.T.length=97/\(x.2.2.1<=2*m)/\(OwnL x.1 (S.length+1) x.2.2.2 (L1++(E7 x.2.2.1).map F))/\(entAt x.1 S.length k=some [Ag r.1,.int r.2.1,.bool r.2.2])/\(entAt x.1 it et=some E.cells)/\(∀ q,q<S.length->q≠it->nth x.1 q=nth S q)/\getT st.T 0=.ref it et 0/\getT st.T 1=.int (i:Nat)/\getT st.T 5=.ref S.length k 0/\getT st.T 7=.int (-r.2.1)/\getT st.T 8=.int sg/\getT st.T 9=ohd (S.length+1) x.2.2.2 (2*vars.length+x.2.2.1)/\getT st.T 63=.int ((2*m:Nat):Int)/\getT st.T 64=.int (x.2.2.1:Nat)/\st.S=x.1/\st.tk=Eh tk cc/\st.n=x.2.1) (fun x=>2*m - x.2.2.1) (S',n',0,e) ?_ ?_;case refine_2=>exact ⟨rfl,Ci _,by simpa using hO,hB,hSt,aw,rfl,rfl,rfl,rfl,rfl,rfl,rfl,rfl,rfl,rfl,rfl⟩
  rintro ⟨SS,n1,j,e⟩ ⟨T,S',tk',n'⟩ ⟨hl,hj,hO,hB,hSt,aw,e0,e1,e5,e7,e8,e9,e63,e64,eS,eT,eN⟩ IH;simp only at hj hO hB hSt aw e0 e1 e5 e7 e8 e9 e63 e64 eS eT eN;subst eS eT eN;obtain ⟨g,hg,hT⟩:=Ap hl;rw [hg] at e0 e1 e5 e7 e8 e9 e63 e64;subst hT;clear hg hl;have a0o:(L1++(E7 j).map F).length=2*vars.length+j:=by simp [md]
  have a17:=hSt;rw [hE] at a17;simp only at a17;by_cases hjm:j<2*m
  ·have c2:decide ((j:Int)<((2*m:Nat):Int))=true:=aC
   have hw:B8.wrap ((j:Int)+1)=((j+1:Nat):Int):=aS
   have o6:(E7 (j+1)).map F=(E7 j).map F++[F j]:=by rw [List.range_succ]; simp
   have fg:∀ c n,apO prog 78 (ohd (S.length+1) e (2*vars.length+j)) (.frz [ceW (F j)] c) S' n=some (ohd (S.length+1) n (2*vars.length+(j+1)),Hn S' (S.length+1) n (L1++(E7 j).map F) (flat ceW (L1++(E7 (j+1)).map F)),n+1):=fun c n=>by
    have:=Adf (n:=n) (c:=c) (zs:=[F j]) bh (by simp) hO (by rw [a0o]; simp; omega);rw [a0o,C6,<- o6] at this;exact this
   have hO2:OwnL (Hn S' (S.length+1) n' (L1++(E7 j).map F) (flat ceW (L1++(E7 (j+1)).map F))) (S.length+1) n' (L1++(E7 (j+1)).map F):=by
    rw [o6,<- C6]; exact hO.put (by simp)
   have hFj:F j=iQ (Y7 m i r j):=by rw [hF]
   have hL:Y7 m i r j=bif ((j:Int) == ((m+i:Nat):Int)) then 1 else bif ((j:Int) == (i:Int)) && !r.2.2 then sg else 0:=by
    rw [hsd]; unfold Y7;by_cases h1:j=m+i
    ·rw [if_pos h1,show ((j:Int) == ((m+i:Nat):Int))=true by simp; omega]; rfl
    ·rw [if_neg h1,show ((j:Int) == ((m+i:Nat):Int))=false by simp; omega];by_cases h2:j=i
     ·subst h2; cases r.2.2 <;> simp
     ·rw [show ((j:Int) == (i:Int))=false by simp; omega];simp [h2]
   cases q1:((j:Int) == (i:Int)) <;> cases q2:r.2.2 <;> cases q3:((j:Int) == ((m+i:Nat):Int));all_goals
    rw [q1,q2,q3] at hL
    simp only [cond_true,cond_false,Fs,Fu,jE,S9,Fq,Fo] at hL
    rw [hFj,hL] at fg
    simp (maxSteps:=10^6)+contextual(disch:=try exact dqd)only[evg1,simprocAttr,Ca,Bo,Cb,results136,e0,e1,e5,e7,e8,e9,e63,e64,c2,hw,q1,q2,q3,hB,a17,hmi,jt,hi1,is,fg,Ag,Al,Av,Ea,D9,WW.tkQ,WW.puQ]
    exact IH (Hn S' (S.length+1) n' (L1++(E7 j).map F) (flat ceW (L1++(E7 (j+1)).map F)),n'+1,j+1,n') _ aF ⟨rfl,aE,hO2,by rw [Ac (hO.old aE)]; exact hB,by rw [Ac (hO.old aE)]; exact hSt,fun q h1 h2=>by rw [hO.old aE]; exact aw q h1 h2,aU⟩
  ·have c2:decide ((j:Int)<((2*m:Nat):Int))=false:=aC
   have rj:j=2*m:=aA
   subst rj;obtain ⟨z,hz⟩:∃ z,z=sg*-r.2.1:=⟨_,rfl⟩;have hmz:B8.wrap (sg*-r.2.1)=z:=by rw [hz]; exact Aa Za1f
   have iz:=fun S tk k=>Ps S tk k z (by unfold i64; rw [hz]; rcases dy with h|h <;> rw [h] <;> omega);have fg:∀ c n,apO prog 78 (ohd (S.length+1) e (2*vars.length+2*m)) (.frz [ceW (iQ z)] c) S' n=some (ohd (S.length+1) n (2*vars.length+2*m+1),Hn S' (S.length+1) n (L1++(E7 (2*m)).map F) (flat ceW (L1++(E7 (2*m)).map F++[iQ z])),n+1):=fun c n=>by
    have:=Adf (n:=n) (c:=c) (zs:=[iQ z]) bh (by simp) hO (by rw [a0o]; simp; omega);rw [a0o] at this;exact this
   have hO2:=hO.put (n:=n') (zs:=[iQ z]) (by simp);have hLR:Jf vars m i r=L1++(E7 (2*m)).map F++[iQ z]:=by unfold Jf; rw [tn,hF,hz,hsd]
   simp (maxSteps:=10^6)+contextual(disch:=try exact dqd)only[evg1,simprocAttr,Ca,Bo,Cb,results136,e0,e1,e5,e7,e8,e9,e63,e64,c2,hmz,iz,fg,Al,Av,Ea,D9,WW.tkQ,WW.puQ];have hlen:(Jf vars m i r).length=2*vars.length+2*m+1:=by rw [hLR]; simp [md]; omega
   have ra:=hO2;unfold OwnL at ra;rw [if_neg (by simp)] at ra;rw [Kq aA];rw [hΦ];refine ⟨_,_,n',by rw [hlen],ra.1,fun q h1 h2=>by rw [hO.old aA]; exact aw q h1 h2,?_,by rw [hLR]; exact ra.2⟩;rw [Ac (hO.old aA),hSt,hE,hsd];simp only [C9,Cm,Cp,intA]
theorem Ao6 (it et:Nat) (a b c:AV) (vars:List ByteArray) (m:Nat) (fl:List Bool) (cc:Cap) (i:Nat) (r:RowT) (C:Avg S tk it et vars m fl cc i r) (hT:entAt S it et=some [a,b,c,.frz (vars.map strC) .unk,.frz (fl.map Di) cc,intA m]) :
  ∃ o,cL prog 136 [.ref it et 0,.int i,.agg (rowC r)] S tk k=some o/\Ad2 S tk it et a b c vars m fl cc i r o:=by
 have hit:=C.hit;have hfl:=C.hfl;simp only [intA] at hT;have rh : -1000000000000<=r.2.1/\r.2.1<=1000000000000:=by simpa [inB] using C.hn
 have hwn:B8.wrap (0 - r.2.1)=-r.2.1:=aP
 have hA:=fun v=>apB_one (tk:=tk) (c:=cc) (es:=fl.map Di) (y:=[v]) C.hcap (Dh (f:=Di) (fun _=>rfl) fl) rfl (by rw [Fg]; omega);have hpe:∀ cs L,entAt (put S it ⟨et,cs⟩++L) it et=some cs:=fun cs L=>Ad (Ah hit);have a20:∀ v (e:Ent),put (S++[e]) it v=put S it v++[e]:=fun v e=>Dq hit;refine opM func136 ntmps136 ?_;cases d0:decide (-r.2.1<0)
 ·have hsg:(1:Int)=sgI r:=by unfold sgI; rw [if_neg (of_decide_eq_false d0)]
  simp (maxSteps:=10^6)+contextual(disch:=try exact dqd)only[evg1,simprocAttr,Ca,Bo,Cb,results136,rowC,hwn,d0,hT,hA,a20,hpe,Fg,Ag];exact Me rfl (Ab3 S tk k it et a b c vars m fl cc i r C 1 hsg _ rfl _ rfl rfl rfl rfl rfl rfl rfl rfl rfl rfl)
 ·have hsg:(-1:Int)=sgI r:=by unfold sgI; rw [if_pos (of_decide_eq_true d0)]
  simp (maxSteps:=10^6)+contextual(disch:=try exact dqd)only[evg1,simprocAttr,Ca,Bo,Cb,results136,rowC,hwn,d0,hT,hA,a20,hpe,Fg,Ag];exact Me rfl (Ab3 S tk k it et a b c vars m fl cc i r C (-1) hsg _ rfl _ rfl rfl rfl rfl rfl rfl rfl rfl rfl rfl)
end
end
section
open Go
def shd (id e:Nat):Nat->AV
 | 0=>.frz [] .nilc
 | k+1=>.sref id e 0 (k+1) 1
def Km (S:List Ent) (id n:Nat) (ls:List AV) (x:AV):List Ent:=if ls=[] then S++[⟨n,[x]⟩] else put S id ⟨n,ls++[x]⟩
section
variable {P:Program} {t:TypeId} {S:List Ent} {id e n j:Nat} {ls:List AV} {x y:AV}
theorem Akj (h:apT P t=some 1) (hy:litC 1 y=some (1,[x])) (h0:ls=[]->S.length=id) (h1:ls≠[]->entAt S id e=some ls) (hb:ls.length+1<=1048576):apO P t (shd id e ls.length) y S n=some (.sref id n 0 (ls.length+1) 1,Km S id n ls x,n+1):=by
 unfold apO Km;rw [h]; simp only [hy];rw [if_pos ⟨aA,dI⟩];by_cases hn:ls=[]
 ·rw [if_pos hn];subst hn;rw [<- h0 rfl]; rfl
 ·rw [if_neg hn];have hl:0<ls.length:=Ic.2 hn;have:shd id e ls.length=.sref id e 0 ls.length 1:=by
   generalize ls.length=q at hl;cases q with
   | zero=>omega
   | succ q=>rfl
  rw [this];simp only [apO2,h1 hn];rw [if_pos ⟨trivial,hl⟩,if_pos ⟨aA,by simpa [roomy] using hb⟩]
theorem Xd (h0:ls=[]->S.length=id) (h1:ls≠[]->id<S.length):entAt (Km S id n ls x) id n=some (ls++[x]):=by
 unfold Km;by_cases hn:ls=[]
 ·rw [if_pos hn,<- h0 hn,hn]; exact Bm
 ·rw [if_neg hn]; exact Ah (h1 hn)
theorem Us:(Km S id n ls x).length=S.length+(if ls=[] then 1 else 0):=by
 unfold Km; split <;> simp [Am]
theorem Ut (hj:j≠id) (hl:j<S.length):nth (Km S id n ls x) j=nth S j:=by
 unfold Km; split
 ·exact Bj hl
 ·exact Ae (I8 hj)
end
structure PTab (S:List Ent) (I:TI) (R:List (List Q)) (B:List Nat) (F:List Bool) (vars:List ByteArray) (m W:Nat) (cc:Cap) (x:AV):Prop where
 top:entAt S I.it I.et=some [shd I.ir I.er R.length,shd I.ib I.eb B.length,x,.frz (vars.map strC) .unk,.frz (F.map Di) cc,.prim (.int .i64 (m:Int))]
 nids:I.ids.length=R.length
 nb:B.length=R.length
 rowsE:R≠[]->entAt S I.ir I.er=some (I.ids.map (dp W 4))
 basisE:R≠[]->entAt S I.ib I.eb=some (B.map intA)
 rowE:∀ i p r,nth I.ids i=some p->nth R i=some r->entAt S p.1 p.2=some (flat ceW r)
 rowW:∀ r ∈ R,r.length=W
 okr:∀ r ∈ R,okL WW.qF r
 tr:I.it≠I.ir
 tb:I.it≠I.ib
 rb:I.ir≠I.ib
 row:∀ p ∈ I.ids,p.1≠I.it/\p.1≠I.ir/\p.1≠I.ib
 lt:I.it<S.length/\∀ p ∈ I.ids,p.1<S.length
 rows:∀ i j p q,nth I.ids i=some p->nth I.ids j=some q->i≠j->p.1≠q.1
theorem Vt {α:Type} {l:List α} {x y:α} {i:Nat} (h:nth (l++[x]) i=some y):nth l i=some y\/i=l.length/\y=x:=by
 rw [Af] at h ⊢;by_cases hi:i<l.length
 ·rw [Cy hi] at h; exact .inl h
 ·have:=(F9.1 h).1;simp at this;have e:i=l.length:=aA
  rw [e,Fi (Ce _),Oj] at h;simp at h; exact .inr ⟨e,h.symm⟩
theorem PTab.add {S S':List Ent} {I:TI} {R:List (List Q)} {B:List Nat} {F:List Bool} {vars:List ByteArray} {m W:Nat} {cc cc':Cap} {x:AV} (h:PTab S I R B F vars m W cc x) {er eb id ep b:Nat} {f:Bool} {row:List Q}
  (ht:entAt S' I.it I.et=some [.sref I.ir er 0 (R.length+1) 1,.sref I.ib eb 0 (R.length+1) 1,x,.frz (vars.map strC) .unk,.frz ((F++[f]).map Di) cc',.prim (.int .i64 (m:Int))])
  (hr:entAt S' I.ir er=some ((I.ids++[(id,ep)]).map (dp W 4))) (hb:entAt S' I.ib eb=some ((B++[b]).map intA)) (bj:entAt S' id ep=some (flat ceW row)) (hW:row.length=W) (ho:okL WW.qF row) (gz:∀ p ∈ I.ids,nth S' p.1=nth S p.1) (hlen:S.length<=S'.length)
  (hid:id≠I.it/\id≠I.ir/\id≠I.ib) (j7:S.length<=id) (dx:id<S'.length) :
  PTab S' { I with er:=er,eb:=eb,ids:=I.ids++[(id,ep)] } (R++[row]) (B++[b]) (F++[f]) vars m W cc' x:=by
 have hl1:=h.lt;refine ⟨?_,by simp [h.nids],by simp [h.nb],fun _=>hr,fun _=>hb,fun i p r hp hr=>?_,fun r hr=>?_,fun r hr=>?_,h.tr,h.tb,h.rb,fun p hp=>?_,⟨by show I.it<_; omega,fun p hp=>?_⟩,fun i j p q hp hq hij=>?_⟩
 ·simp only [Cn,O0,h.nb]; exact ht
 ·rcases Vt hp with hp|⟨e1,rfl⟩
  ·have hi:i<R.length:=by rw [<- h.nids]; have:=Bl hp; exact this
   rcases Vt hr with hr|⟨e2,-⟩
   ·rw [Ac (gz p (Aj hp))]; exact h.rowE i p r hp hr
   ·omega
  ·rcases Vt hr with hr|⟨e2,rfl⟩
   ·have:=Bl hr; rw [<- h.nids] at this; omega
   ·exact bj
 ·rcases Cu.1 hr with hr|hr
  ·exact h.rowW r hr
  ·rw [Ft.1 hr]; exact hW
 ·rcases Cu.1 hr with hr|hr
  ·exact h.okr r hr
  ·rw [Ft.1 hr]; exact ho
 ·rcases Cu.1 hp with hp|hp
  ·exact h.row p hp
  ·rw [Ft.1 hp]; exact hid
 ·rcases Cu.1 hp with hp|hp
  ·have:=hl1.2 p hp; omega
  ·rw [Ft.1 hp]; exact dx
 ·rcases Vt hp with hp|⟨e1,rfl⟩ <;> rcases Vt hq with hq|⟨e2,rfl⟩
  ·exact h.rows i j p q hp hq hij
  ·have:=hl1.2 p (Aj hp); show p.1≠id; omega
  ·have:=hl1.2 q (Aj hq); show id≠q.1; omega
  ·omega
theorem Vp {vars:List ByteArray} {m:Nat} {r:RowT} : ∀ {l:List RowT} {i:Nat},linesR vars m i (l++[r])=linesR vars m i l++[Jf vars m (i+l.length) r]
 | [],i=>rfl
 | a :: l,i=>by simp only [Co,linesR,Vp,Cj,Nat.add_right_comm,O4]
theorem Rq {vars:List ByteArray} {m:Nat} : ∀ {l:List RowT} {i:Nat},(linesR vars m i l).length=l.length
 | [],i=>rfl
 | a :: l,i=>by simp only [linesR,Cj,Rq]
theorem Am8 {x p:Q} (hx:gW x) (hp:gW p) (h0:qv p≠0) (hf:J5 (qv x / qv p)):gW (WW.qF.over x p).1/\qv (WW.qF.over x p).1=qv x / qv p:=Jm.over x p hx hp h0 (Q9.over x p hx hp h0 hf)
theorem Asc {p:Q} (hp:gW p) (h0:qv p≠0):∀ {row:List Q},(∀ q ∈ row,gW q)->(∀ j,j<row.length->J5 (qv (at_ q0 row j) / qv p))->(∀ q ∈ ovR p row,gW q)/\∀ j,qv (at_ q0 (ovR p row) j)=qv (at_ q0 row j) / qv p
 | [],_,_=>⟨fun q h=>aV,fun j=>by simp only [ovR,Cp,Px,Wz]; grind⟩
 | x :: l,hl,hf=>by
  have ih:=Asc hp h0 (row:=l) (fun q h=>hl q (Cr _ h)) fun j hj=>hf (j+1) bN;have hs:=Am8 (hl x (Cq ..)) hp h0 (hf 0 (by simp));exact Ya00
theorem Aor {f:Q} (hf:gW f):∀ {l r:List Q},l.length=r.length->(∀ q ∈ l,gW q)->(∀ q ∈ r,gW q)->(∀ j,j<r.length->J5 (qv f*qv (at_ q0 r j))/\J5 (qv (at_ q0 l j) - qv f*qv (at_ q0 r j)))->(∀ q ∈ zipR f l r,gW q)/\∀ j,qv (at_ q0 (zipR f l r) j)=qv (at_ q0 l j) - qv f*qv (at_ q0 r j)
 | [],[],_,_,_,_=>⟨fun q h=>aV,fun j=>by simp only [zipR,Px,Wz]; grind⟩
 | [],_ :: _,h,_,_,_=>aR
 | _ :: _,[],h,_,_,_=>aR
 | a :: l,b :: r,h,hl,hr,hx=>by
  have ih:=Aor hf (l:=l) (r:=r) aO (fun q h=>hl q (Cr _ h)) (fun q h=>hr q (Cr _ h)) fun j hj=>hx (j+1) bN;have h0:=hx 0 (by simp);have ga:=hl a (Cq ..);have gb:=hr b (Cq ..);have t:=Jm.times f b hf gb (Q9.times f b hf gb h0.1);have d:=Jm.minus a _ ga t.1 (Q9.minus a _ ga t.1 (by rw [t.2]; exact h0.2));refine ⟨fun q h=>?_,fun j=>?_⟩
  ·rcases C4.1 h with rfl|h
   ·exact d.1
   ·exact ih.1 q h
  ·cases j with
   | zero=>exact d.2.trans (by rw [t.2]; rfl)
   | succ j=>exact ih.2 j
theorem Ar7 {f:Q} (hf:gW f) {l r:List Q} (h:l.length=r.length) (hl:∀ q ∈ l,gW q) (hr:∀ q ∈ r,gW q) (hx:∀ j,j<r.length->J5 (qv f*qv (at_ q0 r j))/\J5 (qv (at_ q0 l j) - qv f*qv (at_ q0 r j))):(∀ q ∈ lsR f l r,gW q)/\∀ j,qv (at_ q0 (lsR f l r) j)=qv (at_ q0 l j) - qv f*qv (at_ q0 r j):=by
 unfold lsR;split
 ·rename_i h0;exact ⟨hl,fun j=>by rw [(Nl hf.pos).1 h0]; grind⟩
 ·exact Aor hf h hl hr hx
theorem Zo {row:List Q} {c i:Nat} : ∀ {l:List (List Q)} {k:Nat},(rowsR row c i k l).length=l.length
 | [],_=>rfl
 | r :: l,k=>by simp only [rowsR,Cj,Zo]
theorem Ag6 {row:List Q} {c i W:Nat} (hc:c<W) (hw:row.length=W) (hr:∀ q ∈ row,gW q):∀ {l:List (List Q)} {k:Nat},(∀ r ∈ l,r.length=W)->(∀ r ∈ l,∀ q ∈ r,gW q) ->
  (∀ n j,n<l.length->k+n≠i->j<W->J5 (qv (at_ q0 (at_ [] l n) c)*qv (at_ q0 row j))/\J5 (qv (at_ q0 (at_ [] l n) j) - qv (at_ q0 (at_ [] l n) c)*qv (at_ q0 row j))) ->
  (∀ r ∈ rowsR row c i k l,r.length=W)/\(∀ r ∈ rowsR row c i k l,∀ q ∈ r,gW q)/\∀ n j,n<l.length->qv (at_ q0 (at_ [] (rowsR row c i k l) n) j)=if k+n=i then qv (at_ q0 (at_ [] l n) j) else qv (at_ q0 (at_ [] l n) j) - qv (at_ q0 (at_ [] l n) c)*qv (at_ q0 row j)
 | [],k,_,_,_=>⟨fun r h=>aV,fun r h=>aV,fun n j hn=>by simp at hn⟩
 | r :: l,k,hl,hg,hx=>by
  have ih:=Ag6 hc hw hr (l:=l) (k:=k+1) (i:=i) (fun r h=>hl r (Cr _ h)) (fun r h=>hg r (Cr _ h)) fun n j hn hk hj=>hx (n+1) j bX aA hj;have vg:=hl r (Cq ..);have hgr:=hg r (Cq ..);have hs:(if k=i then r else lsR (at_ q0 r c) r row).length=W/\(∀ q ∈ (if k=i then r else lsR (at_ q0 r c) r row),gW q)/\∀ j,qv (at_ q0 (if k=i then r else lsR (at_ q0 r c) r row) j)=if k=i then qv (at_ q0 r j) else qv (at_ q0 r j) - qv (at_ q0 r c)*qv (at_ q0 row j):=by
   by_cases e:k=i
   ·simp only [if_pos e]; exact ⟨vg,hgr,fun j=>trivial⟩
   ·simp only [if_neg e];have hb:=hgr _ (Em (d:=q0) (k:=c) aA);have h2:=Ar7 hb iA hgr hr fun j hj=>hx 0 j (by simp) aA aA;exact ⟨by rw [Ab8 iA]; exact vg,h2.1,h2.2⟩
  exact Ya01
section
variable {m N L:Nat}
theorem Auh {t:Tb} (h:TOk gW m N t) {i c:Nat} (hi:i<m) (hc:c<N+1) (h0:(tabV t).T i c≠0) (hp:W6 J5 m N (tabV t) i c):TOk gW m N (pivR t i c)/\tabV (pivR t i c)=Simp.piv (tabV t) i c:=by
 have cd:=Jx h hi;have dk:=h.rowW _ cd;have hb:=h.okr _ cd _ (Em (d:=q0) (k:=c) (by rw [dk]; exact hc));have d2:=Asc hb h0 (h.okr _ cd) fun j hj=>hp.row j (by rw [dk] at hj; exact hj);have dl:(ovR (at_ q0 (Bk t i) c) (Bk t i)).length=N+1:=Asd.trans dk;obtain ⟨d,hd⟩:∃ d,d=ovR (at_ q0 (Bk t i) c) (Bk t i):=⟨_,rfl⟩;rw [<- hd] at d2 dl;have hcm:at_ q0 t.cost c ∈ t.cost:=Em Za54;have r2:=Ag6 (i:=i) (k:=0) hc dl d2.1 (l:=put t.rows i d) (fun r hr=>by
  rcases Jb hr with rfl|hr
  ·exact dl
  ·exact h.rowW r hr) (fun r hr=>by
  rcases Jb hr with rfl|hr
  ·exact d2.1
  ·exact h.okr r hr) (fun n j hn hk hj=>by
  rw [Ak,h.rows] at hn;rw [Lz eI,if_neg aA,d2.2];exact ⟨hp.mul n j hn hj,hp.sub n j hn hj aA⟩)
 have k2:=Ar7 (h.okc _ hcm) (r:=d) (l:=t.cost) fV h.okc d2.1 (fun j hj=>by
  rw [dl] at hj;rw [d2.2];exact ⟨hp.cmul j hj,hp.csub j hj⟩)
 have hP:pivR t i c={ t with rows:=rowsR d c i 0 (put t.rows i d),cost:=lsR (at_ q0 t.cost c) t.cost d,basis:=put t.basis i c }:=by unfold pivR; rw [<- hd]
 rw [hP];refine ⟨⟨?_,?_,?_,r2.1,r2.2.1,k2.1⟩,?_⟩
 ·show (rowsR _ _ _ _ _).length=m;rw [Zo,Ak]; exact h.rows
 ·show (put _ _ _).length=m;rw [Ak]; exact h.basis
 ·show (lsR _ _ _).length=N+1;rw [Ab8 fV]; exact h.cost
 ·have eT:(tabV { t with rows:=rowsR d c i 0 (put t.rows i d),cost:=lsR (at_ q0 t.cost c) t.cost d,basis:=put t.basis i c }).T=(Simp.piv (tabV t) i c).T:=by
   funext i' j;show qv (at_ q0 (at_ [] (rowsR d c i 0 (put t.rows i d)) i') j)=Simp.pivT (tabV t) i c i' j;by_cases au:i'<m
   ·exact Ya0n
   ·have hn:at_ [] t.rows i'=[]:=Aaq (by rw [h.rows]; omega);have z:∀ j,(tabV t).T i' j=0:=fun j=>by
     show qv (at_ q0 (at_ [] t.rows i') j)=0;rw [hn,Px,Wz]
    have e2:at_ [] (rowsR d c i 0 (put t.rows i d)) i'=[]:=Aaq (by rw [Zo,Ak,h.rows]; omega);rw [e2,Px,Wz];unfold Simp.pivT;rw [if_neg aA,z,z]; grind
  have eC:(tabV { t with rows:=rowsR d c i 0 (put t.rows i d),cost:=lsR (at_ q0 t.cost c) t.cost d,basis:=put t.basis i c }).c=(Simp.piv (tabV t) i c).c:=by
   funext j;show qv (at_ q0 (lsR (at_ q0 t.cost c) t.cost d) j)=_;rw [k2.2,d2.2]; rfl
  have eB:(tabV { t with rows:=rowsR d c i 0 (put t.rows i d),cost:=lsR (at_ q0 t.cost c) t.cost d,basis:=put t.basis i c }).B=(Simp.piv (tabV t) i c).B:=by
   exact Ya1x
  exact Ya2m
theorem Atg {a b:Q} (ha:gW a) (hb:gW b):(cmpW a b<0↔qv a<qv b)/\(cmpW a b=0↔qv a=qv b):=by
 have p1:=ha.pos;have p2:=hb.pos;have r1:(0:Rat)<((a.2:Int):Rat):=Oz.2 p1;have r2:(0:Rat)<((b.2:Int):Rat):=Oz.2 p2;have key:∀ x y:Q,0<x.2->0<y.2->(x.1*y.2<y.1*x.2↔qv x<qv y):=fun x y hx hy=>by
  have s1:(0:Rat)<((x.2:Int):Rat):=Oz.2 hx;have s2:(0:Rat)<((y.2:Int):Rat):=Oz.2 hy;unfold qv;rw [Rat.div_lt_iff s1,<- Rat.intCast_lt_intCast,Fb,Fb];have e:((y.1:Int):Rat) / ((y.2:Int):Rat)*((x.2:Int):Rat)=(((y.1:Int):Rat)*((x.2:Int):Rat)) / ((y.2:Int):Rat):=aL
  rw [e,Rat.lt_div_iff s2]
 have k1:=key a b p1 p2;have k2:=key b a p2 p1;unfold cmpW;rw [Qs ha,Qs hb];unfold cmpZ;constructor
 ·rw [<- k1];split
  ·rename_i h; exact ⟨fun _=>h,fun _=>aA⟩
  ·rename_i h;split
   ·exact ⟨fun h'=>aA,fun h'=>absurd h' h⟩
   ·exact ⟨fun h'=>aA,fun h'=>absurd h' h⟩
 ·split
  ·rename_i h;have:=k1.1 h;exact ⟨fun h'=>aA,fun h'=>Za6x⟩
  ·rename_i h;have n1:¬ qv a<qv b:=fun h'=>h (k1.2 h');split
   ·rename_i h2;have:=k2.1 aA;exact ⟨fun h'=>aA,fun h'=>Za6x⟩
   ·rename_i h2;have n2:¬ qv b<qv a:=fun h'=>h2 (by have:=k2.2 h'; omega);exact ⟨fun _=>aL,fun _=>rfl⟩
def Ae0 (N c:Nat) (T:Simp.Tab) (k:Nat):Option Nat->Prop
 | none=>∀ i,i<k->T.T i c<=0
 | some i=>i<k/\0<T.T i c/\∀ i',i'<k->0<T.T i' c->T.T i N / T.T i c<=T.T i' N / T.T i' c/\(T.T i N / T.T i c=T.T i' N / T.T i' c->T.B i<=T.B i')
theorem Anj {t:Tb} (h:TOk gW m N t) {c i:Nat} (hc:c<N+1) (hi:i<m) (hF:K2 J5 m N c (tabV t)) (hp:0<(tabV t).T i c):gW (quoR (Bk t i) c t.cost.length)/\qv (quoR (Bk t i) c t.cost.length)=(tabV t).T i N / (tabV t).T i c:=by
 have cd:=Jx h hi;have hw:=h.rowW _ cd;have g1:=h.okr _ cd _ (Em (d:=q0) (k:=c) fM);have g2:=h.okr _ cd _ (Em (d:=q0) (k:=N) (by rw [hw]; omega));unfold quoR;rw [h.cost,jN];exact Am8 g2 g1 (by show (tabV t).T i c≠0; grind) (hF.quo i hi hp)
theorem Qc {t:Tb} (h:TOk gW m N t) {c:Nat} (hc:c<N+1) (hF:K2 J5 m N c (tabV t)):∀ {l:List (List Q)} {k:Nat} {b:Option Nat},t.rows.drop k=l->k<=m->Ae0 N c (tabV t) k b->Ae0 N c (tabV t) m (G3 t c k l b)
 | [],k,b,hl,hk,hb=>by
  exact Ya26
 | r :: l,k,b,hl,hk,hb=>by
  have mj:k<m:=by
   exact Ya0o
  have hd:=Ax (Uo (d:=[]) (l:=t.rows) (k:=k) Za55);rw [hl] at hd;obtain ⟨hr,hl2⟩:=List.cons.inj hd;have er:r=Bk t k:=hr;have cd:=Jx h mj;have hw:=h.rowW _ cd;have g1:=h.okr _ cd _ (Em (d:=q0) (k:=c) fM);have p1:=g1.pos;rw [er];unfold G3;by_cases hs:sgn (at_ q0 (Bk t k) c)<=0
  ·rw [if_pos hs];have hn:(tabV t).T k c<=0:=by
    have:¬ 0<qv (at_ q0 (Bk t k) c):=fun h'=>by have:=(Pk p1).2 h'; omega
    show qv (at_ q0 (Bk t k) c)<=0;grind
   refine Qc h hc hF hl2.symm mj ?_;cases b with
   | none =>
    intro i hi;by_cases e:i=k
    ·subst e; exact hn
    ·exact hb i aA
   | some bi =>
    obtain ⟨b1,b2,b5⟩:=hb;refine ⟨aA,b2,fun i' au hp=>?_⟩;by_cases e:i'=k
    ·subst e; grind
    ·exact b5 i' aA hp
  ·rw [if_neg hs];have hp:0<(tabV t).T k c:=(Pk p1).1 aA;cases b with
   | none =>
    refine Qc h hc hF hl2.symm mj ⟨aA,hp,fun i' au ez=>?_⟩;by_cases e:i'=k
    ·exact Ya0c
    ·have:=hb i' aA; grind
   | some bi =>
    obtain ⟨b1,b2,b5⟩:=hb;have q1:=Anj h hc mj hF hp;have q2:=Anj h hc (show bi<m by omega) hF b2;obtain ⟨c1,c2⟩:=Atg q1.1 q2.1;rw [q1.2,q2.2] at c1 c2;simp only;generalize cmpW (quoR (Bk t k) c t.cost.length) (quoR (Bk t bi) c t.cost.length)=s at c1 c2 ⊢;have eB:∀ i,at_ 0 t.basis i=(tabV t).B i:=fun _=>rfl;refine Qc h hc hF hl2.symm mj ?_;unfold Wv;rw [eB,eB];by_cases x1:s<0
    ·have hlt:=c1.1 x1;rw [if_pos (by simp [x1])];refine ⟨aA,hp,fun i' au ez=>?_⟩;by_cases e:i'=k
     ·exact Ya0c
     ·exact Ya4e
    ·by_cases x2:s=0
     ·have hz:=c2.1 x2;by_cases x3:(tabV t).B k<(tabV t).B bi
      ·rw [if_pos (by simp [x2,x3])];refine ⟨aA,hp,fun i' au ez=>?_⟩;by_cases e:i'=k
       ·exact Ya0c
       ·have h5:=b5 i' aA ez;refine ⟨by rw [hz]; exact h5.1,fun h'=>?_⟩;have:=h5.2 (by rw [<- hz]; exact h');omega
      ·rw [if_neg (by simp [x2,x3])];refine ⟨aA,b2,fun i' au ez=>?_⟩;exact Ya3w
     ·rw [if_neg (by simp [x1,x2])];have xq:(tabV t).T bi N / (tabV t).T bi c<(tabV t).T k N / (tabV t).T k c:=by
       have n1:¬ ((tabV t).T k N / (tabV t).T k c<(tabV t).T bi N / (tabV t).T bi c):=fun h'=>x1 (c1.2 h');have n2:¬ ((tabV t).T k N / (tabV t).T k c=(tabV t).T bi N / (tabV t).T bi c):=fun h'=>x2 (c2.2 h');grind
      refine ⟨aA,b2,fun i' au ez=>?_⟩;exact Ya3s
def Avc (m N L:Nat) (t0:Simp.Tab):Prop:=∀ K (R:Simp.Run m N L K),R.t 0=t0->(∀ c,c<L->K2 J5 m N c (R.t K))/\∀ r s,r<m->s<N->(R.t K).T r s≠0->W6 J5 m N (R.t K) r s
theorem Aqd {M Mc:Nat} {t0:Simp.Tab} (hM:1<=M) (hI:Ints m N M Mc t0) (hX:2*(bndX m M Mc*bndX m M Mc)<10000 ^ 200):Avc m N L t0:=fun K R h0=>by
 exact Ya1c
theorem Ab7 {t0:Simp.Tab} (hs:Avc m N L t0):∀ (n:Nat) {K:Nat} (R:Simp.Run m N L K) {t:Tb},R.t 0=t0->R.t K=tabV t->TOk gW m N t->N ^ m+1<=n+K ->
  ∃ b t',Nu L n t=some (b,t')/\TOk gW m N t'/\∃ K',∃ R':Simp.Run m N L K',R'.t 0=t0/\R'.t K'=tabV t'/\(b=true->∀ j,j<L->0<=(tabV t').c j)/\(b=false->∃ s,s<L/\(tabV t').c s<0/\∀ i,i<m->(tabV t').T i s<=0)
 | 0,K,R,t,h0,hK,ht,hn=>by have:=R.short; omega
 | n+1,K,R,t,h0,hK,ht,hn=>by
  have a11:=R.short;have hLN:=R.LN;have ef:=Adp Jm ht.okc (n:=L) (k:=0) (by rw [ht.cost]; omega);rw [Nu];cases hc:colF t.cost L 0 with
  | none =>
   rw [hc] at ef;exact ⟨true,t,rfl,ht,K,R,h0,hK,fun _ j hj=>ef j (Ci _) aA,fun h=>aV⟩
  | some c =>
   rw [hc] at ef;obtain ⟨-,hcL,hneg,vj⟩:=ef;simp only;have hcN:c<N+1:=aA
   have dw:=hs K R h0;have ji:=Qc ht hcN (by rw [<- hK]; exact dw.1 c aA) (l:=t.rows) (k:=0) (b:=none) rfl (Ci _) (fun i hi=>aA);cases hle:G3 t c 0 t.rows none with
   | none =>
    rw [hle] at ji;exact ⟨false,t,rfl,ht,K,R,h0,hK,fun h=>aV,fun _=>⟨c,aA,hneg,ji⟩⟩
   | some i =>
    rw [hle] at ji;obtain ⟨l1,l2,l5⟩:=ji;simp only;have h0':(tabV t).T i c≠0:=aL
    have j3:Simp.Step m N L (R.t K) i c:=by
     exact Ya1i
    obtain ⟨x1,x2⟩:=Auh ht l1 hcN h0' (by rw [<- hK]; exact dw.2 i c l1 aA (by rw [hK]; exact h0'));refine Ab7 hs n (R.more j3) (t:=pivR t i c) ?_ ?_ x1 aA
    ·rw [R.more_old j3 (Ci _)]; exact h0
    ·rw [R.more_last j3,x2,hK]
end
theorem iQ_g {n:Int} (h:i64 n):gW (iQ n):=Y1 h
theorem iQ_v (n:Int):qv (iQ n)=((n:Int):Rat):=by unfold qv iQ; simp only; show _ / ((1:Int):Rat)=_; rw [kS]; grind
theorem Aqi {a b:Int} (h:i64 (a - b)):(WW.qF.minus (iQ a) (iQ b)).1=iQ (a - b):=by
 have g:J2 (a - b) 1:=Y1 h;obtain ⟨-,h2,h3⟩:=g.fits;show (wn ((qz (a,1)).1*(qz (b,1)).2+-(qz (b,1)).1*(qz (a,1)).2) ((qz (a,1)).2*(qz (b,1)).2)).1=_;have e1:∀ x:Int,qz (x,1)=(x,1):=fun x=>by unfold qz; rw [if_neg (by simp)]
 rw [e1,e1];show (resN (a*1+-b*1) (1*1),resD (a*1+-b*1) (1*1))=_;rw [show a*1+-b*1=a - b by omega,show (1:Int)*1=1 from rfl,h2,h3]; rfl
theorem Arx {α:Type} {d:α} {l r:List α} {j:Nat} : at_ d (l++r) j=if j<l.length then at_ d l j else at_ d r (j - l.length):=by
 unfold at_;rw [Af,Af,Af];split
 ·rename_i h; rw [Cy h]
 ·rename_i h; rw [Fi aA]
theorem Afg {β:Type} {d:β} {n j:Nat} {f:Nat->β} : at_ d ((E7 n).map f) j=if j<n then f j else d:=by
 unfold at_;rw [Af,Fe];by_cases h:j<n
 ·rw [if_pos h,List.getElem?_range h]; rfl
 ·rw [if_neg h,C3 aC]; rfl
theorem T6 {s:Int} {cs:List (ByteArray × Int)} : ∀ {vs:List ByteArray},(Ja s cs vs).length=2*vs.length
 | []=>rfl
 | v :: vs=>by simp only [Ja,Cj,T6]; omega
theorem Y8 {s:Int} {cs:List (ByteArray × Int)} : ∀ {vs:List ByteArray} {k:Nat},k<vs.length->at_ q0 (Ja s cs vs) (2*k)=iQ (s*Hb cs (at_ ⟨#[]⟩ vs k))/\at_ q0 (Ja s cs vs) (2*k+1)=iQ (-s*Hb cs (at_ ⟨#[]⟩ vs k))
 | [],_,h=>aR
 | v :: vs,0,_=>⟨rfl,rfl⟩
 | v :: vs,k+1,h=>Y8 (vs:=vs) aO
theorem Vo {s:Int} {cs:List (ByteArray × Int)} {q:Q} : ∀ {vs:List ByteArray},q ∈ Ja s cs vs->∃ v,q=iQ (s*Hb cs v)\/q=iQ (-s*Hb cs v)
 | [],h=>aV
 | v :: vs,h=>by
  simp only [Ja,C4] at h;rcases h with h|h|h
  ·exact ⟨v,.inl h⟩
  ·exact ⟨v,.inr h⟩
  ·exact Vo h
theorem Aa0 {v:ByteArray} : ∀ {cs:List (ByteArray × Int)},Hb cs v=0\/∃ c ∈ cs,c.2=Hb cs v
 | []=>.inl rfl
 | c :: cs=>by
  rw [Hb];split
  ·exact .inr ⟨c,Cq ..,rfl⟩
  ·rcases Aa0 (v:=v) (cs:=cs) with h|⟨c',h1,h2⟩
   ·exact .inl h
   ·exact .inr ⟨c',Cr _ h1,h2⟩
def Dist (vars:List ByteArray):Prop:=∀ i j s,nth vars i=some s->nth vars j=some s->i=j
theorem Agc:∀ {l:List ByteArray},Inc l->Dist l
 | [],_=>fun i j s h _=>bO
 | x :: l,h=>by
  have hp:=Ib.1 h;have ih:=Agc hp.2;intro i j s h1 h2;cases i with
  | zero =>
   simp only [nth,Bg] at h1;subst h1;cases j with
   | zero=>rfl
   | succ j=>have:=hp.1 x (Aj (l:=l) (i:=j) h2); exact absurd this (lH _)
  | succ i =>
   cases j with
   | zero =>
    simp only [nth,Bg] at h2;subst h2;have:=hp.1 x (Aj (l:=l) (i:=i) h1); exact absurd this (lH _)
   | succ j=>have:=ih i j s h1 h2; omega
theorem Aoo (l:List RowT):Dist (Dx l):=Agc (Jz (D5 l)).1
theorem Yq {vars:List ByteArray} (hd:Dist vars) {k:Nat} {v:ByteArray} (hv:nth vars k=some v):∀ {cs:List (ByteArray × Int)},(∀ c ∈ cs,c.1 ∈ vars)->Hb cs v=cofI vars cs k
 | [],_=>rfl
 | c :: cs,h=>by
  have h1:=Y2 (h c (Cq ..));rw [Hb,cofI];by_cases e:c.1=v
  ·rw [if_pos (by rw [Q0]; simpa using e),if_pos (hd _ _ _ (by rw [<- e]; exact h1) hv)]
  ·rw [if_neg (by rw [Q0]; simpa using e),if_neg (fun e2=>e (by rw [e2,hv] at h1; simpa using h1.symm))];exact Yq hd hv fun c' h'=>h c' (Cr _ h')
theorem Arc (r:RowT):((sgI r:Int):Rat)=sgR r:=by
 unfold sgI sgR;by_cases h:0<r.2.1
 ·rw [if_pos aA,if_pos h]; rfl
 ·rw [if_neg aA,if_neg h]; rfl
theorem Aep {n:Int} {M:Nat} (r:RowT) (h:n.natAbs<=M):(sgI r*n).natAbs<=M/\(-sgI r*n).natAbs<=M:=by
 unfold sgI; split <;> omega
def Ld (vars:List ByteArray) (m i:Nat) (r:RowT) (j:Nat):Rat :=
 if j<2*vars.length then N1 (sgR r) vars r.1 (fun _=>0) j else if j=2*vars.length+m+i then 1 else if j=2*vars.length+i/\r.2.2=false then sgR r else if j=2*vars.length+m+m then -(sgR r*((r.2.1:Int):Rat)) else 0
section
variable {vars:List ByteArray} {m:Nat}
theorem T5 {i:Nat} {r:RowT} : (Jf vars m i r).length=2*vars.length+m+m+1:=by
 unfold Jf;simp only [Cn,T6,Fg,jX,O0];omega
theorem Qh {M:Nat} {i:Nat} {r:RowT} (hs:Gn M r) {q:Q} (h:q ∈ Jf vars m i r):∃ n:Int,q=iQ n/\n.natAbs<=M:=by
 have h1:=hs.one;unfold Jf at h;rw [Cu,Cu] at h;rcases h with (h|h)|h
 ·have hc:∀ v,(Hb r.1 v).natAbs<=M:=fun v=>by
   rcases Aa0 (v:=v) (cs:=r.1) with e|⟨c,h1,h2⟩
   ·rw [e]; simp
   ·rw [<- h2]; exact hs.cof c h1
  obtain ⟨v,h|h⟩:=Vo h
  ·exact ⟨_,h,(Aep r (hc v)).1⟩
  ·exact ⟨_,h,(Aep r (hc v)).2⟩
 ·obtain ⟨k,-,rfl⟩:=F6.1 h;refine ⟨_,rfl,?_⟩;unfold Y7 sgI;split
  ·simpa using h1
  ·split
   ·split <;> simpa using h1
   ·simp
 ·rw [Ft.1 h];exact ⟨_,rfl,(Aep r (n:=-r.2.1) (by have:=hs.con; omega)).1⟩
theorem Agj (hd:Dist vars) {i:Nat} (hi:i<m) {r:RowT} (hr:Gx vars r) {j:Nat} (hj:j<2*vars.length+m+m+1):qv (at_ q0 (Jf vars m i r) j)=Ld vars m i r j:=by
 have hl:(Ja (sgI r) r.1 vars++(E7 (2*m)).map (fun k=>iQ (Y7 m i r k))).length=2*vars.length+2*m:=by simp [T6]
 unfold Jf Ld;rw [Arx,hl];by_cases h1:j<2*vars.length+2*m
 ·rw [if_pos h1,Arx,T6];by_cases h2:j<2*vars.length
  ·rw [if_pos h2,if_pos h2];rcases Nat.mod_two_eq_zero_or_one j with h|h
   ·obtain ⟨k,rfl⟩:∃ k,j=2*k:=⟨j / 2,aA⟩;have hk:k<vars.length:=aA
    have hc:=Yq hd (Uo (d:=⟨#[]⟩) hk) hr.mem;rw [(Y8 hk).1,(H2 hr.dis _).1,iQ_v,hc,Fb,Arc]
   ·obtain ⟨k,rfl⟩:∃ k,j=2*k+1:=⟨j / 2,aA⟩;have hk:k<vars.length:=aA
    have hc:=Yq hd (Uo (d:=⟨#[]⟩) hk) hr.mem;rw [(Y8 hk).2,(H2 hr.dis _).2,iQ_v,hc,Fb,Og,Arc];grind
  ·rw [if_neg h2,if_neg h2,Afg,if_pos aA,iQ_v];unfold Y7;by_cases h3:j=2*vars.length+m+i
   ·rw [if_pos aA,if_pos h3]; rfl
   ·rw [if_neg aA,if_neg h3];by_cases h4:j=2*vars.length+i/\r.2.2=false
    ·rw [if_pos ⟨aA,h4.2⟩,if_pos h4]; exact Arc r
    ·rw [if_neg (fun h=>h4 ⟨aA,h.2⟩),if_neg h4,if_neg aA]; rfl
 ·rw [if_neg h1,if_neg aA,if_neg aA,if_neg (fun h=>aA),if_pos aA];have:j - (2*vars.length+2*m)=0:=aA
  rw [this,Akq,iQ_v,Fb,Og,Arc];grind
theorem Qi:∀ {l:List RowT} {i:Nat},(linesR vars m i l).length=l.length
 | [],_=>rfl
 | r :: l,i=>by simp only [linesR,Cj,Qi]
theorem Ab6:∀ {l:List RowT} {i k:Nat},k<l.length->at_ [] (linesR vars m i l) k=Jf vars m (i+k) (rwA l k)
 | [],_,_,h=>aR
 | r :: l,i,0,_=>rfl
 | r :: l,i,k+1,h=>by
  have:=Ab6 (l:=l) (i:=i+1) (k:=k) aO;rw [show i+1+k=i+(k+1) by omega] at this;exact this
theorem Nc {q:List Q} : ∀ {l:List RowT} {i:Nat},q ∈ linesR vars m i l->∃ r ∈ l,∃ k,q=Jf vars m k r
 | [],_,h=>aV
 | r :: l,i,h=>by
  simp only [linesR,C4] at h;rcases h with h|h
  ·exact ⟨r,Cq ..,i,h⟩
  ·obtain ⟨r',h1,k,h2⟩:=Nc h;exact ⟨r',Cr _ h1,k,h2⟩
theorem Afo {M k:Nat} : ∀ {rows:List (List Q)} {w:Int},(∀ r ∈ rows,∃ z:Int,at_ q0 r k=iQ z/\z.natAbs<=M)->w.natAbs+rows.length*M<=4000000000000000000->∃ v:Int,colR k rows (iQ w)=iQ v/\v.natAbs<=w.natAbs+rows.length*M/\((v:Int):Rat)=((w:Int):Rat) - Simp.sum rows.length fun i=>qv (at_ q0 (at_ [] rows i) k)
 | [],w,_,_=>⟨w,rfl,by simp,by show _=_ - (0:Rat); grind⟩
 | r :: l,w,h,hb=>by
  obtain ⟨z,e,hz⟩:=h r (Cq ..);have s9:w.natAbs+(l.length*M+M)<=4000000000000000000:=by rw [Cj,Nb] at hb; exact hb
  obtain ⟨v,e1,e2,e3⟩:=Afo (k:=k) (rows:=l) (w:=w - z) (fun r' h'=>h r' (Cr _ h')) aA;refine ⟨v,?_,by rw [Cj,Nb]; omega,?_⟩
  ·rw [colR,e,Aqi aD]; exact e1
  ·rw [e3,Cj,Simp.sum_head,Akq,e,iQ_v,kR];simp only [Atb];grind
end
section
variable {vars:List ByteArray} {l:List RowT}
theorem Aku (hd:Dist vars) (hm:l.length<=13) (hr:∀ r ∈ l,Gx vars r/\Gn 1000000000000 r) :
  TOk gW l.length (2*vars.length+l.length+l.length) (Gb l vars)/\Ints l.length (2*vars.length+l.length+l.length) 1000000000000 (l.length*1000000000000) (tabV (Gb l vars)) /\
  Agree l.length (2*vars.length+l.length+l.length) (tabV (Gb l vars)) (Simp.first l.length (2*vars.length+l.length) (fun i=>Ld vars l.length i (rwA l i)) fun i=>Ld vars l.length i (rwA l i) (2*vars.length+l.length+l.length)):=by
 have ho:∀ i,i<l.length->Gx vars (rwA l i)/\Gn 1000000000000 (rwA l i):=fun i hi=>hr _ (Em (d:=([],0,true)) hi);have bj:∀ i,i<l.length->Bk (Gb l vars) i=Jf vars l.length i (rwA l i):=fun i hi=>by
  show at_ [] (linesR vars l.length 0 l) i=_;rw [Ab6 hi,Fk]
 have hT:∀ i j,i<l.length->j<2*vars.length+l.length+l.length+1->(tabV (Gb l vars)).T i j=Ld vars l.length i (rwA l i) j:=fun i j hi hj=>by
  show qv (at_ q0 (Bk (Gb l vars) i) j)=_;rw [bj i hi]; exact Agj hd hi (ho i hi).1 hj
 have hcell:∀ k,k<2*vars.length+l.length+l.length+1->∀ r ∈ linesR vars l.length 0 l,∃ z:Int,at_ q0 r k=iQ z/\z.natAbs<=1000000000000:=fun k hk r h=>by
  obtain ⟨r',h1,i,rfl⟩:=Nc h;exact Qh (hr r' h1).2 (Em (by rw [T5]; exact hk))
 have m6:∀ k,k<2*vars.length+l.length+l.length+1->∃ v:Int,at_ q0 (Gb l vars).cost k=iQ v/\v.natAbs<=1+l.length*1000000000000/\((v:Int):Rat)=(if 2*vars.length+l.length<=k/\k<2*vars.length+l.length+l.length then 1 else 0) - Simp.sum l.length fun i=>Ld vars l.length i (rwA l i) k:=fun k hk=>by
  have hw:∀ b:Prop,[Decidable b]->(if b then (1:Int) else 0).natAbs<=1:=fun b _=>by split <;> decide
  obtain ⟨v,e1,e2,e3⟩:=Afo (k:=k) (rows:=linesR vars l.length 0 l) (w:=if 2*vars.length+l.length<=k/\k<2*vars.length+l.length+l.length then 1 else 0) (hcell k hk) (by
   rw [Qi];have:=hw (2*vars.length+l.length<=k/\k<2*vars.length+l.length+l.length);have:=F8 1000000000000 hm;omega)
  rw [Qi] at e2 e3;refine ⟨v,?_,?_,?_⟩
  ·show at_ q0 ((E7 (2*vars.length+l.length+l.length+1)).map _) k=_;rw [Afg,if_pos hk]; exact e1
  ·have:=hw (2*vars.length+l.length<=k/\k<2*vars.length+l.length+l.length); omega
  ·rw [e3];have e:∀ b:Prop,[Decidable b]->(((if b then (1:Int) else 0):Int):Rat)=if b then 1 else 0:=fun b _=>by split <;> rfl
   rw [e];congr 1;exact Simp.sum_congr fun i hi=>hT i k hi hk
 have hcv:∀ k,k<2*vars.length+l.length+l.length+1->(tabV (Gb l vars)).c k=if k<2*vars.length+l.length then -Simp.sum l.length (fun i=>Ld vars l.length i (rwA l i) k) else if k<2*vars.length+l.length+l.length then 0 else -Simp.sum l.length fun i=>Ld vars l.length i (rwA l i) (2*vars.length+l.length+l.length):=fun k hk=>by
  obtain ⟨v,e1,-,e3⟩:=m6 k hk;show qv (at_ q0 (Gb l vars).cost k)=_;rw [e1,iQ_v,e3];by_cases h1:k<2*vars.length+l.length
  ·rw [if_neg aA,if_pos h1]; grind
  ·rw [if_neg h1];by_cases h2:k<2*vars.length+l.length+l.length
   ·rw [if_pos ⟨aA,h2⟩,if_pos h2];rw [Simp.sum_congr (g:=fun i=>if i=k - (2*vars.length+l.length) then 1 else 0) fun i hi=>?_,Simp.sum_one (f:=fun _=>(1:Rat)) aA]
    ·grind
    ·unfold Ld;rw [if_neg aA];by_cases h3:k=2*vars.length+l.length+i
     ·rw [if_pos h3,if_pos aA]
     ·rw [if_neg h3,if_neg aA,if_neg (fun h=>aA),if_neg aA]
   ·rw [if_neg (fun h=>h2 h.2),if_neg h2,show k=2*vars.length+l.length+l.length by omega]; grind
 refine ⟨⟨Qi,by simp [Gb],by simp [Gb],fun r h=>?_,fun r h q hq=>?_,fun q h=>?_⟩,⟨fun i j hi hj=>?_,fun j hj=>?_⟩,⟨fun i j hi hj=>?_,fun j hj=>?_,fun i hi=>?_⟩⟩
 ·obtain ⟨r',-,i,rfl⟩:=Nc h;exact T5
 ·obtain ⟨r',h1,i,rfl⟩:=Nc h;obtain ⟨n,rfl,hn⟩:=Qh (hr r' h1).2 hq;exact iQ_g aD
 ·obtain ⟨k,hk,rfl⟩:=F6.1 h;have wm:=iR.1 hk;obtain ⟨v,e1,e2,-⟩:=m6 k wm;have e0:at_ q0 (Gb l vars).cost k=Ah4 (linesR vars l.length 0 l) (2*vars.length+l.length) l.length k:=by
   show at_ q0 ((E7 (2*vars.length+l.length+l.length+1)).map _) k=_;rw [Afg,if_pos wm]
  have:Ah4 (linesR vars l.length 0 l) (2*vars.length+l.length) l.length k=iQ v:=by rw [<- e0]; exact e1
  show gW (Ah4 (linesR vars l.length 0 l) (2*vars.length+l.length) l.length k);rw [this];exact iQ_g (by have:=F8 1000000000000 hm; unfold i64; omega)
 ·obtain ⟨n,e,hn⟩:=Qh (vars:=vars) (m:=l.length) (i:=i) (ho i hi).2 (Em (d:=q0) (k:=j) (l:=Jf vars l.length i (rwA l i)) (by rw [T5]; exact hj));refine ⟨n,?_,hn⟩;show qv (at_ q0 (Bk (Gb l vars) i) j)=_;rw [bj i hi,e,iQ_v]
 ·obtain ⟨v,e1,e2,e3⟩:=m6 j hj;by_cases h1:2*vars.length+l.length<=j/\j<2*vars.length+l.length+l.length
  ·refine ⟨0,?_,by simp⟩;rw [hcv j hj,if_neg aA,if_pos h1.2]; rfl
  ·obtain ⟨w,f1,f2⟩:=Zv (M:=1000000000000) (n:=l.length) (f:=fun i=>Ld vars l.length i (rwA l i) j) fun i hi=>by
    obtain ⟨n,e,hn⟩:=Qh (vars:=vars) (m:=l.length) (i:=i) (ho i hi).2 (Em (d:=q0) (k:=j) (l:=Jf vars l.length i (rwA l i)) (by rw [T5]; exact hj));exact ⟨n,by rw [<- Agj hd hi (ho i hi).1 hj,e,iQ_v],hn⟩
   refine ⟨-w,?_,aA⟩;show qv (at_ q0 (Gb l vars).cost j)=_;rw [e1,iQ_v,e3,if_neg h1,f1,Og]; grind
 ·show _=if j<2*vars.length+l.length then _ else if j<2*vars.length+l.length+l.length then (if j=2*vars.length+l.length+i then 1 else 0) else _
  rw [hT i j hi hj];by_cases h1:j<2*vars.length+l.length
  ·rw [if_pos h1]
  ·rw [if_neg h1];by_cases h2:j<2*vars.length+l.length+l.length
   ·rw [if_pos h2];unfold Ld;rw [if_neg aA];by_cases h3:j=2*vars.length+l.length+i
    ·rw [if_pos h3,if_pos h3]
    ·rw [if_neg h3,if_neg h3,if_neg (fun h=>aA),if_neg aA]
   ·rw [if_neg h2,show j=2*vars.length+l.length+l.length by omega]
 ·exact hcv j hj
 ·show at_ 0 ((E7 l.length).map _) i=_;rw [Afg,if_pos hi]; rfl
theorem Apy (hr:∀ r ∈ l,Gx vars r):Simp.Cols (sysY vars l) (2*vars.length+l.length) (fun i=>sgR (rwA l i)) (fun i=>2*vars.length+i) (fun i=>Ld vars l.length i (rwA l i)) fun i=>Ld vars l.length i (rwA l i) (2*vars.length+l.length+l.length):=by
 have ho:∀ i,i<l.length->Gx vars (rwA l i):=fun i hi=>hr _ (Em (d:=([],0,true)) hi);refine ⟨fun i hi=>?_,Mn _ _,fun i k hi hk=>?_,fun i k hi hk=>?_,fun i j hi h1 h2=>?_,fun i hi he=>?_,fun i k hi hk h1 h2 h3=>aA,fun i hi=>?_⟩
 ·unfold sgR; split <;> grind
 ·have wm:k<vars.length:=hk;unfold Ld;rw [if_pos aA];exact (H2 (ho i hi).dis k).1
 ·have wm:k<vars.length:=hk;unfold Ld;rw [if_pos aA];exact (H2 (ho i hi).dis k).2
 ·have qa:2*vars.length<=j:=h1;have au:i<l.length:=hi;unfold Ld;rw [if_neg aA,if_neg aA];show _=if (rwA l i).2.2=false/\j=2*vars.length+i then _ else 0
  by_cases h:j=2*vars.length+i/\(rwA l i).2.2=false
  ·rw [if_pos h,if_pos (Cc h.2 h.1)]
  ·have hn:¬ ((rwA l i).2.2=false/\j=2*vars.length+i):=fun h'=>h ⟨h'.2,h'.1⟩;rw [if_neg h,if_neg aA,if_neg hn]
 ·have au:i<l.length:=hi;exact ⟨Mn _ _,aA⟩
 ·have au:i<l.length:=hi;unfold Ld;rw [if_neg aA,if_neg aA,if_neg (fun h=>aA),if_pos rfl]; rfl
theorem Alu (hd:Dist vars) (hm:l.length<=13) (hr:∀ r ∈ l,Gx vars r/\Gn 1000000000000 r) {K:Nat} (hK:(2*vars.length+l.length+l.length) ^ l.length+1<=K) :
  ∃ b t',Nu (2*vars.length+l.length+l.length) K (Gb l vars)=some (b,t')/\TOk gW l.length (2*vars.length+l.length+l.length) t'/\(Jd t'=true↔∃ v,Sat v l):=by
 have bz:∀ r ∈ l,Gx vars r:=fun r h=>(hr r h).1;obtain ⟨h1,h2,h3⟩:=Aku hd hm hr;have hR:∃ R:Simp.Run l.length (2*vars.length+l.length+l.length) (2*vars.length+l.length+l.length) 0,R.t 0=tabV (Gb l vars) :=
  ⟨Simp.Run.none (h3.fit (Simp.first_fit _ _ _ _)) (Ce _) (fun i hi=>by
   rw [h3.T i _ hi aA];show 0<=if 2*vars.length+l.length+l.length<2*vars.length+l.length then _ else if 2*vars.length+l.length+l.length<2*vars.length+l.length+l.length then _ else _
   rw [if_neg aA,if_neg aA];have h:=Tk (vars:=vars) (l:=l) hi;rw [Pj hi] at h;unfold rowR at h;rw [if_pos aA] at h;show 0<=Ld vars l.length i (rwA l i) (2*vars.length+l.length+l.length);unfold Ld;rw [if_neg aA,if_neg aA,if_neg (fun h=>aA),if_pos rfl]; exact h),rfl⟩
 obtain ⟨R,h0⟩:=hR;obtain ⟨b,t',e1,e2,K',R',e3,e4,e5,e6⟩:=Ab7 (Aqd (M:=1000000000000) (Mc:=l.length*1000000000000) aA h2 (Aav hm rfl)) K R h0 h0 h1 aA;refine ⟨b,t',e1,e2,?_⟩;rw [Abf Jm e2,<- Anr bz,<- (Apy bz).solve,<- e4];refine Ag7 R' (by rw [e3]; exact h3) (Mn _ _) ?_;rw [e4];cases b with
 | true=>exact .inl (e5 rfl)
 | false=>exact .inr (e6 rfl)
end
end
section
open Go Tryz
set_option maxHeartbeats 8000000
set_option maxRecDepth 100000
def Ady (r:RowT):Bool:=decide (sgI r<0)
structure Ae8 (l:List RowT) (vars:List ByteArray):Prop where
 hm:l.length<=1000
 hv:vars.length<=1000
 hcl:∀ r ∈ l,r.1.length<=1048576
 hc:∀ r ∈ l,∀ c ∈ r.1,inB c.2=true
 hn:∀ r ∈ l,inB r.2.1=true
structure Apn (S:List Ent) (k:Nat) (l:List RowT) (vars:List ByteArray) (SS:List Ent) (tk1:List Nat) (cc:Cap) (q:Nat) (I:TI):Prop where
 hq:q<=l.length
 P:PTab SS I (linesR vars l.length 0 (l.take q)) ((E7 q).map (2*vars.length+l.length+·)) ((l.take q).map Ady) vars l.length (2*vars.length+l.length+l.length+1) cc (.frz [] .nilc)
 it:I.it=S.length
 et:I.et=k
 ir:I.ir=S.length+4
 ib:I.ib=S.length+5
 len:SS.length=S.length+1+(if q=0 then 0 else 3*q+2)
 cap:Be tk1 cc 1=true
 fr:∀ j,j<S.length->nth SS j=nth S j
 ge:∀ p ∈ I.ids,S.length<=p.1
theorem Xv {n:Int} (h:i64 n):okW (iQ n):=(WW.Du.whole n h)
section
variable (S:List Ent) (tk:List Nat) (k:Nat)
theorem Ah0 (l:List RowT) (vars:List ByteArray) (hR:Ae8 l vars) (Φ:Rs->Prop)
  (fin:∀ SS n1 tk1 cc I T,Apn S k l vars SS tk1 cc l.length I->T.length=119->getT T 3=.ref S.length k 0->getT T 56=.int ((2*vars.length+l.length+l.length+1:Nat):Int)->getT T 57=.int ((0:Nat):Int)->Gd finM Φ (KA prog Tryz.f113 9 [] ⟨T,SS,tk1,n1⟩)) (T:List AV)
  (hTl:T.length=119) (t3:getT T 3=.ref S.length k 0) (t15:getT T 15=.frz (l.map rowC) .unk) (t16:getT T 16=.int (l.length:Nat)) (t17:getT T 17=.int ((0:Nat):Int)) :
  Gd finM Φ (KA prog Tryz.f113 3 [] ⟨T,S++[(⟨k,[.frz [] .nilc,.frz [] .nilc,.frz [] .nilc,.frz (vars.map strC) .unk,.frz [] .nilc,.prim (.int .i64 (l.length:Int))]⟩:Ent)],tk,k+1⟩):=by
 obtain ⟨hm,hv,hcl,hc,hn⟩:=hR;refine Wl rfl (t:=.mk) ?_;refine Ef (P:=prog) (fun x st=>st.T.length=119/\(Apn S k l vars x.1 x.2.2.1 x.2.2.2.1 x.2.2.2.2.1 x.2.2.2.2.2)/\getT st.T 3=.ref S.length k 0/\getT st.T 15=.frz (l.map rowC) .unk/\getT st.T 16=.int (l.length:Nat)/\getT st.T 17=.int (x.2.2.2.2.1:Nat)/\st.S=x.1/\st.tk=x.2.2.1/\st.n=x.2.1) (fun x=>l.length - x.2.2.2.2.1) ((S++[(⟨k,[.frz [] .nilc,.frz [] .nilc,.frz [] .nilc,.frz (vars.map strC) .unk,.frz [] .nilc,.prim (.int .i64 (l.length:Int))]⟩:Ent)]),(k+1),tk,Cap.nilc,0,(⟨S.length,k,S.length+4,0,0,0,S.length+5,0,[]⟩:TI)) ?_ ?_;case refine_2=>exact ⟨aH,⟨Ci _,⟨Bm,rfl,rfl,fun h=>absurd rfl h,fun h=>absurd rfl h,fun i p r h=>bO,fun r h=>by simp [linesR] at h,fun r h=>by simp [linesR] at h,by show S.length≠S.length+4; omega,by show S.length≠S.length+5; omega,by show S.length+4≠S.length+5; omega,fun p h=>aR,⟨by simp,fun p h=>aR⟩,fun i j p q h=>bO⟩,rfl,rfl,rfl,rfl,by simp,rfl,fun j hj=>Bj hj,fun p h=>aR⟩,aH,aH,aH,aH,aH,aH,aH⟩
 rintro ⟨SS,n1,tk1,cc,q,I⟩ ⟨T,S',tk',n'⟩ ⟨hl,hI,e3,e15,e16,e17,eS,eT,eN⟩ IH;simp only at hI e3 e15 e16 e17 eS eT eN;subst eS eT eN;obtain ⟨g,hg,hT⟩:=Ap hl;rw [hg] at e3 e15 e16 e17;subst hT;clear hg hl;have hI0:=hI;obtain ⟨hq,hP,a8,hIe,hIr,hIb,hL,hcap,aw,lh⟩:=hI;by_cases vk:q<l.length
 ·have c1:decide ((q:Int)<(l.length:Int))=true:=by simpa using vk
  have hw:B8.wrap ((q:Int)+1)=((q+1:Nat):Int):=aS
  obtain ⟨r,hr⟩:=Ab vk;have ae:nth (l.map rowC) q=some (rowC r):=by rw [Dd,hr]; rfl
  have pz:=Aj hr;have jz:l.take (q+1)=l.take q++[r]:=by rw [Af] at hr; rw [iN,hr]; rfl
  have hql:(l.take q).length=q:=aC
  obtain ⟨R,hRe⟩:∃ R,R=linesR vars l.length 0 (l.take q):=⟨_,rfl⟩;obtain ⟨B,hBe⟩:∃ B,B=(E7 q).map (2*vars.length+l.length+·):=⟨_,rfl⟩;obtain ⟨F,hFe⟩:∃ F,F=(l.take q).map Ady:=⟨_,rfl⟩;obtain ⟨W,ql⟩:∃ W,W=2*vars.length+l.length+l.length+1:=⟨_,rfl⟩;have hRl:R.length=q:=by rw [hRe,Rq,hql]
  have hBl:B.length=q:=by rw [hBe]; simp
  have hFl:F.length=q:=by rw [hFe,Fg,hql]
  rw [<- hRe,<- hBe,<- hFe,<- ql] at hP;have ag:=hP.top;rw [a8,hIe,hRl,hBl] at ag;obtain ⟨thd,og⟩:∃ x,x=shd I.ir I.er q:=⟨_,rfl⟩;obtain ⟨bhd,qw⟩:∃ x,x=shd I.ib I.eb q:=⟨_,rfl⟩;rw [<- og,<- qw] at ag;have hb1:CkF (isB thd):=⟨by rw [og]; cases q <;> rfl⟩;have hb2:CkF (isB bhd):=⟨by rw [qw]; cases q <;> rfl⟩;obtain ⟨S1,ci⟩:∃ X,X=S'++[(⟨n',rowC r⟩:Ent)]:=⟨_,rfl⟩;have a4g:S1.length=S'.length+1:=by rw [ci]; simp
  have oh:entAt S1 S.length k=some [thd,bhd,.frz [] .nilc,.frz (vars.map strC) .unk,.frz (F.map Di) cc,.prim (.int .i64 (l.length:Int))]:=by rw [ci]; exact Ad ag
  have jg:entAt S1 S'.length n'=some (rowC r):=by rw [ci]; exact Bm
  obtain ⟨o,bo,S2,k2,ep,rfl,hl2,bm,j6,he2⟩:=Ao6 S1 tk' (n'+1) S.length k thd bhd (.frz [] .nilc) vars l.length F cc q r ⟨aA,hcap,aA,vk,aA,aA,hcl r pz,hc r pz,hn r pz⟩ oh;have hWr:(Jf vars l.length q r).length=W:=by unfold Jf; simp only [Cn,Vn,Fg,jX,O0]; omega
  rw [hWr] at bo;simp only [intA] at j6;have td:S1.length<=S2.length:=aA
  have yz:ldA prog 168 (.ref S.length k 0) S2=some thd:=by
   simp (disch:=try exact dqd) only [evs1,j6]
  have hra:=fun {all T X} (h1:loadsB all (some 30)=[(168,.tmp 25,some 26,true)]) (h2:X.length<=S2.length) (h3:decide (26<T.length)=true) (h4:getT T 25=.ref S.length k 0) (h5:getT T 26=thd)=>Axd (P:=prog) (S:=X) h1 h2 h3 h4 h5 yz;obtain ⟨flp,se⟩:∃ x,x=AV.frz ((F++[decide (sgI r<0)]).map Di) (Ay tk' cc 1):=⟨_,rfl⟩;rw [<- se] at j6;have sf:S2.length=S'.length+3:=aA
  have hSlt:S.length<S'.length:=by rw [hL]; omega
  have li:∀ j,j<S'.length->j≠S.length->nth S2 j=nth S' j:=fun j h1 h2=>by rw [bm j aA h2,ci,Bj h1]
  have dx:(I.ids.map (dp W 4)).length=q:=by rw [Fg,hP.nids,hRl]
  have iu:∀ {α:Type} {ls:List α},ls.length=q->(ls=[]↔q=0):=fun h=>by rw [<- C5,h]
  have aj:I.ids.map (dp W 4)=[]->S2.length=I.ir:=fun h=>by
   have:=(iu dx).1 h;rw [sf,hL,hIr,if_pos this]
  have ba:I.ids.map (dp W 4)≠[]->entAt S2 I.ir I.er=some (I.ids.map (dp W 4)):=fun h=>by
   have pq:q≠0:=fun e=>h ((iu dx).2 e);rw [Ac (li I.ir (by rw [hL,hIr,if_neg pq]; omega) aA)];exact hP.rowsE fun e=>pq ((iu hRl).1 e)
  have a0p:(B.map intA).length=q:=by rw [Fg,hBl]
  obtain ⟨S3,cu⟩:∃ X,X=Km S2 I.ir k2 (I.ids.map (dp W 4)) (dp W 4 (S1.length+1,ep)):=⟨_,rfl⟩;have a18:∀ t,t=168->apO prog t thd (.lit 1 [.sref (S1.length+1) ep 0 W 4]) S2 k2=some (.sref I.ir k2 0 (q+1) 1,S3,k2+1):=fun t ht=>by
   have:=Akj (P:=prog) (t:=t) (S:=S2) (id:=I.ir) (e:=I.er) (n:=k2) (ls:=I.ids.map (dp W 4)) (x:=dp W 4 (S1.length+1,ep)) (y:=.lit 1 [.sref (S1.length+1) ep 0 W 4]) (by rw [ht]; kernel_rfl) rfl aj ba aA;rw [dx,<- og,<- cu] at this;exact this
  have a18:=a18 _ rfl;have pg:S3.length=S2.length+(if q=0 then 1 else 0):=by rw [cu,Us]; simp only [iu dx]
  have si:∀ j,j<S2.length->j≠I.ir->nth S3 j=nth S2 j:=fun j h1 h2=>by rw [cu,Ut h2 h1]
  have qd:entAt S3 S.length k=some [thd,bhd,.frz [] .nilc,.frz (vars.map strC) .unk,flp,.prim (.int .i64 (l.length:Int))]:=by rw [Ac (si _ aA aA)]; exact j6
  obtain ⟨S4,hS4⟩:∃ X,X=put S3 S.length ⟨k,[.sref I.ir k2 0 (q+1) 1,bhd,.frz [] .nilc,.frz (vars.map strC) .unk,flp,.prim (.int .i64 (l.length:Int))]⟩:=⟨_,rfl⟩;have a21:S.length<S3.length:=aA
  have sj:S4.length=S3.length:=by rw [hS4,Am]
  have xe:entAt S4 S.length k=some [.sref I.ir k2 0 (q+1) 1,bhd,.frz [] .nilc,.frz (vars.map strC) .unk,flp,.prim (.int .i64 (l.length:Int))]:=by rw [hS4]; exact Ah a21
  have sk:∀ j,j≠S.length->nth S4 j=nth S3 j:=fun j h=>by rw [hS4,Ae (I8 h)]
  have cq:=fun tk n=>Pu S4 tk n S.length k _ bhd _ flp vars l.length xe aA aA;obtain ⟨bv,hbv⟩:∃ x,x=2*vars.length+l.length+q:=⟨_,rfl⟩;have hwb:B8.wrap (((2*vars.length+l.length:Nat):Int)+(q:Int))=(bv:Int):=by rw [Aa aD,hbv]; rfl
  have hK0:B.map intA=[]->S4.length=I.ib:=fun h=>by
   have:=(iu a0p).1 h;rw [sj,pg,sf,hL,hIb,if_pos this,if_pos this]
  have dt:B.map intA≠[]->entAt S4 I.ib I.eb=some (B.map intA):=fun h=>by
   have pq:q≠0:=fun e=>h ((iu a0p).2 e);rw [Ac (sk I.ib aA),Ac (si I.ib (by rw [sf,hL,hIb,if_neg pq]; omega) aA),Ac (li I.ib (by rw [hL,hIb,if_neg pq]; omega) aA)];exact hP.basisE fun e=>pq ((iu hRl).1 e)
  obtain ⟨S5,hS5⟩:∃ X,X=Km S4 I.ib (k2+1) (B.map intA) (intA bv):=⟨_,rfl⟩;have a19:∀ t,t=58->∀ c,apO prog t bhd (.frz [[.prim (.int .i64 (bv:Int))]] c) S4 (k2+1)=some (.sref I.ib (k2+1) 0 (q+1) 1,S5,k2+1+1):=fun t ht c=>by
   have:=Akj (P:=prog) (t:=t) (S:=S4) (id:=I.ib) (e:=I.eb) (n:=k2+1) (ls:=B.map intA) (x:=intA bv) (y:=.frz [[.prim (.int .i64 (bv:Int))]] c) (by rw [ht]; kernel_rfl) rfl hK0 dt aA;rw [a0p,<- qw,<- hS5] at this;exact this
  have a19:=a19 _ rfl;have a2a:S5.length=S4.length+(if q=0 then 1 else 0):=by rw [hS5,Us]; simp only [iu a0p]
  have sm:∀ j,j<S4.length->j≠I.ib->nth S5 j=nth S4 j:=fun j h1 h2=>by rw [hS5,Ut h2 h1]
  have ht5:entAt S5 S.length k=some [.sref I.ir k2 0 (q+1) 1,bhd,.frz [] .nilc,.frz (vars.map strC) .unk,flp,.prim (.int .i64 (l.length:Int))]:=by rw [Ac (sm _ aA aA)]; exact xe
  obtain ⟨S6,hS6⟩:∃ X,X=put S5 S.length ⟨k,[.sref I.ir k2 0 (q+1) 1,.sref I.ib (k2+1) 0 (q+1) 1,.frz [] .nilc,.frz (vars.map strC) .unk,flp,.prim (.int .i64 (l.length:Int))]⟩:=⟨_,rfl⟩;have a23:=ci.symm;have a4h:=hS4.symm;have a4i:=hS6.symm;simp only [rowC,Ag] at ae bo a23 jg;simp (maxSteps:=10^6)+contextual(disch:=try exact dqd)only[evgm,simprocAttr,Ca,Bo,Cb,results113,e3,e15,e16,e17,c1,ae,vk,hw,a23,jg,oh,hb1,hb2,bo,td,hra,j6,Qj,a18,qd,a4h,xe,cq,gO_refl,hwb,a19,ht5,a4i,xfs];have e1:linesR vars l.length 0 (l.take (q+1))=R++[Jf vars l.length q r]:=by rw [jz,Vp,hql,Fk,<- hRe]
  have e2:(E7 (q+1)).map (2*vars.length+l.length+·)=B++[bv]:=by rw [List.range_succ,C9,<- hBe,hbv]; rfl
  have e3:(l.take (q+1)).map Ady=F++[Ady r]:=by rw [jz,C9,<- hFe]; rfl
  have sn:∀ j,j≠S.length->nth S6 j=nth S5 j:=fun j h=>by rw [hS6,Ae (I8 h)]
  have hnr:S1.length+1≠S.length/\S1.length+1≠I.ir/\S1.length+1≠I.ib:=by
   rw [hIr,hIb,a4g,hL];exact Ya3v
  have a2b:S6.length=S5.length:=by rw [hS6,Am]
  have lj:okL WW.qF (Jf vars l.length q r):=by
   intro x hx;unfold Jf at hx;rw [Cu,Cu] at hx;have rh : -1000000000000<=r.2.1/\r.2.1<=1000000000000:=by simpa [inB] using hn r pz
   have hsb:sgI r=1\/sgI r=-1:=by unfold sgI; split <;> simp
   rcases hx with (hx|hx)|hx
   ·obtain ⟨v,h|h⟩:=Vo hx
    ·have:=Yp (v:=v) (hc r pz);rw [h]; exact Xv Za1a
    ·have:=Yp (v:=v) (hc r pz);rw [h]; exact Xv Za1a
   ·obtain ⟨a,-,rfl⟩:=F6.1 hx;refine Xv ?_;unfold Y7;split
    ·unfold i64; omega
    ·split
     ·unfold i64; omega
     ·unfold i64; omega
   ·rw [Ft.1 hx];exact Xv Za1a
  have hP2:=hP.add (S':=S6) (cc':=Ay tk' cc 1) (er:=k2) (eb:=k2+1) (id:=S1.length+1) (ep:=ep) (b:=bv) (f:=Ady r) (row:=Jf vars l.length q r)
   (by rw [a8,hIe,hS6,Ah aA,hRl,se]; rfl)
   (by rw [Ac (sn _ aA),Ac (sm _ (by rw [sj,pg,sf,hL,hIr]; split <;> omega) aA),Ac (sk _ aA),cu,Xd aj (fun h=>A7 (ba h)),C9]; rfl)
   (by rw [Ac (sn _ aA),hS5,Xd hK0 (fun h=>A7 (dt h)),C9]; rfl)
   (by rw [Ac (sn _ hnr.1),Ac (sm _ Za62 hnr.2.2),Ac (sk _ hnr.1),Ac (si _ aA hnr.2.1)]; exact he2)
   hWr lj
   (fun p hp=>by
    have h1:=hP.row p hp;have h2:=hP.lt.2 p hp;rw [sn _ Za4y,sm _ Za62 h1.2.2,sk _ Za4y,si _ aA h1.2.1,li _ h2 Za4y])
   (by rw [a2b,a2a,sj,pg]; omega) ⟨by rw [a8]; exact hnr.1,hnr.2.1,hnr.2.2⟩ aA (by rw [a2b,a2a,sj,pg]; omega)
  have hN:Apn S k l vars S6 (Eh tk' cc) (Ay tk' cc 1) (q+1) { I with er:=k2,eb:=k2+1,ids:=I.ids++[(S1.length+1,ep)] }:=⟨vk,by rw [e1,e2,e3,<- ql]; exact hP2,a8,hIe,hIr,hIb,by rw [a2b,a2a,sj,pg,sf,hL,if_neg (show ¬ q+1=0 by omega)]; split <;> omega,Ba hcap,fun j hj=>by rw [sn _ aA,sm _ Za62 aA,sk _ aA,si _ aA aA,li _ aA aA]; exact aw j hj,fun p hp=>by
   rcases Cu.1 hp with hp|hp
   ·exact lh p hp
   ·rw [Ft.1 hp]; show S.length<=S1.length+1; omega⟩
  exact IH (S6,k2+1+1,Eh tk' cc,Ay tk' cc 1,q+1,{ I with er:=k2,eb:=k2+1,ids:=I.ids++[(S1.length+1,ep)] }) _ aF ⟨rfl,hN,aU⟩
 ·have c1:decide ((q:Int)<(l.length:Int))=false:=by simpa using vk
  have hqe:q=l.length:=aA
  subst hqe;have ag:=hP.top;rw [a8,hIe] at ag;obtain ⟨thd,og⟩:∃ x,x=shd I.ir I.er (linesR vars l.length 0 (l.take l.length)).length:=⟨_,rfl⟩;obtain ⟨bhd,qw⟩:∃ x,x=shd I.ib I.eb ((E7 l.length).map (2*vars.length+l.length+·)).length:=⟨_,rfl⟩;obtain ⟨flp,se⟩:∃ x,x=AV.frz (((l.take l.length).map Ady).map Di) cc:=⟨_,rfl⟩;rw [<- og,<- qw,<- se] at ag;have cq:=fun tk n=>Pu S' tk n S.length k _ bhd _ flp vars l.length ag aA aA;have hw1:B8.wrap (((2*vars.length+l.length:Nat):Int)+(l.length:Int))=((2*vars.length+l.length+l.length:Nat):Int):=aS
  have hw2:B8.wrap (((2*vars.length+l.length+l.length:Nat):Int)+1)=((2*vars.length+l.length+l.length+1:Nat):Int):=aS
  simp (maxSteps:=10^6)+contextual(disch:=try exact dqd)only[evgm,simprocAttr,Ca,Bo,Cb,results113,e3,e15,e16,e17,c1,ag,cq,gO_refl,hw1,hw2,xfs];exact Me rfl (fin S' n' tk' cc I _ hI0 rfl rfl rfl rfl)
end
end
section
open Go Tryz
set_option maxHeartbeats 8000000
set_option maxRecDepth 100000
section
variable {S S':List Ent} {I:TI} {R:List (List Q)} {B:List Nat} {F:List Bool} {vars:List ByteArray} {m W:Nat} {cc:Cap} {x:AV}
theorem PTab.frame (h:PTab S I R B F vars m W cc x) {L:Nat} (h1:I.it<L/\I.ir<L/\I.ib<L/\∀ p ∈ I.ids,p.1<L) (hl:L<=S'.length) (hS:∀ j,j<L->nth S' j=nth S j):PTab S' I R B F vars m W cc x :=
 ⟨by rw [Ac (hS _ h1.1)]; exact h.top,h.nids,h.nb,fun e=>by rw [Ac (hS _ h1.2.1)]; exact h.rowsE e,fun e=>by rw [Ac (hS _ h1.2.2.1)]; exact h.basisE e,fun i p r hp hr=>by rw [Ac (hS _ (h1.2.2.2 p (Aj hp)))]; exact h.rowE i p r hp hr,h.rowW,h.okr,h.tr,h.tb,h.rb,h.row,⟨aA,fun p hp=>by have:=h1.2.2.2 p hp; omega⟩,h.rows⟩
theorem PTab.setX (h:PTab S I R B F vars m W cc x) (x':AV):PTab (put S I.it ⟨I.et,[shd I.ir I.er R.length,shd I.ib I.eb B.length,x',.frz (vars.map strC) .unk,.frz (F.map Di) cc,.prim (.int .i64 (m:Int))]⟩) I R B F vars m W cc x':=by
 have key:∀ j,j≠I.it->nth (put S I.it ⟨I.et,[shd I.ir I.er R.length,shd I.ib I.eb B.length,x',.frz (vars.map strC) .unk,.frz (F.map Di) cc,.prim (.int .i64 (m:Int))]⟩) j=nth S j:=fun j hj=>Ae (I8 hj);exact ⟨Ah h.lt.1,h.nids,h.nb,fun e=>by rw [Ac (key _ h.tr.symm)]; exact h.rowsE e,fun e=>by rw [Ac (key _ h.tb.symm)]; exact h.basisE e,fun i p r hp hr=>by rw [Ac (key _ (h.row p (Aj hp)).1)]; exact h.rowE i p r hp hr,h.rowW,h.okr,h.tr,h.tb,h.rb,h.row,⟨by rw [Am]; exact h.lt.1,fun p hp=>by rw [Am]; exact h.lt.2 p hp⟩,h.rows⟩
end
theorem Zq {id e k:Nat} (h:k≠0):shd id e k=.sref id e 0 k 1:=by cases k with|zero=>exact absurd rfl h|succ k=>rfl
theorem Ata {P:Program} {t:TypeId} {S:List Ent} {id e n:Nat} {l zs:List Q} {c:Cap} (h:apT P t=some 4) (hz:zs≠[]) (h0:l=[]->S.length=id) (h1:l≠[]->entAt S id e=some (flat ceW l)) (hb:l.length+zs.length<=1048576):apO P t (ohd id e l.length) (.frz (zs.map ceW) c) S n=some (ohd id n (l.length+zs.length),Hn S id n l (flat ceW (l++zs)),n+1):=by
 have hr:B2 4 (zs.map ceW)=true:=Dh (f:=ceW) Al zs;have hl:((zs.map ceW).all fun e=>e.all leafOk)=true:=by simp [Fc,Av]
 have hz0:0<zs.length:=Ic.2 hz;unfold Hn;by_cases hn:l=[]
 ·rw [if_pos hn];subst hn;have:=ap4n (S:=S) (n:=n) (c:=c) h hr hl (by simpa using hz0) fW;rw [Fg] at this;simp only [Cv,Fk,Ct];rw [<- h0 rfl,show ohd S.length n zs.length=.sref S.length n 0 zs.length 4 from Kq aA];exact this
 ·rw [if_neg hn];have bw:0<l.length:=Ic.2 hn;have:=ap4m (S:=S) (n:=n) (c:=c) h hr hl (by simpa using hz0) (h1 hn) (Va Al) bw fW;rw [Fg] at this;rw [Kq aA,Kq aA,Af6];exact this
theorem Ala {k:Nat} : ∀ {R:List (List Q)} {c:Q},okW c->(∀ r ∈ R,okL WW.qF r/\k<r.length)->okW (colR k R c)
 | [],_,h,_=>h
 | r :: R,c,h,hr=>by
  obtain ⟨h1,h2⟩:=hr r (by simp);obtain ⟨x,hx⟩:=Ab h2;unfold colR;rw [A0 hx];exact Ala (WW.Du.minus _ _ h (h1 x (Aj hx))) fun r ju=>hr r (by simp [ju])
def BegE (S:List Ent) (k:Nat) (t':Tb) (vars:List ByteArray) (m:Nat) (r:Rs):Prop :=
 ∃ S' tk' k' I cc,r=(.ref S.length k 0,S',tk',k')/\RTab S' I t' vars m cc/\I.it=S.length/\I.et=k/\S.length<=S'.length/\∀ j,j<S.length->nth S' j=nth S j/\OutR I j
section
variable (S:List Ent) (tk:List Nat) (k:Nat)
theorem Ahz (l:List RowT) (vars:List ByteArray) (bw:l≠[]) (hR:Ae8 l vars) (t':Tb) (b:Bool) (K:Nat) (hK:Nu (2*vars.length+l.length+l.length) K (Gb l vars)=some (b,t')) (L0:List Ent) (n0:Nat) (tk1:List Nat) (cc:Cap) (J:TI) (hJ:Apn S k l vars L0 tk1 cc l.length J) (T:List AV)
  (hTl:T.length=119) (t3:getT T 3=.ref S.length k 0) (t56:getT T 56=.int ((2*vars.length+l.length+l.length+1:Nat):Int)) (t57:getT T 57=.int ((0:Nat):Int)) :
  Gd finM (BegE S k t' vars l.length) (KA prog Tryz.f113 9 [] ⟨T,L0,tk1,n0⟩):=by
 obtain ⟨Φ,hΦ⟩:∃ Φ,Φ=BegE S k t' vars l.length:=⟨_,rfl⟩;rw [<- hΦ];obtain ⟨hm,hv,hcl,hc,hn⟩:=hR;obtain ⟨-,hP0,a8,hIe,hIr,hIb,hL,hcap,a4j,lh⟩:=hJ;have dc:l.length≠0:=fun h=>bw (C5.1 h);rw [if_neg dc] at hL;rw [C8] at hP0;obtain ⟨R,hRe⟩:∃ R,R=linesR vars l.length 0 l:=⟨_,rfl⟩;obtain ⟨B,hBe⟩:∃ B,B=(E7 l.length).map (2*vars.length+l.length+·):=⟨_,rfl⟩;obtain ⟨F,hFe⟩:∃ F,F=l.map Ady:=⟨_,rfl⟩;obtain ⟨W,ql⟩:∃ W,W=2*vars.length+l.length+l.length+1:=⟨_,rfl⟩;have hRl:R.length=l.length:=by rw [hRe,Rq]
 have hBl:B.length=l.length:=by rw [hBe]; simp
 rw [<- hRe,<- hBe,<- hFe,<- ql] at hP0;rw [<- ql] at t56;obtain ⟨ct,zt⟩:∃ ct:Nat->Q,ct=Ah4 R (2*vars.length+l.length) l.length:=⟨_,rfl⟩;have bh:apT prog 78=some 4:=aK
 have jt:=fun S tk k=>Ps S tk k 0 aD;have hi1:=fun S tk k=>Ps S tk k 1 aD;refine Wl rfl (t:=.mk) ?_;refine Ef (P:=prog) (fun x st=>st.T.length=119/\(x.2.2.1<=W)/\(PTab x.1 J R B F vars l.length W cc (ohd (L0.length+1) x.2.2.2 x.2.2.1))/\(x.1.length=L0.length+(if x.2.2.1=0 then 0 else x.2.2.1+1))/\(x.2.2.1≠0->entAt x.1 (L0.length+1) x.2.2.2=some (flat ceW ((E7 x.2.2.1).map ct)))/\(∀ j,j<S.length->nth x.1 j=nth S j)/\getT st.T 3=.ref S.length k 0/\getT st.T 56=.int (W:Nat)/\getT st.T 57=.int (x.2.2.1:Nat)/\st.S=x.1/\st.tk=tk1/\st.n=x.2.1) (fun x=>W - x.2.2.1) (L0,n0,0,0) ?_ ?_;case refine_2=>exact ⟨aH,Ci _,hP0,by simp,(fun h=>absurd rfl h),a4j,aH,aH,aH,aH,aH,aH⟩
 rintro ⟨SS,n1,q,e⟩ ⟨T,S',tk',n'⟩ ⟨hl,hq,hP,ei,hE,aw,e3,e56,e57,eS,eT,eN⟩ IH;simp only at hq hP ei hE aw e3 e56 e57 eS eT eN;subst eS eT eN;obtain ⟨g,hg,hT⟩:=Ap hl;rw [hg] at e3 e56 e57;subst hT;clear hg hl;have IHA:=IH;clear IH;have ag:=hP.top;rw [a8,hIe,hRl,hBl] at ag;obtain ⟨thd,og⟩:∃ x,x=AV.sref J.ir J.er 0 l.length 1:=⟨_,rfl⟩;obtain ⟨bhd,qw⟩:∃ x,x=AV.sref J.ib J.eb 0 l.length 1:=⟨_,rfl⟩;obtain ⟨flp,se⟩:∃ x,x=AV.frz (F.map Di) cc:=⟨_,rfl⟩;obtain ⟨chd,a2c⟩:∃ x,x=ohd (L0.length+1) e q:=⟨_,rfl⟩;rw [Zq dc,Zq dc,<- og,<- qw,<- se,<- a2c] at ag;have i9:=hP.rowsE (fun h=>dc (by rw [<- hRl,h]; rfl));have bc:J.it<L0.length/\J.ir<L0.length/\J.ib<L0.length/\∀ p ∈ J.ids,p.1<L0.length:=⟨hP0.lt.1,aA,aA,hP0.lt.2⟩;have hSL:S.length<L0.length:=aA
 by_cases hqW:q<W
 ·have c1:decide ((q:Int)<(W:Int))=true:=by simpa using hqW
  have hw:B8.wrap ((q:Int)+1)=((q+1:Nat):Int):=aS
  obtain ⟨c0,hc0⟩:∃ c0,c0=iQ (if 2*vars.length+l.length<=q/\q<2*vars.length+l.length+l.length then 1 else 0):=⟨_,rfl⟩;have oc0:okW c0:=by rw [hc0]; exact Xv (by unfold i64; split <;> omega)
  have a4k:ct q=colR q R c0:=by rw [zt,hc0]; rfl
  have hw1:B8.wrap (((2*vars.length+l.length:Nat):Int)+(l.length:Int))=((2*vars.length+l.length+l.length:Nat):Int):=aS
  have oh:∀ cs,entAt (S'++[(⟨n',cs⟩:Ent)]) S.length k=some [thd,bhd,chd,.frz (vars.map strC) .unk,flp,.prim (.int .i64 (l.length:Int))]:=fun cs=>Ad ag;have cq:=fun cs tk n=>Pu (S'++[(⟨n',cs⟩:Ent)]) tk n S.length k _ bhd _ flp vars l.length (oh cs) aA aA;have a0f:∀ cs cs',put (S'++[(⟨n',cs⟩:Ent)]) S'.length ⟨n',cs'⟩=S'++[⟨n',cs'⟩]:=fun cs cs'=>De rfl;have inner:∀ T,T.length=119->getT T 3=.ref S.length k 0->getT T 6=.int (q:Nat)->getT T 7=.ref S'.length n' 0->getT T 56=.int (W:Nat)->getT T 57=.int (q:Nat)->getT T 81=.int (l.length:Nat)->getT T 82=.int ((0:Nat):Int)->Gd finM Φ (KA prog Tryz.f113 15 [S'.length] ⟨T,S'++[(⟨n',ceW c0⟩:Ent)],tk',n'+1⟩):=by
   intro T hTl t3 t6 t7 t56 t57 t81 t82;refine Wl rfl (t:=.mk) ?_;refine Ef (P:=prog) (fun x st=>st.T.length=119/\(x.1<=l.length)/\(colR q R c0=colR q (R.drop x.1) x.2)/\(okW x.2)/\getT st.T 3=.ref S.length k 0/\getT st.T 6=.int (q:Nat)/\getT st.T 7=.ref S'.length n' 0/\getT st.T 56=.int (W:Nat)/\getT st.T 57=.int (q:Nat)/\getT st.T 81=.int (l.length:Nat)/\getT st.T 82=.int (x.1:Nat)/\st.S=S'++[(⟨n',ceW x.2⟩:Ent)]/\st.tk=tk'/\st.n=n'+1) (fun x=>l.length - x.1) (0,c0) ?_ ?_;case refine_2=>exact ⟨aH,Ci _,rfl,oc0,aH,aH,aH,aH,aH,aH,aH,aH,aH,aH⟩
   rintro ⟨i,v⟩ ⟨T,S',tk',n'⟩ ⟨hl,hi,hvc,ov,e3,e6,e7,e56,e57,e81,e82,eS,eT,eN⟩ IH;simp only at hi hvc ov e3 e6 e7 e56 e57 e81 e82 eS eT eN;subst eS eT eN;obtain ⟨g,hg,hT⟩:=Ap hl;rw [hg] at e3 e6 e7 e56 e57 e81 e82;subst hT;clear hg hl;have ev:=oh (ceW v);rw [og] at ev;by_cases tm:i<l.length
   ·have c2:decide ((i:Int)<(l.length:Int))=true:=by simpa using tm
    have ug:B8.wrap ((i:Int)+1)=((i+1:Nat):Int):=aS
    obtain ⟨r,hr⟩:=Ab (show i<R.length by omega);obtain ⟨p,hp⟩:=Ab (show i<J.ids.length by rw [hP.nids]; omega);have om:nth (Se i (J.ids.map (dp W 4))) 0=some (.sref p.1 p.2 0 W 4):=Db (by rw [Af] at hp ⊢; rw [Fe,hp]; rfl);have a0q:entAt (S'++[(⟨n',ceW v⟩:Ent)]) p.1 p.2=some (flat ceW r):=Ad (hP.rowE i p r hp hr);have pe:entAt (S'++[(⟨n',ceW v⟩:Ent)]) J.ir J.er=some (J.ids.map (dp W 4)):=Ad i9;have hrW:=hP.rowW r (Aj hr);obtain ⟨x,hx⟩:=Ab (show q<r.length by omega);have ox:=hP.okr r (Aj hr) x (Aj hx);have fj:=Au (ce:=ceW) Al hx;have hD:=fun S tk k=>Aj2 S tk k v x ov ox;obtain ⟨y,hy⟩:∃ y,y=(WW.qF.minus v x).1:=⟨_,rfl⟩;have oy:okW y:=by rw [hy]; exact WW.Du.minus _ _ ov ox
    rw [<- hy] at hD;have tj:colR q R c0=colR q (R.drop (i+1)) y:=by rw [hvc,Ax hr,colR,A0 hx,hy]
    have y9:Ob (S'++[(⟨n',ceW v⟩:Ent)]).length (S'++[(⟨n',ceW y⟩:Ent)])=S'++[⟨n',ceW y⟩]:=Ff (by simp);simp (maxSteps:=10^6)+contextual(disch:=try exact dqd)only[evgm,simprocAttr,Ca,Bo,Cb,results113,e3,e6,e7,e56,e57,e81,e82,c2,ug,y9,ev,pe,om,a0q,fj,hD,tm,hqW,a0f,WW.ovQ2,Cw,Al,Av,Ea,D9,WW.tkQ,WW.puQ];exact IH (i+1,y) _ aF ⟨rfl,aE,tj,oy,aU⟩
   ·have c2:decide ((i:Int)<(l.length:Int))=false:=by simpa using tm
    rw [Fm aA,colR,<- a4k] at hvc;subst hvc;obtain ⟨cs,gp⟩:∃ cs,cs=(E7 q).map ct:=⟨_,rfl⟩;have a2d:cs.length=q:=by rw [gp]; simp
    have xp:cs=[]↔q=0:=by rw [<- C5,a2d]
    have a2e:(E7 (q+1)).map ct=cs++[ct q]:=by rw [List.range_succ,C9,<- gp]; rfl
    obtain ⟨S2,bl⟩:∃ X,X=Hn (S'++[(⟨n',ceW (ct q)⟩:Ent)]) (L0.length+1) (n'+1) cs (flat ceW (cs++[ct q])):=⟨_,rfl⟩;have h0:cs=[]->(S'++[(⟨n',ceW (ct q)⟩:Ent)]).length=L0.length+1:=fun h=>by rw [Cn,ei,if_pos (xp.1 h)]; rfl
    have h1:cs≠[]->entAt (S'++[(⟨n',ceW (ct q)⟩:Ent)]) (L0.length+1) e=some (flat ceW cs):=fun h=>by rw [gp]; exact Ad (hE fun e=>h (xp.2 e))
    have a4l:∀ c,apO prog 78 chd (.frz [ceW (ct q)] c) (S'++[(⟨n',ceW (ct q)⟩:Ent)]) (n'+1)=some (.sref (L0.length+1) (n'+1) 0 (q+1) 4,S2,n'+1+1):=fun c=>by
     have:=Ata (P:=prog) (S:=S'++[(⟨n',ceW (ct q)⟩:Ent)]) (id:=L0.length+1) (e:=e) (n:=n'+1) (l:=cs) (zs:=[ct q]) (c:=c) bh (by simp) h0 h1 (by rw [a2d]; simp; omega);rw [a2d,<- a2c,<- bl] at this;exact this
    have li:∀ j,j<L0.length->nth S2 j=nth S' j:=fun j hj=>by
     have hLS:L0.length<=S'.length:=by rw [ei]; omega
     rw [bl]; unfold Hn; split
     ·rw [Bj aC,Bj aA]
     ·rw [Ae aA,Bj aA]
    have sf:S2.length=S'.length+1+(if q=0 then 1 else 0):=by rw [bl,Ais]; simp only [xp]; simp
    have qp:entAt S2 (L0.length+1) (n'+1)=some (flat ceW (cs++[ct q])):=by
     rw [bl]; unfold Hn; split
     ·rename_i h;rw [<- h0 h]; exact Bm
     ·rename_i h;exact Ah (A7 (h1 h))
    have a4m:entAt S2 S.length k=some [.sref J.ir J.er 0 l.length 1,bhd,chd,.frz (vars.map strC) .unk,flp,.prim (.int .i64 (l.length:Int))]:=by
     rw [Ac (li _ hSL),<- og]; exact ag
    obtain ⟨S3,cu⟩:∃ X,X=put S2 S.length ⟨k,[.sref J.ir J.er 0 l.length 1,bhd,.sref (L0.length+1) (n'+1) 0 (q+1) 4,.frz (vars.map strC) .unk,flp,.prim (.int .i64 (l.length:Int))]⟩:=⟨_,rfl⟩;have a24:=cu.symm;have pg:S3.length=S2.length:=by rw [cu,Am]
    have hPf:=hP.frame (S':=S2) bc (by rw [sf,ei]; omega) li;have hPx:=hPf.setX (.sref (L0.length+1) (n'+1) 0 (q+1) 4);rw [a8,hIe,hRl,hBl,Zq dc,Zq dc,<- qw,<- se,a24] at hPx;have a4n:S3.length=L0.length+(if q+1=0 then 0 else q+1+1):=by
     rw [pg,sf,ei,if_neg (show ¬ q+1=0 by omega)];by_cases h:q=0
     ·rw [if_pos h,if_pos h]; omega
     ·rw [if_neg h,if_neg h]; omega
    simp (maxSteps:=10^6)+contextual(disch:=try exact dqd)only[evgm,simprocAttr,Ca,Bo,Cb,results113,e3,e6,e7,e56,e57,e81,e82,c2,hw,ev,a4l,a4m,a24,Al,Av,Ea,D9,WW.tkQ,WW.puQ];exact IHA (S3,n'+1+1,q+1,n'+1) _ aF ⟨rfl,aE,hPx,a4n,fun _=>by rw [cu,Ai aE,a2e]; exact qp,fun j hj=>by rw [cu,Ae aE,li j aE]; exact aw j hj,aU⟩
  cases d1:decide ((q:Int) >= ((2*vars.length+l.length:Nat):Int)) <;> cases d2:decide ((q:Int)<((2*vars.length+l.length+l.length:Nat):Int));all_goals
   have hcv:c0=iQ (if decide ((q:Int) >= ((2*vars.length+l.length:Nat):Int))=true/\decide ((q:Int)<((2*vars.length+l.length+l.length:Nat):Int))=true then 1 else 0):=by
    rw [hc0]; simp only [decide_eq_true_eq,ge_iff_le,Int.ofNat_le,Int.ofNat_lt]
   rw [d1,d2] at hcv
   simp only [C7,false_and,and_false,and_self,if_true,if_false] at hcv
   rw [hcv] at inner
   rw [og] at oh
   simp (maxSteps:=10^6)+contextual(disch:=try exact dqd)only[evgm,simprocAttr,Ca,Bo,Cb,results113,e3,e56,e57,c1,oh,cq,gO_refl,hw1,d1,d2,jt,hi1,WW.ovQ,WW.ovQ2,a0f,xfs,Al,Av,Ea,D9,WW.tkQ,WW.puQ]
   exact Me rfl (inner _ rfl rfl rfl rfl rfl rfl rfl rfl)
 ·have c1:decide ((q:Int)<(W:Int))=false:=by simpa using hqW
  have hqe:q=W:=aA
  have hW0:W≠0:=aA
  subst hqe;have gm:=hE hW0;have xm:((E7 q).map ct).length=q:=by simp
  obtain ⟨I2,hI2⟩:∃ I2:TI,I2={ J with ic:=L0.length+1,ec:=e }:=⟨_,rfl⟩;have hbe:Gb l vars={ vars:=vars.length,real:=2*vars.length+l.length,rows:=R,cost:=(E7 q).map ct,basis:=B,flip:=F,fl:=false }:=by
   unfold Gb;simp only [hRe,hBe,hFe,zt,ql];rfl
  have oct:okL WW.qF ((E7 q).map ct):=by
   intro x hx;obtain ⟨a,ha,rfl⟩:=F6.1 hx;rw [zt];unfold Ah4;exact Ala (Xv (by unfold i64; split <;> omega)) fun r hr=>⟨hP.okr r hr,by rw [hP.rowW r hr]; exact iR.1 ha⟩
  have hLS:L0.length+1<S'.length:=A7 gm;have hRT:RTab S' I2 (Gb l vars) vars l.length cc:=by
   rw [hbe,hI2];refine ⟨?_,hP.nids,?_,fun i p r hp hr=>?_,fun r hr=>?_,?_,?_,hP.nb,⟨hP.tr,by show J.it≠L0.length+1; omega,hP.tb,by show J.ir≠L0.length+1; omega,hP.rb,by show L0.length+1≠J.ib; omega,fun p hp=>?_,hP.rows⟩,hP.okr,oct,?_,?_,?_,?_⟩
   ·rw [a8,hIe];simp only [hRl,xm,intA];rw [<- og,<- qw,<- se,<- Kq (id:=L0.length+1) (ep:=e) hW0,<- a2c]; exact ag
   ·simp only [xm]; exact i9
   ·exact hP.rowE i p r hp hr
   ·simp only [xm]; exact hP.rowW r hr
   ·exact gm
   ·exact hP.basisE fun h=>dc (by rw [<- hRl,h]; rfl)
   ·have h1:=hP.row p hp;exact ⟨h1.1,h1.2.1,by show p.1≠L0.length+1; have:=bc.2.2.2 p hp; omega,h1.2.2⟩
   ·simp only [xm]; omega
   ·simp only [hRl]; omega
   ·simp only [hRl]; omega
   ·simp only [xm]; omega
  have sv:2*vars.length+l.length+l.length<=(Gb l vars).cost.length:=by rw [hbe]; simp only [xm]; omega
  obtain ⟨r,bo,S3,k3,I3,rfl,fd,c8,h3t,h3e,ed⟩:=Aj0 S' tk' n' I2 (Gb l vars) t' vars l.length cc _ K b hRT sv hK;have h2t:I2.it=S.length:=by rw [hI2]; exact a8
  have h2e:I2.et=k:=by rw [hI2]; exact hIe
  rw [h2t,h2e] at bo;have cq:=fun tk n=>Pu S' tk n S.length k _ bhd _ flp vars l.length ag aA aA;have hw1:B8.wrap (((2*vars.length+l.length:Nat):Int)+(l.length:Int))=((2*vars.length+l.length+l.length:Nat):Int):=aS
  simp (maxSteps:=10^6)+contextual(disch:=try exact dqd)only[evgm,simprocAttr,Ca,Bo,Cb,results113,e3,e56,e57,c1,ag,cq,gO_refl,hw1,bo,fd,Ael,xfs];rw [hΦ];refine ⟨S3,_,k3,I3,cc,rfl,c8,h3t.trans h2t,h3e.trans h2e,aA,fun j hj=>?_⟩;have ll:OutR I2 j:=by
   rw [hI2];exact ⟨by show j≠J.it; omega,by show j≠J.ir; omega,by show j≠L0.length+1; omega,by show j≠J.ib; omega,fun p hp=>by have:=lh p hp; omega⟩
  exact ⟨by rw [(ed j aA ll).1]; exact aw j hj,(ed j aA ll).2⟩
end
section
variable (S:List Ent) (tk:List Nat) (k:Nat)
theorem Ajz (l:List RowT) (bw:l≠[]) (hf:fewC l) (h64:l.length<=64) (hR:Ae8 l (Dx l)) (t':Tb) (b:Bool) (K:Nat) (hK:Nu (2*(Dx l).length+l.length+l.length) K (Gb l (Dx l))=some (b,t')) :
  ∃ r,cL prog 113 [Ao l] S tk k=some r/\BegE S k t' (Dx l) l.length r:=by
 have hn:=fun S tk k=>Pt S tk k l hf h64;simp only [Ao,Aq] at hn;refine opM func113 ntmps113 ?_;simp (maxSteps:=10^6)+contextual(disch:=try exact dqd)only[evg1,simprocAttr,Ca,Bo,Cb,results113,Ao,hn];exact Me rfl (Ah0 S tk k l (Dx l) hR _ (fun SS n1 tk1 cc I T hI hTl t3 t56 t57=>Ahz S k l (Dx l) bw hR t' b K hK SS n1 tk1 cc I hI T hTl t3 t56 t57) _ rfl rfl rfl rfl rfl)
theorem Ao5 (I:TI) (t:Tb) (vars:List ByteArray) (m:Nat) (cc:Cap) (hT:RTab S I t vars m cc):cL prog 114 [.ref I.it I.et 0] S tk k=some (.bool (Jd t),S,tk,k):=by
 have ag:=hT.top;have hW:=hT.bigW;have gm:=hT.costE;have hp:=hT.posW;obtain ⟨z,hz⟩:=Ab (show t.cost.length - 1<t.cost.length by omega);have jj:=Au (ce:=ceW) Al hz;have hs:=fun S tk k=>Pv S tk k z;have gj:B8.wrap ((t.cost.length:Int) - 1)=((t.cost.length - 1:Nat):Int):=aP
 have kh:t.cost.length - 1<t.cost.length:=aA
 refine opS func114 ntmps114 ?_;simp (maxSteps:=10^6)+contextual(disch:=try exact dqd)only[evs1,simprocAttr,Ca,Bo,Cb,results114,ag,gm,jj,gj,kh,hs,Cw,Al,Av,Ea,D9,WW.tkQ,WW.puQ];rw [show Jd t=(sgn z == 0) by unfold Jd; rw [A0 hz]]
end
theorem Auo {l:List RowT} (h0:sysE l=0):Ae8 l (Dx l):=by
 obtain ⟨f1,f2,f3,f4⟩:=Hc h0;have hr:=Ry (vars:=Dx l) f4 Q8;exact ⟨aA,aA,fun r h=>Za3y,fun r h c hc=>by have:=(hr r h).2.cof c hc; simp [inB]; omega,fun r h=>by have:=(hr r h).2.con; simp [inB]; omega⟩
section
variable (S:List Ent) (tk:List Nat) (k:Nat)
theorem X9 (l:List RowT) (hl:∀ r ∈ l,r.1.length<=1048576) (h0:sysE l≠0):cL prog 83 [Ao l] S tk k=some (.tup [.bool false,.int (sysE l)],S,tk,k):=by
 have hC:=fun S tk k=>Lv S tk k l hl;simp only [Ao] at hC;have c1:(sysE l != 0)=true:=aX
 refine opP func83 ntmps83 (hp3:=rfl) ?_;simp (maxSteps:=10^6)+contextual(disch:=try exact dqd)only[ev1,simprocAttr,Ca,Bo,Cb,results83,Ao,hC,c1]
theorem Wo {l:List RowT} (hl:l.length<=13) (hne:l≠[]) (h0:sysE l=0):∃ b:Bool,(b=true↔∃ v,Sat v l)/\∀ S tk k,cL prog 83 [Ao l] S tk k=some (.tup [.bool b,.int 0],S,tk,k):=by
 obtain ⟨f1,f2,f3,f4⟩:=Hc h0;have hr:=Ry (vars:=Dx l) f4 Q8;obtain ⟨b,t',hK,-,hS⟩:=Alu (l:=l) (Aoo l) hl hr (Ce _);refine ⟨Jd t',hS,fun S tk k=>?_⟩;have hC:=fun S tk k=>Lv S tk k l (fun r h=>Za3y);rw [h0] at hC;have c1:((0:Int) != 0)=false:=rfl;obtain ⟨r,hB,S',tk',k',I,cc,rfl,hT,a8,hIe,-,-⟩:=Ajz [] [] 0 l hne f1 f2 (Auo h0) t' b _ hK;have hF:=Ao5 S' tk' k' I t' _ _ cc hT;rw [a8,hIe] at hF;simp only [Ao,Cv] at hC hB hF;refine opP func83 ntmps83 (hp3:=rfl) ?_;simp (maxSteps:=10^6)+contextual(disch:=try exact dqd)only[evm,simprocAttr,Ca,Bo,Cb,results83,Ao,hC,hB,hF,c1]
end
end
section
open Go Tryz
set_option maxHeartbeats 8000000
set_option maxRecDepth 100000
theorem Ave [Globs] {P:Program} [Ext P] {fn:Func} {c:Code} {st:St} {k:List Kont} {tg:Tag (lO c,k)} : KX P fn (.loop c) st k tg=KX P fn c st (.loop c st.S.length :: k) .mk:=Yb
def tabE (x:AV):List AV:=[.frz [] .nilc,.frz [] .nilc,x,.frz [] .unk,.frz [] .nilc,.prim (.int .i64 0)]
section
variable (S:List Ent) (tk:List Nat) (k:Nat)
theorem Ahq (it et:Nat):∃ r,cL prog 140 [.ref it et 0,.int 0] S tk k=some r/\r=(.bool true,S,tk,k):=by
 obtain ⟨Φ,hΦ⟩:∃ Φ:Rs->Prop,Φ=fun r=>r=(.bool true,S,tk,k):=⟨_,rfl⟩;rw [show (∃ r,cL prog 140 [.ref it et 0,.int 0] S tk k=some r/\r=(.bool true,S,tk,k))=(∃ r,cL prog 140 [.ref it et 0,.int 0] S tk k=some r/\Φ r) by rw [hΦ]];have d1:decide ((-1:Int)<0)=true:=rfl;refine opM func140 ntmps140 ?_;simp (maxSteps:=10^6)+contextual(disch:=try exact dqd)only[evgm,simprocAttr,Ca,Bo,Cb,results140,Ave,d1];rw [hΦ]
theorem Aho:∃ r,cL prog 113 [.frz [] .unk] S tk k=some r/\r=(.ref S.length k 0,S++[⟨k,tabE (.sref (S.length+2) (k+2) 0 1 4)⟩]++[⟨k+1,ceW (iQ 0)⟩]++[⟨k+2,ceW (iQ 0)⟩],tk,k+3):=by
 obtain ⟨G,hG⟩:∃ G:Rs,G=(.ref S.length k 0,S++[⟨k,tabE (.sref (S.length+2) (k+2) 0 1 4)⟩]++[⟨k+1,ceW (iQ 0)⟩]++[⟨k+2,ceW (iQ 0)⟩],tk,k+3):=⟨_,rfl⟩;rw [<- hG];obtain ⟨Φ,hΦ⟩:∃ Φ:Rs->Prop,Φ=fun r=>r=G:=⟨_,rfl⟩;rw [show (∃ r,cL prog 113 [.frz [] .unk] S tk k=some r/\r=G)=(∃ r,cL prog 113 [.frz [] .unk] S tk k=some r/\Φ r) by rw [hΦ]];have hn:=fun S tk k=>Pt S tk k [] (by intro r h; simp at h) (by simp);have jt:=fun S tk k=>Ps S tk k 0 aD;have hA:∀ X,entAt (S++[(⟨k,X⟩:Ent)]) S.length k=some X:=fun X=>Bm;have hB:∀ X (e:Ent),entAt (S++[(⟨k,X⟩:Ent)]++[e]) S.length k=some X:=fun X e=>Ad Bm;have hC:∀ X (e f:Ent),entAt (S++[(⟨k,X⟩:Ent)]++[e]++[f]) S.length k=some X:=fun X e f=>Ad (Ad Bm);have cq:∀ X x tk n,entAt X S.length k=some (tabE x)->cL prog 137 [.ref S.length k 0] X tk n=some (.int 0,X,tk,n):=fun X x tk n h=>Pu X tk n S.length k (.frz [] .nilc) (.frz [] .nilc) x (.frz [] .nilc) [] 0 h (by simp) (by simp);have a25:=fun tk n=>cq (S++[(⟨k,tabE (.frz [] .nilc)⟩:Ent)]) _ tk n (hA _);have a0q:=fun e tk n=>cq (S++[(⟨k,tabE (.frz [] .nilc)⟩:Ent)]++[e]) _ tk n (hB _ e);have a26:=fun e f x tk n=>cq (S++[(⟨k,tabE x⟩:Ent)]++[e]++[f]) _ tk n (hC _ e f);have rp:∀ X tk n,cL prog 140 [.ref S.length k 0,.int 0] X tk n=some (.bool true,X,tk,n):=fun X tk n=>by obtain ⟨r,h,rfl⟩:=Ahq X tk n S.length k; exact h
 simp only [tabE] at a25 a0q a26;have ly:Dx []=[]:=rfl;simp only [Ao,Aq,ly,Cp] at hn;have qf:B8.wrap 0=0:=aJ
 have hw1:B8.wrap 1=1:=aJ
 have hp1:∀ (X:Ent) cs cs',put (S++[X]++[(⟨k+1,cs⟩:Ent)]) (S++[X]).length ⟨k+1,cs'⟩=S++[X]++[⟨k+1,cs'⟩]:=fun X cs cs'=>De rfl;have hp3:∀ X Y (e f:Ent),put (S++[(⟨k,X⟩:Ent)]++[e]++[f]) S.length ⟨k,Y⟩=S++[⟨k,Y⟩]++[e]++[f]:=fun X Y e f=>by rw [Dq (by simp),Dq (by simp),De rfl]
 have bh:apT prog 78=some 4:=aK
 have fg:∀ t,t=78->∀ c X n,apO prog t (.frz [] .nilc) (.frz [ceW (iQ 0)] c) X n=some (.sref X.length n 0 1 4,X++[⟨n,ceW (iQ 0)⟩],n+1):=fun t ht c X n=>by rw [ht]; exact Ake bh (Al _) (Av _)
 have fg:=fg _ rfl;refine opM func113 ntmps113 ?_;simp (maxSteps:=10^6)+contextual(disch:=try exact dqd)only[evgm,simprocAttr,Ca,Bo,Cb,results113,Ave,hn,jt,hA,hB,hC,a25,a0q,a26,rp,gO_refl,Ael,qf,hw1,hp1,hp3,fg,WW.ovQ,WW.ovQ2,xfs,Al,Av,Ea,D9,WW.tkQ,WW.puQ];rw [hΦ,hG];simp [tabE,O4]
theorem Ajy (it et ic ec n:Nat) (a b v f:AV) (m:Int) (cost:List Q) (ht:entAt S it et=some [a,b,.sref ic ec 0 cost.length 4,v,f,.prim (.int .i64 m)]) (gm:entAt S ic ec=some (flat ceW cost)) (hp:0<cost.length) (hW:cost.length<=1000000):cL prog 114 [.ref it et 0] S tk k=some (.bool (sgn (at_ q0 cost (cost.length - 1)) == 0),S,tk,k):=by
 obtain ⟨z,hz⟩:=Ab (show cost.length - 1<cost.length by omega);have jj:=Au (ce:=ceW) Al hz;have hs:=fun S tk k=>Pv S tk k z;have gj:B8.wrap ((cost.length:Int) - 1)=((cost.length - 1:Nat):Int):=aP
 have kh:cost.length - 1<cost.length:=aA
 refine opS func114 ntmps114 ?_;simp (maxSteps:=10^6)+contextual(disch:=try exact dqd)only[evs1,simprocAttr,Ca,Bo,Cb,results114,ht,gm,jj,gj,kh,hs,Cw,Al,Av,Ea,D9,WW.tkQ,WW.puQ];rw [A0 hz]
theorem Ya:cL prog 83 [Ao []] S tk k=some (.tup [.bool true,.int 0],S,tk,k):=by
 have hC:=fun S tk k=>Lv S tk k [] (fun r h=>aR);have h0:sysE []=0:=aJ
 rw [h0] at hC;have c1:((0:Int) != 0)=false:=rfl;obtain ⟨r,hB,rfl⟩:=Aho [] [] 0;have hF:=fun tk k=>Ajy ([]++[(⟨0,tabE (.sref 2 2 0 1 4)⟩:Ent)]++[⟨0+1,ceW (iQ 0)⟩]++[⟨0+2,ceW (iQ 0)⟩]) tk k 0 0 2 2 0 _ _ _ _ _ [iQ 0] rfl rfl (by simp) (by simp);have hs:(sgn (at_ q0 [iQ 0] ([iQ 0].length - 1)) == 0)=true:=aJ
 rw [hs] at hF;simp only [Ao,Cp,Ct,Co,Cv,Fk] at hC hB hF;refine opP func83 ntmps83 (hp3:=rfl) ?_;simp (maxSteps:=10^6)+contextual(disch:=try exact dqd)only[evm,simprocAttr,Ca,Bo,Cb,results83,Ao,Cp,hC,hB,hF,c1]
end
end
section
open Go Tryz
open Classical in
noncomputable def Ls (l:List RowT):Bool:=decide (sysE l=0/\∃ v,Sat v l)
open Classical in
theorem Af4 {l:List RowT} (h:sysE l≠0):Ls l=false:=by
 unfold Ls;exact decide_eq_false fun h'=>h h'.1
open Classical in
theorem P3 {l:List RowT} (h:sysE l=0) {b:Bool} (hb:b=true↔∃ v,Sat v l):Ls l=b:=by
 refine iJ.2 ?_;unfold Ls;rw [decide_eq_true_iff];exact ⟨fun h'=>hb.2 h'.2,fun h'=>⟨h,hb.1 h'⟩⟩
theorem Aus (v:ByteArray->Rat):Sat v []:=fun r h=>aV
section
variable (S:List Ent) (tk:List Nat) (k:Nat)
theorem Mt (l:List RowT) (hl:l.length<=13) (bw:∀ r ∈ l,r.1.length<=1048576):cL prog 23 [Ao l] S tk k=some (.tup [.bool (Ls l),.int (sysE l)],S,tk,k):=by
 by_cases h0:sysE l=0
 ·obtain ⟨b,i1,e1⟩:=Atv hl h0;rw [e1,P3 h0 i1,h0]
 ·have:=R3 S tk k l bw ⟨false,[],[],none⟩ fun h=>absurd h h0;rw [if_neg h0] at this;rw [this,Af4 h0]
theorem Ae6 (l:List RowT) (hl:l.length<=13) (bw:∀ r ∈ l,r.1.length<=1048576):cL prog 83 [Ao l] S tk k=some (.tup [.bool (Ls l),.int (sysE l)],S,tk,k):=by
 by_cases h0:sysE l=0
 ·by_cases hne:l=[]
  ·subst hne;rw [Ya,P3 h0 (b:=true) ⟨fun _=>⟨fun _=>0,Aus _⟩,fun _=>rfl⟩,h0]
  ·obtain ⟨b,i1,e1⟩:=Wo hl hne h0;rw [e1,P3 h0 i1,h0]
 ·rw [X9 S tk k l bw h0,Af4 h0]
end
noncomputable def infB (l:List RowT):Bool:=(sysE l == 0) && !Ls l
open Classical in
theorem Abp {l:List RowT} : infB l=true↔sysE l=0/\¬ ∃ v,Sat v l:=by
 unfold infB;rw [Ch,beq_iff_eq,Ig];constructor
 ·rintro ⟨h1,h2⟩;refine ⟨h1,fun h3=>?_⟩;unfold Ls at h2;exact of_decide_eq_false h2 ⟨h1,h3⟩
 ·rintro ⟨h1,h2⟩;refine ⟨h1,?_⟩;unfold Ls;exact decide_eq_false fun h3=>h2 h3.2
end
section
open Go Tryz
theorem Aqj {n:Int} (h:inB n=true):i64 n:=by rw [Kd] at h; unfold i64; omega
section
variable (S:List Ent) (tk:List Nat) (k:Nat)
theorem Ru (n:Int):cL prog 58 [.int n] S tk k=some (.bool (inB n),S,tk,k):=by
 refine opP func58 ntmps58 ?_;simp (maxSteps:=10^6)+contextual(disch:=try exact dqd)only[ev1,simprocAttr,Ca,Bo,Cb,results58];exact Ya3i
theorem Aea (n:Int) (ok:Bool):cL prog 104 [.int n,.bool ok] S tk k=some (.tup [.int (chk ok n).1,.bool (chk ok n).2],S,tk,k):=by
 refine opP func104 ntmps104 ?_;simp (maxSteps:=10^6)+contextual(disch:=try exact dqd)only[ev1,simprocAttr,Ca,Bo,Cb,results104,Ru];simp +contextual [chk]
theorem Ty {a b:Int} (ha:inB a=true) (hb:inB b=true):B8.wrap (a+b)=a+b:=by
 rw [Kd] at ha hb; exact Aa aD
theorem Aua (n:Int) (h:i64 n):cL prog 103 [.int n] S tk k=some (.int (absS n),S,tk,k):=by
 refine opP func103 ntmps103 ?_;simp (maxSteps:=10^6)+contextual(disch:=try exact dqd)only[ev1,simprocAttr,Ca,Bo,Cb,results103];simp only [IntKind.wrap_i64,absS,AV.prim.injEq,jO.injEq,Bg,true_and,decide_eq_true_eq,decide_eq_false_iff_not];unfold i64 at h;refine ⟨fun h1=>?_,fun h1=>⟨fun h2=>?_,fun h2=>?_⟩⟩ <;> (split <;> try split) <;> omega
theorem Aqv {n:Int} (h:inB n=true):cL prog 103 [.int n] S tk k=some (.int n.natAbs,S,tk,k):=by rw [Aua S tk k n (Aqj h),As8 h]
theorem Agn {a b:Int} (ha:inB a=true) (hb:inB b=true) (h0:¬ a=0) (v:Int) (hv:v=(a.natAbs:Int)) :
  (decide ((b.natAbs:Int) > B8.wrap (Int.tdiv 1000000000000 v))=false->B8.wrap (a*b)=a*b/\inB (a*b)=true)/\(decide ((b.natAbs:Int) > B8.wrap (Int.tdiv 1000000000000 v))=true->inB (a*b)=false):=by
 subst hv;have hp:0<(a.natAbs:Int):=aA
 have e:Int.tdiv 1000000000000 (a.natAbs:Int)=1000000000000 / (a.natAbs:Int):=Cz aA;have h1:0<=1000000000000 / (a.natAbs:Int):=Int.ediv_nonneg aA aA;have h2:1000000000000 / (a.natAbs:Int)<=1000000000000:=Int.ediv_le_self _ aA;rw [e,Aa aD];rcases Aqs a b h0 with ⟨h3,h4,h5,h6⟩|⟨h3,h4⟩
 ·exact ⟨fun _=>⟨Aa aD,h6⟩,fun h=>Za2w⟩
 ·exact ⟨fun h=>Za2w,fun _=>h4⟩
theorem Ad9 (a b:Int):cL prog 66 [.int a,.int b] S tk k=some (.tup [.int (mulS a b).1,.bool (mulS a b).2],S,tk,k):=by
 refine opP func66 ntmps66 ?_;simp (maxSteps:=10^6)+contextual(disch:=try exact dqd)only[ev1,simprocAttr,Ca,Bo,Cb,results66,Ru,Aea,Aqv];refine ⟨fun ha=>⟨fun hb=>⟨fun h0=>?_,fun h0=>⟨fun h1=>?_,fun h1=>?_⟩⟩,fun hb=>?_⟩,fun ha=>?_⟩
 ·simp at h0; subst h0; simp [mulS,chk,hb]; decide
 ·simp at h1; subst h1; simp [mulS,chk,ha]; decide
 ·have h0':¬ a=0:=aX
  obtain ⟨c1,c2⟩:=Agn ha hb h0' _ rfl;refine ⟨aA,fun h=>?_,fun h=>?_⟩
  ·simp [mulS,chk,ha,hb,c2 h]
  ·simp [mulS,chk,ha,hb,(c1 h).1,(c1 h).2]
 ·simp [mulS,chk,hb]
 ·simp [mulS,chk,ha]
theorem Ac7 (a b:Int):cL prog 108 [.int a,.int b] S tk k=some (.tup [.int (mulS a b).1,.bool (mulS a b).2],S,tk,k):=by
 refine opP func108 ntmps108 ?_;simp (maxSteps:=10^6)+contextual(disch:=try exact dqd)only[ev1,simprocAttr,Ca,Bo,Cb,results108,Ae4];have wn:∀ {x:Int},inB x=true->B8.wrap (0 - x)=0 - x:=fun h=>Aa (by rw [Kd] at h; unfold i64; omega);have comm:∀ x y:Int,mulS x y=mulS y x:=fun x y=>by simp [mulS,Fy,Bool.and_comm]
 refine ⟨fun ha=>⟨fun hb=>⟨fun h0=>?_,fun h0=>⟨fun h1=>?_,fun h1=>?_⟩⟩,fun hb=>?_⟩,fun ha=>?_⟩
 ·simp at h0; subst h0; simp [mulS,chk,hb]; decide
 ·simp at h1; subst h1; simp [mulS,chk,ha]; decide
 ·have h0':¬ a=0:=aX
  have qa:¬ b=0:=aY
  rw [wn ha,wn hb,comm a b];obtain ⟨c1,c2⟩:=Agn hb ha qa _ rfl;rw [Fy] at c1 c2;simp only [decide_eq_true_eq,decide_eq_false_iff_not] at c1 c2 ⊢;have fin1:∀ x y:Int,x=(a.natAbs:Int)->y=(b.natAbs:Int)->¬ y=0/\(x > B8.wrap (Int.tdiv 1000000000000 y)->0=(mulS b a).1/\false=(mulS b a).2)/\(¬ x > B8.wrap (Int.tdiv 1000000000000 y)->B8.wrap (a*b)=(mulS b a).1/\true=(mulS b a).2):=by
   intro x y hx hy;subst hx hy;refine ⟨aA,fun h=>?_,fun h=>?_⟩
   ·rw [Fy] at c2; simp [mulS,chk,ha,hb,c2 h]
   ·rw [Fy] at c1; simp [mulS,chk,ha,hb,(c1 h).2]; rw [Fy]; exact (c1 h).1
  refine ⟨fun qe=>⟨fun hb0=>?_,fun hb0=>?_⟩,fun qe=>⟨fun hb0=>?_,fun hb0=>?_⟩⟩;all_goals exact fin1 _ _ aA aA
 ·simp [mulS,chk,hb]
 ·simp [mulS,chk,ha]
end
end
section
open Go
end
section
open Go
section
variable (S:List Ent) (tk:List Nat) (k:Nat)
def gcdL:Int->List (ByteArray × Int)->Int
 | g,[]=>g
 | g,c :: r=>gcdL (gcdS g c.2) r
def divC (g:Int) (c:ByteArray × Int):ByteArray × Int:=(c.1,c.2.tdiv g)
theorem Lk {α:Type} : ∀ {l:List α} {i:Nat} {x:α},nth l i=some x->l.take (i+1)=l.take i++[x]
 | y :: l,0,x,h=>dL
 | y :: l,i+1,x,h=>by simp only [He,Co,Lk (l:=l) (i:=i) h]
 | [],_,_,h=>bO
end
theorem Xe {n:Int} : ∀ {p:Option ByteArray} {cs:List (ByteArray × Int)},A8 n p cs=0->(∀ c ∈ cs,inB c.2=true/\c.2≠0)/\inB n=true
 | p,[],h=>by
  simp only [A8] at h;refine ⟨by simp,?_⟩;cases hn:inB n with
  | true=>rfl
  | false=>rw [hn] at h; simp at h
 | p,c :: cs,h=>by
  simp only [A8] at h;split at h
  ·simp at h
  ·split at h
   ·simp at h
   ·rename_i h1;split at h
    ·simp at h
    ·obtain ⟨g1,g2⟩:=Xe h;refine ⟨fun d hd=>?_,g2⟩;rcases C4.1 hd with rfl|hd
     ·simp at h1; exact ⟨h1.2,h1.1⟩
     ·exact g1 d hd
theorem G5 {cs:List (ByteArray × Int)} {n:Int} (h:A1 cs n=0):(∀ c ∈ cs,inB c.2=true/\c.2≠0)/\inB n=true/\cs.length<=24:=by
 unfold A1 at h;split at h
 ·simp at h
 ·obtain ⟨h1,h2⟩:=Xe h;exact ⟨h1,h2,aA⟩
def Q5 (cs:List (ByteArray × Int)) (n:Int) (eq:Bool):List (ByteArray × Int) × Int × Bool :=
 if A1 cs n=0 then
  if cs=[] then (if (n == 0 || (!eq && decide (n<0)))=true then ([],0,false) else ([],1,false))
  else if (eq && !(n.tmod (gcdL 0 cs) == 0))=true then ([],1,false)
  else (cs.map (divC (gcdL 0 cs)),-((-n) / gcdL 0 cs),eq)
 else (cs,n,eq)
end
section
open Go Tryz
set_option maxHeartbeats 4000000
set_option maxRecDepth 100000
def Gh:List (ByteArray × Int)->List (ByteArray × Int)->List (ByteArray × Int)
 | [],b=>b
 | x :: a,[]=>x :: a
 | x :: a,y :: b=>if sLt x.1 y.1 then x :: Gh a (y :: b) else if sLt y.1 x.1 then y :: Gh (x :: a) b else if x.2+y.2=0 then Gh a b else (x.1,x.2+y.2) :: Gh a b
termination_by a b=>a.length+b.length
theorem Ng (b:List (ByteArray × Int)):Gh [] b=b:=by rw [Gh]
theorem H5 (a:List (ByteArray × Int)):Gh a []=a:=by cases a <;> rw [Gh]
def Hg (cs:List (ByteArray × Int)) (n:Int):(List (ByteArray × Int) × Int) × Bool:=if A1 cs n=0 then ((cs,n),true) else (([],0),false)
def addL (a:List (ByteArray × Int)) (n:Int) (b:List (ByteArray × Int)) (m:Int):(List (ByteArray × Int) × Int) × Bool:=if A1 a n=0/\A1 b m=0 then Hg (Gh a b) (n+m) else (([],0),false)
section
variable (S:List Ent) (tk:List Nat) (k:Nat)
theorem Ab5 (cs:List (ByteArray × Int)) (n:Int) (c:Cap) (hlen:cs.length<=1048576):cL prog 107 [.agg [.frz (cs.map Ar) c,.int n]] S tk k=some (.tup [linA (Hg cs n).1.1 (Hg cs n).1.2,.bool (Hg cs n).2],S,tk,k):=by
 have hC:=fun S tk k=>Hf S tk k cs n hlen;simp only [linA,Ag] at hC;refine opP func107 ntmps107 ?_;by_cases h0:A1 cs n=0
 ·have d0:(A1 cs n != 0)=false:=dA
  exact Ya1e
 ·have d0:(A1 cs n != 0)=true:=aX
  exact Ya1e
theorem Aii (a b:List (ByteArray × Int)) (n m:Int) (ha:a.length<=100000) (hb:b.length<=100000):cL prog 72 [linA a n,linA b m] S tk k=some (.tup [linA (addL a n b m).1.1 (addL a n b m).1.2,.bool (addL a n b m).2],S,tk,k):=by
 have hCa:=fun S tk k=>Hf S tk k a n aA;have hCb:=fun S tk k=>Hf S tk k b m aA;simp only [linA,Ag] at hCa hCb;refine opP func72 ntmps72 ?_;by_cases ea:A1 a n=0;case neg =>
  have da:(A1 a n != 0)=true:=by simpa using ea
  simp (maxSteps:=10^6)+contextual(disch:=try exact dqd)only[ev1,simprocAttr,Ca,Bo,Cb,results72,linA,Ag,hCa,da]
  simp [addL,ea]
 have da:(A1 a n != 0)=false:=by simp [ea]
 by_cases eb:A1 b m=0;case neg =>
  have db:(A1 b m != 0)=true:=by simpa using eb
  simp (maxSteps:=10^6)+contextual(disch:=try exact dqd)only[ev1,simprocAttr,Ca,Bo,Cb,results72,linA,Ag,hCa,da,hCb,db]
  simp [addL,eb]
 have db:(A1 b m != 0)=false:=by simp [eb]
 have hw:=Ty (G5 ea).2.1 (G5 eb).2.1;simp (maxSteps:=10^6)+contextual(disch:=try exact dqd)only[ev1,simprocAttr,Ca,Bo,Cb,results72,linA,Ag,hCa,da,hCb,db,hw];have hba:=(G5 ea).1;have ua:=(G5 eb).1;have p8:addL a n b m=Hg (Gh a b) (n+m):=by simp [addL,ea,eb]
 rw [p8];clear p8 hCa hCb da db hw;refine loop1 (P:=prog) (fun x st=>st.T.length=146/\(x.1<=a.length)/\(x.2.1<=b.length)/\(x.2.2.1.length<=x.1+x.2.1)/\(Be st.tk x.2.2.2 2=true)/\(Gh a b=x.2.2.1++Gh (a.drop x.1) (b.drop x.2.1))/\getT st.T 2=.ref 0 0 0/\getT st.T 3=.ref 1 1 0/\getT st.T 4=.ref 2 2 0/\getT st.T 6=.ref 3 3 0/\getT st.T 7=.int (x.1:Nat)/\getT st.T 8=.int (x.2.1:Nat)/\st.S=[⟨0,[Ag a,.int n]⟩,⟨1,[Ag b,.int m]⟩,⟨2,[.frz [] .nilc,.int 0]⟩,⟨3,[.frz (x.2.2.1.map Ar) x.2.2.2,.int (n+m)]⟩]) (fun x=>a.length - x.1+(b.length - x.2.1)) (fun x=>.tup [linA (Hg (Gh a b) (n+m)).1.1 (Hg (Gh a b) (n+m)).1.2,.bool (Hg (Gh a b) (n+m)).2]) (0,0,[],.nilc) ?_ ?_;case refine_2=>exact ⟨rfl,Ci _,Ci _,Ce _,rfl,rfl,rfl,rfl,rfl,rfl,rfl,rfl,rfl⟩
 rintro ⟨i,j,o,c⟩ ⟨T,S',tk',n'⟩ ⟨hl,hi,hj,ho,ab,hm,e2,e3,e4,e6,e7,e8,eS⟩ IH;simp only at hi hj ho ab hm e2 e3 e4 e6 e7 e8 eS;subst eS;obtain ⟨g,hg,hT⟩:=Ap hl;rw [hg] at e2 e3 e4 e6 e7 e8;subst hT;clear hg hl;have hr:=Dh (f:=Ar) (sz:=2) (fun _=>rfl) o;have hn:(o.map Ar).length+1<=1048576:=aC
 have am:=Ba ab;by_cases la:i<a.length
 ·have d1:decide ((i:Int)<(a.length:Int))=true:=aZ
  have d1':((i:Int) == (a.length:Int))=false:=aC
  obtain ⟨x,hx⟩:=Ab la;have hx':nth (a.map Ar) i=some (Ar x):=eP
  have ug:=Aw (i:=i) aA;rw [Ax hx] at hm;by_cases lb:j<b.length
  ·have d2:decide ((j:Int)<(b.length:Int))=true:=cE
   have d2':((j:Int) == (b.length:Int))=false:=aC
   obtain ⟨y,hy⟩:=Ab lb;have eg:nth (b.map Ar) j=some (Ar y):=gH
   have dj:=Aw (i:=j) aA;have hxm:x ∈ a:=eE
   have hym:y ∈ b:=Za1z
   have hws:=Ty (hba x hxm).1 (ua y hym).1;rw [Ax hy,Gh] at hm;simp (maxSteps:=10^6)+contextual(disch:=try exact dqd)only[ev1,simprocAttr,Ca,Bo,Cb,results72,e2,e3,e4,e6,e7,e8,d1,d1',d2,d2',Ag,hx',eg,ug,dj,hws,Ar,hr];exact Yaf
  ·have d2:decide ((j:Int)<(b.length:Int))=false:=cE
   have mh:j=b.length:=aA
   have d2':((j:Int) == (b.length:Int))=true:=aC
   rw [mh,Fp,H5] at hm;simp (maxSteps:=10^6)+contextual(disch:=try exact dqd)only[ev1,simprocAttr,Ca,Bo,Cb,results72,e2,e3,e4,e6,e7,e8,d1,d1',d2,d2',Ag,hx',ug,Ar,hr];exact Ya2x
 ·have d1:decide ((i:Int)<(a.length:Int))=false:=aZ
  have wi:i=a.length:=aA
  have d1':((i:Int) == (a.length:Int))=true:=aC
  rw [wi,Fp,Ng] at hm;by_cases lb:j<b.length
  ·have d2:decide ((j:Int)<(b.length:Int))=true:=cE
   have d2':((j:Int) == (b.length:Int))=false:=aC
   obtain ⟨y,hy⟩:=Ab lb;have eg:nth (b.map Ar) j=some (Ar y):=gH
   have dj:=Aw (i:=j) aA;rw [Ax hy] at hm;simp (maxSteps:=10^6)+contextual(disch:=try exact dqd)only[ev1,simprocAttr,Ca,Bo,Cb,results72,e2,e3,e4,e6,e7,e8,d1,d1',d2,d2',Ag,eg,dj,Ar,hr];exact Ya2y
  ·have d2:decide ((j:Int)<(b.length:Int))=false:=cE
   have mh:j=b.length:=aA
   rw [mh,Fp,Fj] at hm;have hR:=fun S tk k=>Ab5 S tk k o (n+m) c aA;simp (maxSteps:=10^6)+contextual(disch:=try exact dqd)only[ev1,simprocAttr,Ca,Bo,Cb,results72,e2,e3,e4,e6,e7,e8,d1,d2,Ag,linA,hR];rw [hm];simp [linA,Ag]
end
end
section
open Go Tryz
set_option maxHeartbeats 4000000
set_option maxRecDepth 100000
section
variable (S:List Ent) (tk:List Nat) (k:Nat)
theorem Ajx (cs:List (ByteArray × Int)) (n:Int) (c:Cap) (hlen:cs.length<=1048576):cL prog 109 [.agg [.frz (cs.map Ar) c,.int n]] S tk k=some (.tup [linA (Hg cs n).1.1 (Hg cs n).1.2,.bool (Hg cs n).2],S,tk,k):=by
 have hC:=fun S tk k=>Jq S tk k cs n hlen;have hr:=Dh (f:=Ar) (sz:=2) (fun _=>rfl) cs;have hl:([]:List (List AV)).length+(cs.map Ar).length<=1048576:=aC
 simp only [linA,Ag] at hC;refine opP func109 ntmps109 ?_;by_cases h0:A1 cs n=0
 ·have d0:(A1 cs n != 0)=false:=dA
  simp (maxSteps:=10^6)+contextual(disch:=try exact dqd)only[ev1,simprocAttr,Ca,Bo,Cb,results109,hC,d0,Nd,hr];simp [Hg,h0,linA,Ag]
 ·have d0:(A1 cs n != 0)=true:=aX
  simp (maxSteps:=10^6)+contextual(disch:=try exact dqd)only[ev1,simprocAttr,Ca,Bo,Cb,results109,hC,d0];simp [Hg,h0,linA,Ag]
theorem Asr (a b:List (ByteArray × Int)) (n m:Int) (ha:a.length<=100000) (hb:b.length<=100000):cL prog 75 [linA a n,linA b m] S tk k=some (.tup [linA (addL a n b m).1.1 (addL a n b m).1.2,.bool (addL a n b m).2],S,tk,k):=by
 have hCa:=fun S tk k=>Jq S tk k a n aA;have hCb:=fun S tk k=>Jq S tk k b m aA;simp only [linA,Ag] at hCa hCb;refine opP func75 ntmps75 ?_;by_cases ea:A1 a n=0;case neg =>
  have da:(A1 a n != 0)=true:=by simpa using ea
  simp (maxSteps:=10^6)+contextual(disch:=try exact dqd)only[ev1,simprocAttr,Ca,Bo,Cb,results75,linA,Ag,hCa,da]
  simp [addL,ea]
 have da:(A1 a n != 0)=false:=by simp [ea]
 by_cases eb:A1 b m=0;case neg =>
  have db:(A1 b m != 0)=true:=by simpa using eb
  simp (maxSteps:=10^6)+contextual(disch:=try exact dqd)only[ev1,simprocAttr,Ca,Bo,Cb,results75,linA,Ag,hCa,da,hCb,db]
  simp [addL,eb]
 have db:(A1 b m != 0)=false:=by simp [eb]
 have hw:=Ty (G5 ea).2.1 (G5 eb).2.1;simp (maxSteps:=10^6)+contextual(disch:=try exact dqd)only[ev1,simprocAttr,Ca,Bo,Cb,results75,linA,Ag,hCa,da,hCb,db,hw];have hba:=(G5 ea).1;have ua:=(G5 eb).1;have p8:addL a n b m=Hg (Gh a b) (n+m):=by simp [addL,ea,eb]
 rw [p8];clear p8 hCa hCb da db hw;refine loop1 (P:=prog) (fun x st=>st.T.length=146/\(x.1<=a.length)/\(x.2.1<=b.length)/\(x.2.2.1.length<=x.1+x.2.1)/\(Be st.tk x.2.2.2 2=true)/\(Gh a b=x.2.2.1++Gh (a.drop x.1) (b.drop x.2.1))/\getT st.T 2=.ref 0 0 0/\getT st.T 3=.ref 1 1 0/\getT st.T 4=.ref 2 2 0/\getT st.T 6=.ref 3 3 0/\getT st.T 7=.int (x.1:Nat)/\getT st.T 8=.int (x.2.1:Nat)/\st.S=[⟨0,[Ag a,.int n]⟩,⟨1,[Ag b,.int m]⟩,⟨2,[.frz [] .nilc,.int 0]⟩,⟨3,[.frz (x.2.2.1.map Ar) x.2.2.2,.int (n+m)]⟩]) (fun x=>a.length - x.1+(b.length - x.2.1)) (fun x=>.tup [linA (Hg (Gh a b) (n+m)).1.1 (Hg (Gh a b) (n+m)).1.2,.bool (Hg (Gh a b) (n+m)).2]) (0,0,[],.nilc) ?_ ?_;case refine_2=>exact ⟨rfl,Ci _,Ci _,Ce _,rfl,rfl,rfl,rfl,rfl,rfl,rfl,rfl,rfl⟩
 rintro ⟨i,j,o,c⟩ ⟨T,S',tk',n'⟩ ⟨hl,hi,hj,ho,ab,hm,e2,e3,e4,e6,e7,e8,eS⟩ IH;simp only at hi hj ho ab hm e2 e3 e4 e6 e7 e8 eS;subst eS;obtain ⟨g,hg,hT⟩:=Ap hl;rw [hg] at e2 e3 e4 e6 e7 e8;subst hT;clear hg hl;have hr:=Dh (f:=Ar) (sz:=2) (fun _=>rfl) o;have hn:(o.map Ar).length+1<=1048576:=aC
 have am:=Ba ab;by_cases la:i<a.length
 ·have d1:decide ((i:Int)<(a.length:Int))=true:=aZ
  have d1':((i:Int) == (a.length:Int))=false:=aC
  obtain ⟨x,hx⟩:=Ab la;have hx':nth (a.map Ar) i=some (Ar x):=eP
  have ug:=Aw (i:=i) aA;rw [Ax hx] at hm;by_cases lb:j<b.length
  ·have d2:decide ((j:Int)<(b.length:Int))=true:=cE
   have d2':((j:Int) == (b.length:Int))=false:=aC
   obtain ⟨y,hy⟩:=Ab lb;have eg:nth (b.map Ar) j=some (Ar y):=gH
   have dj:=Aw (i:=j) aA;have hxm:x ∈ a:=eE
   have hym:y ∈ b:=Za1z
   have hws:=Ty (hba x hxm).1 (ua y hym).1;rw [Ax hy,Gh] at hm;simp (maxSteps:=10^6)+contextual(disch:=try exact dqd)only[ev1,simprocAttr,Ca,Bo,Cb,results75,e2,e3,e4,e6,e7,e8,d1,d1',d2,d2',Ag,hx',eg,ug,dj,hws,Ar,hr];exact Yaf
  ·have d2:decide ((j:Int)<(b.length:Int))=false:=cE
   have mh:j=b.length:=aA
   have d2':((j:Int) == (b.length:Int))=true:=aC
   rw [mh,Fp,H5] at hm;simp (maxSteps:=10^6)+contextual(disch:=try exact dqd)only[ev1,simprocAttr,Ca,Bo,Cb,results75,e2,e3,e4,e6,e7,e8,d1,d1',d2,d2',Ag,hx',ug,Ar,hr];exact Ya2x
 ·have d1:decide ((i:Int)<(a.length:Int))=false:=aZ
  have wi:i=a.length:=aA
  have d1':((i:Int) == (a.length:Int))=true:=aC
  rw [wi,Fp,Ng] at hm;by_cases lb:j<b.length
  ·have d2:decide ((j:Int)<(b.length:Int))=true:=cE
   have d2':((j:Int) == (b.length:Int))=false:=aC
   obtain ⟨y,hy⟩:=Ab lb;have eg:nth (b.map Ar) j=some (Ar y):=gH
   have dj:=Aw (i:=j) aA;rw [Ax hy] at hm;simp (maxSteps:=10^6)+contextual(disch:=try exact dqd)only[ev1,simprocAttr,Ca,Bo,Cb,results75,e2,e3,e4,e6,e7,e8,d1,d1',d2,d2',Ag,eg,dj,Ar,hr];exact Ya2y
  ·have d2:decide ((j:Int)<(b.length:Int))=false:=cE
   have mh:j=b.length:=aA
   rw [mh,Fp,Fj] at hm;have hR:=fun S tk k=>Ajx S tk k o (n+m) c aA;simp (maxSteps:=10^6)+contextual(disch:=try exact dqd)only[ev1,simprocAttr,Ca,Bo,Cb,results75,e2,e3,e4,e6,e7,e8,d1,d2,Ag,linA,hR];rw [hm];simp [linA,Ag]
def mulC (q:Int) (c:ByteArray × Int):ByteArray × Int:=(c.1,(mulS c.2 q).1)
def Ei (cs:List (ByteArray × Int)) (n q:Int):(List (ByteArray × Int) × Int) × Bool :=
 if A1 cs n=0 then
  if q=0 then (([],0),true)
  else if inB q=true then (if (mulS n q).2=true/\(cs.all fun c=>(mulS c.2 q).2)=true then ((cs.map (mulC q),(mulS n q).1),true) else (([],0),false))
  else (([],0),decide (cs=[]) && (n == 0))
 else (([],0),false)
theorem Arb (q:Int) (c:ByteArray × Int) (id ep:Nat) (h:entAt S id ep=some [.int q]):cL prog 106 [.agg (Ar c),.ref id ep 0] S tk k=some (.tup [.agg (Ar (mulC q c)),.bool (mulS c.2 q).2],S,tk,k+2):=by
 refine opS func106 ntmps106 ?_;simp (maxSteps:=10^6)+contextual(disch:=try exact dqd)only[evs1,simprocAttr,Ca,Bo,Cb,results106,Ar,h,Ad9,mulC]
def N5 (q:Int):List (ByteArray × Int)->List (ByteArray × Int)->Cap->List Nat->Nat->AV × List Nat × Nat
 | [],acc,c,tk,n=>(.tup [.frz (acc.map Ar) c,.bool true],tk,n)
 | x :: r,acc,c,tk,n=>if (mulS x.2 q).2=true then N5 q r (acc++[mulC q x]) (Ay tk c 2) (Eh tk c) (n+4) else (.tup [.frz [] .nilc,.bool false],tk,n+4)
theorem Afz (q:Int):∀ (l acc:List (ByteArray × Int)) (c:Cap) (tk:List Nat) (n:Nat),(l.all fun c=>(mulS c.2 q).2)=true->∃ c' tk' n',N5 q l acc c tk n=(.tup [.frz ((acc++l.map (mulC q)).map Ar) c',.bool true],tk',n')
 | [],acc,c,tk,n,_=>⟨c,tk,n,by simp [N5]⟩
 | x :: r,acc,c,tk,n,h=>by
  simp only [Sw,Ch] at h;obtain ⟨c',tk',n',e⟩:=Afz q r (acc++[mulC q x]) (Ay tk c 2) (Eh tk c) (n+4) h.2;exact ⟨c',tk',n',by rw [N5,if_pos h.1,e]; simp⟩
theorem Afy (q:Int):∀ (l acc:List (ByteArray × Int)) (c:Cap) (tk:List Nat) (n:Nat),(l.all fun c=>(mulS c.2 q).2)=false->∃ tk' n',N5 q l acc c tk n=(.tup [.frz [] .nilc,.bool false],tk',n')
 | [],acc,c,tk,n,h=>aR
 | x :: r,acc,c,tk,n,h=>by
  rw [N5];by_cases hx:(mulS x.2 q).2=true
  ·rw [if_pos hx];exact Afy q r _ _ _ _ (by simpa [hx] using h)
  ·rw [if_neg hx]; exact ⟨_,_,rfl⟩
theorem Ah6 (q:Int) (cs:List (ByteArray × Int)) (id ep:Nat) (hlen:cs.length<=1048576) (h:entAt S id ep=some [.int q]) :
  cL prog 101 [Ag cs,.fn 106 [.ref id ep 0]] S tk k=some ((N5 q cs [] .nilc tk k).1,S,(N5 q cs [] .nilc tk k).2.1,(N5 q cs [] .nilc tk k).2.2):=by
 refine opS func101 ntmps101 ?_;simp (maxSteps:=10^6)+contextual(disch:=try exact dqd)only[evs1,simprocAttr,Ca,Bo,Cb,results101,Ag];refine Vq (P:=prog) (fun x st=>st.T.length=31/\(x.1<=cs.length)/\(x.2.1.length<=x.1)/\(Be x.2.2.2.1 x.2.2.1 2=true)/\getT st.T 1=.fn 106 [.ref id ep 0]/\getT st.T 6=.frz (x.2.1.map Ar) x.2.2.1/\getT st.T 11=Ag cs/\getT st.T 12=.int cs.length/\getT st.T 13=.int (x.1:Nat)/\st.S=S/\st.tk=x.2.2.2.1/\st.n=x.2.2.2.2) (fun x=>cs.length - x.1) (fun x=>((N5 q (cs.drop x.1) x.2.1 x.2.2.1 x.2.2.2.1 x.2.2.2.2).1,S,(N5 q (cs.drop x.1) x.2.1 x.2.2.1 x.2.2.2.1 x.2.2.2.2).2.1,(N5 q (cs.drop x.1) x.2.1 x.2.2.1 x.2.2.2.1 x.2.2.2.2).2.2)) (0,[],.nilc,tk,k) ?_ ?_;case refine_2=>exact ⟨rfl,Ci _,Ce _,rfl,rfl,rfl,rfl,rfl,rfl,rfl,rfl,rfl⟩
 rintro ⟨i,o,c,t,m⟩ ⟨T,S',tk',n'⟩ ⟨hl,hi,ho,ab,e1,e6,e11,e12,e13,eS,eT,eN⟩ IH;simp only at hi ho ab e1 e6 e11 e12 e13 eS eT eN;subst eS eT eN;obtain ⟨g,hg,hT⟩:=Ap hl;rw [hg] at e1 e6 e11 e12 e13;subst hT;clear hg hl;by_cases hlt:i<cs.length
 ·have d1:decide ((i:Int)<(cs.length:Int))=true:=aI
  obtain ⟨x,hc⟩:=Ab hlt;have ew:nth (cs.map Ar) i=some (Ar x):=gE
  have hw:=Aw (i:=i) aA;have hf:=fun e tk k=>Arb (S'++[e]) tk k q x id ep (L6 h);have hr:=Dh (f:=Ar) (sz:=2) (fun _=>rfl) o;have hn:(o.map Ar).length+1<=1048576:=aC
  have am:=Ba ab;simp only [Ar] at hf ew;rw [Ax hc];by_cases hx:(mulS x.2 q).2=true
  ·rw [N5,if_pos hx];simp (maxSteps:=10^6)+contextual(disch:=try exact dqd)only[evs1,simprocAttr,Ca,Bo,Cb,results101,e1,e6,e11,e12,e13,d1,Ag,ew,hw,hf,Ar,hx];exact IH (i+1,o++[mulC q x],Ay tk' c 2,Eh tk' c,n'+4) _ aF ⟨rfl,hlt,aC,am,by and_intros <;> first|rfl|simp only [getT,C9,Cm,Cp,Ar,Ag]⟩
  ·rw [N5,if_neg hx];have hx':(mulS x.2 q).2=false:=dE
   simp (maxSteps:=10^6)+contextual(disch:=try exact dqd)only[evs1,simprocAttr,Ca,Bo,Cb,results101,e1,e6,e11,e12,e13,d1,Ag,ew,hw,hf,Ar,hx']
 ·have d1:decide ((i:Int)<(cs.length:Int))=false:=aI
  have he:i=cs.length:=aA
  simp (maxSteps:=10^6)+contextual(disch:=try exact dqd)only[evs1,simprocAttr,Ca,Bo,Cb,results101,e1,e6,e11,e12,e13,d1,Ag];rw [he,Fp]; simp [N5]
end
end
section
open Go Tryz
set_option maxRecDepth 100000
section
variable (S:List Ent) (tk:List Nat) (k:Nat)
theorem Amx {a b:Int} (h:inB b=false):mulS a b=(0,false):=by simp [mulS,chk,h]
theorem Ab4 (cs:List (ByteArray × Int)) (n q:Int) (hlen:cs.length<=1048576):cL prog 71 [linA cs n,.int q] S tk k=some (.tup [linA (Ei cs n q).1.1 (Ei cs n q).1.2,.bool (Ei cs n q).2],S,tk,k):=by
 have hC:=fun S tk k=>Hf S tk k cs n hlen;simp only [linA,Ag] at hC;refine opP func71 ntmps71 ?_;by_cases h0:A1 cs n=0;case neg =>
  have d0:(A1 cs n != 0)=true:=aX
  simp (maxSteps:=10^6)+contextual(disch:=try exact dqd)only[ev1,simprocAttr,Ca,Bo,Cb,results71,linA,Ag,hC,d0]
  simp [Ei,h0]
 have d0:(A1 cs n != 0)=false:=dA
 by_cases hq:q=0
 ·have d1:(q == 0)=true:=gY
  simp (maxSteps:=10^6)+contextual(disch:=try exact dqd)only[ev1,simprocAttr,Ca,Bo,Cb,results71,linA,Ag,hC,d0,d1];simp [Ei,h0,hq]
 have d1:(q == 0)=false:=gY
 cases hb:inB q with
 | false =>
  by_cases gp:cs=[]
  ·subst gp;have hz:(((0:Nat):Int) == 0)=true:=rfl;simp only [Cp] at hC;simp (maxSteps:=10^6)+contextual(disch:=try exact dqd)only[ev1,simprocAttr,Ca,Bo,Cb,results71,linA,Ag,hC,d0,d1,hb,Ru,Cp,hz];simp [Ei,h0,hq,hb]
  ·have hz:((cs.length:Int) == 0)=false:=by
    have:cs.length≠0:=fun h=>gp (C5.1 h);simp; omega
   simp (maxSteps:=10^6)+contextual(disch:=try exact dqd)only[ev1,simprocAttr,Ca,Bo,Cb,results71,linA,Ag,hC,d0,d1,hb,Ru,hz];simp [Ei,h0,hq,hb,gp]
 | true =>
  have hE:=fun tk k=>Ah6 [⟨0,[Ag cs,.int n]⟩,⟨1,[.int q]⟩,⟨2,[.frz [] .nilc,.int 0]⟩] tk k q cs 1 1 hlen rfl;simp only [Ag] at hE;cases ar:cs.all fun c=>(mulS c.2 q).2 with
  | true =>
   obtain ⟨c',tk',n',e⟩:=Afz q cs [] .nilc [] 3 ar;simp only [Ct] at e;have hE':=hE [] 3;rw [e] at hE';simp (maxSteps:=10^6)+contextual(disch:=try exact dqd)only[ev1,simprocAttr,Ca,Bo,Cb,results71,linA,Ag,hC,d0,d1,hb,Ru,Ad9,hE',L4];exact Ya30
  | false =>
   obtain ⟨tk',n',e⟩:=Afy q cs [] .nilc [] 3 ar;have hE':=hE [] 3;rw [e] at hE';have hs:Ei cs n q=(([],0),false):=by simp [Ei,h0,hq,hb,ar]
   rw [hs];simp (maxSteps:=10^6)+contextual(disch:=try exact dqd)only[ev1,simprocAttr,Ca,Bo,Cb,results71,linA,Ag,hC,d0,d1,hb,Ru,Ad9,hE',L4];exact ⟨fun _=>trivial,fun _=>trivial⟩
theorem Ajw (cs:List (ByteArray × Int)) (n q:Int) (hlen:cs.length<=1000000):cL prog 74 [linA cs n,.int q] S tk k=some (.tup [linA (Ei cs n q).1.1 (Ei cs n q).1.2,.bool (Ei cs n q).2],S,tk,k):=by
 have hC:=fun S tk k=>Jq S tk k cs n aA;simp only [linA,Ag] at hC;refine opP func74 ntmps74 ?_;by_cases h0:A1 cs n=0;case neg =>
  have d0:(A1 cs n != 0)=true:=aX
  simp (maxSteps:=10^6)+contextual(disch:=try exact dqd)only[ev1,simprocAttr,Ca,Bo,Cb,results74,linA,Ag,hC,d0]
  simp [Ei,h0]
 have d0:(A1 cs n != 0)=false:=dA
 by_cases hq:q=0
 ·have d1:(q == 0)=true:=gY
  simp (maxSteps:=10^6)+contextual(disch:=try exact dqd)only[ev1,simprocAttr,Ca,Bo,Cb,results74,linA,Ag,hC,d0,d1];simp [Ei,h0,hq]
 have d1:(q == 0)=false:=gY
 simp (maxSteps:=10^6)+contextual(disch:=try exact dqd)only[ev1,simprocAttr,Ca,Bo,Cb,results74,linA,Ag,hC,d0,d1];refine loop1 (P:=prog) (fun x st=>st.T.length=70/\(x.1<=cs.length)/\(Be st.tk x.2 2=true)/\(((cs.take x.1).all fun y=>(mulS y.2 q).2)=true)/\getT st.T 1=.int q/\getT st.T 2=.ref 0 0 0/\getT st.T 4=.ref 1 1 0/\getT st.T 6=.ref 2 2 0/\getT st.T 7=.int (x.1:Nat)/\st.S=[⟨0,[Ag cs,.int n]⟩,⟨1,[.frz [] .nilc,.int 0]⟩,⟨2,[.frz (((cs.take x.1).map (mulC q)).map Ar) x.2,.int 0]⟩]) (fun x=>cs.length - x.1) (fun x=>.tup [linA (Ei cs n q).1.1 (Ei cs n q).1.2,.bool (Ei cs n q).2]) (0,.nilc) ?_ ?_;case refine_2=>exact ⟨rfl,Ci _,rfl,rfl,rfl,rfl,rfl,rfl,rfl,rfl⟩
 rintro ⟨i,c⟩ ⟨T,S',tk',n'⟩ ⟨hl,hi,ab,ar,e1,e2,e4,e6,e7,eS⟩ IH;simp only at hi ab ar e1 e2 e4 e6 e7 eS;subst eS;obtain ⟨g,hg,hT⟩:=Ap hl;rw [hg] at e1 e2 e4 e6 e7;subst hT;clear hg hl;by_cases hlt:i<cs.length
 ·have d1:decide ((i:Int)<(cs.length:Int))=true:=aI
  obtain ⟨x,hc⟩:=Ab hlt;have ew:nth (cs.map Ar) i=some (Ar x):=gE
  have hw:=Aw (i:=i) aA;have hr:=Dh (f:=Ar) (sz:=2) (fun _=>rfl) ((cs.take i).map (mulC q));have hn:(((cs.take i).map (mulC q)).map Ar).length+1<=1048576:=aC
  have am:=Ba ab;simp only [Ar] at ew;by_cases hx:(mulS x.2 q).2=true
  ·simp (maxSteps:=10^6)+contextual(disch:=try exact dqd)only[ev1,simprocAttr,Ca,Bo,Cb,results74,e1,e2,e4,e6,e7,d1,Ag,ew,hw,Ar,hx,Ac7,hr];exact IH (i+1,Ay tk' c 2) _ aF ⟨rfl,hlt,am,by rw [Lk hc,List.all_append,ar]; simp [hx],aG,aG,aG,aG,aG,by simp only [Lk hc,C9,Cm,Cp,Ar,Ag,mulC]⟩
  ·have hx':(mulS x.2 q).2=false:=dE
   have hs:Ei cs n q=(([],0),false):=by
    have gp:cs≠[]:=by rintro rfl; simp at hlt
    have ha:¬ (cs.all fun c=>(mulS c.2 q).2)=true:=fun h=>by
     have:=Fc.1 h x (by rw [Af] at hc; exact Ip hc);rw [hx'] at this; simp at this
    simp only [Ei,h0,hq,if_true,if_false,ha,and_false,gp];cases inB q <;> simp
   rw [hs];simp (maxSteps:=10^6)+contextual(disch:=try exact dqd)only[ev1,simprocAttr,Ca,Bo,Cb,results74,e1,e2,e4,e6,e7,d1,Ag,ew,hw,Ar,hx',Ac7,hr,linA,Cp]
 ·have d1:decide ((i:Int)<(cs.length:Int))=false:=aI
  have he:i=cs.length:=aA
  rw [he,C8] at ar;by_cases ek:n=0
  ·have d2:(n != 0)=false:=by simp [ek]
   simp (maxSteps:=10^6)+contextual(disch:=try exact dqd)only[ev1,simprocAttr,Ca,Bo,Cb,results74,e1,e2,e4,e6,e7,d1,d2,Ag,linA];rw [he,C8];subst ek;cases hb:inB q with
   | true =>
    have hm:mulS 0 q=(0,true):=by unfold mulS chk; rw [hb]; simp [inB]
    simp [Ei,h0,hq,hb,ar,hm]
   | false =>
    cases cs with
    | nil=>simp [Ei,h0,hq,hb]
    | cons c cs=>simp [Amx hb] at ar
  ·have d2:(n != 0)=true:=cK
   simp (maxSteps:=10^6)+contextual(disch:=try exact dqd)only[ev1,simprocAttr,Ca,Bo,Cb,results74,e1,e2,e4,e6,e7,d1,d2,Ag,linA,Ac7];rw [he,C8];cases hb:inB q with
   | true =>
    exact Ya30
   | false =>
    rw [Amx hb];simp [Ei,h0,hq,hb,ek]
end
end
section
open Go
theorem Q1 {a b:ByteArray} : sEq a b=true↔a=b:=by
 rw [Q0];constructor
 ·intro h; simpa using h
 ·rintro rfl; simp
theorem Amv {l:List RowT} {x:ByteArray} : x ∈ D5 l↔∃ r ∈ l,∃ c ∈ r.1,c.1=x:=by
 unfold D5;simp only [S7,F6];constructor
 ·rintro ⟨_,⟨r,hr,rfl⟩,h⟩;obtain ⟨c,hc,e⟩:=F6.1 h;exact ⟨r,hr,c,hc,e⟩
 ·rintro ⟨r,hr,c,hc,e⟩;exact ⟨_,⟨r,hr,rfl⟩,F6.2 ⟨c,hc,e⟩⟩
theorem Agm {l:List RowT} {x:ByteArray} : x ∈ Dx l↔∃ r ∈ l,∃ c ∈ r.1,c.1=x:=((Jz (D5 l)).2.1 x).trans Amv
theorem Z1 (l:List RowT):Inc (Dx l):=(Jz (D5 l)).1
theorem At3 {l r:List ByteArray} (hl:Inc l) (hr:Inc r) (h:∀ x ∈ l,x ∈ r):l.length<=r.length:=by
 classical
 have e:l=r.filter fun x=>decide (x ∈ l):=Al9 hl (lM.filter _ hr) fun x=>by
  simp only [List.mem_filter,decide_eq_true_eq];exact ⟨fun hx=>⟨h x hx,hx⟩,fun hx=>hx.2⟩
 rw [e];exact List.length_filter_le ..
theorem Aam:∀ {l:List RowT},(∀ r ∈ l,A1 r.1 r.2.1=0)->Gu l=0
 | [],_=>rfl
 | r :: l,h=>by
  unfold Gu;rw [h r (Cq ..)];simp only [bne_self_eq_false,C7,if_false];exact Aam fun x hx=>h x (Cr _ hx)
theorem Axo {l:List RowT} (h1:l.length<=64) (h2:∀ r ∈ l,A1 r.1 r.2.1=0) (h3:(Dx l).length<=24):sysE l=0:=by
 unfold sysE;rw [if_neg aA,Aam h2,if_neg (by simp),if_neg aA]
def oneR (r:RowT) (k:Int):RowT:=(r.1.map (mulC k),r.2.1*k+1,false)
noncomputable def Hs (l:List RowT) (r:RowT) (k:Int):Bool:=inB (r.2.1*k+1) && infB (l++[oneR r k])
noncomputable def E3 (l:List RowT) (r:RowT):Bool:=(A1 r.1 r.2.1 == 0) && (Hs l r (-1) && (!r.2.2 || Hs l r 1))
section
variable {k:Int} (hk:k=1\/k=-1)
include hk
theorem Al8 {a:Int} (ha:inB a=true):inB (a*k)=true:=by
 rw [Kd] at ha ⊢;rcases hk with rfl|rfl <;> omega
theorem Y9 {a:Int} (ha:inB a=true):mulS a k=(a*k,true):=by
 have h1:=Al8 hk ha;have h2:inB k=true:=by rw [Kd]; omega
 simp [mulS,chk,ha,h1,h2]
theorem Ar3 {m:Int} (hm:inB m=true) {n:Int} : ∀ {p:Option ByteArray} {cs:List (ByteArray × Int)},A8 n p cs=0->A8 m p (cs.map (mulC k))=0
 | p,[],_=>by simp only [Cp,A8,hm,if_true]
 | p,c :: cs,h=>by
  unfold A8 at h;split at h
  ·cases h
  ·rename_i g1;split at h
   ·cases h
   ·rename_i g2;split at h
    ·cases h
    ·rename_i g3;simp only [Io,beq_iff_eq,Ig,not_or,Bool.not_eq_false] at g2;have e:mulC k c=(c.1,c.2*k):=by unfold mulC; rw [Y9 hk g2.2]
     rw [Cm,e];unfold A8;simp only;rw [if_neg g1,if_neg (by
      rw [Al8 hk g2.2];simp only [Fs,F5,beq_iff_eq];intro e;have:=g2.1;rcases hk with rfl|rfl <;> omega),if_neg g3]
     exact Ar3 hm h
theorem Afm {m:Int} (hm:inB m=true) {cs:List (ByteArray × Int)} {n:Int} (h:A1 cs n=0):A1 (cs.map (mulC k)) m=0:=by
 unfold A1 at h ⊢;rw [Fg];split at h
 ·cases h
 ·rename_i g;rw [if_neg g]; exact Ar3 hk hm h
theorem Ahb {cs:List (ByteArray × Int)} {n:Int} (h:A1 cs n=0):Ei cs n k=((cs.map (mulC k),n*k),true):=by
 obtain ⟨hb,hn,-⟩:=G5 h;unfold Ei;rw [if_pos h,if_neg aA,if_pos (by rw [Kd]; omega),Y9 hk hn,if_pos ⟨rfl,Fc.2 fun c hc=>by rw [Y9 hk (hb c hc).1]⟩]
theorem Arw {cs:List (ByteArray × Int)} {n:Int} (h:A1 cs n=0):addL (cs.map (mulC k)) (n*k) [] 1=if inB (n*k+1)=true then ((cs.map (mulC k),n*k+1),true) else (([],0),false):=by
 obtain ⟨hb,hn,-⟩:=G5 h;have h1:A1 [] 1=0:=aJ
 unfold addL;rw [if_pos ⟨Afm hk (Al8 hk hn) h,h1⟩,H5];unfold Hg;split
 ·rename_i h2;rw [if_pos (G5 h2).2.1]
 ·rename_i h2;rw [if_neg fun h3=>h2 (Afm hk h3 h)]
theorem Amo {v:ByteArray->Rat} : ∀ {cs:List (ByteArray × Int)},(∀ c ∈ cs,inB c.2=true)->linV v (cs.map (mulC k))=(k:Rat)*linV v cs
 | [],_=>by simp only [Cp,linV]; grind
 | c :: cs,h=>by
  have e:mulC k c=(c.1,c.2*k):=by unfold mulC; rw [Y9 hk (h c (Cq ..))]
  rw [Cm,e,linV,linV,Amo fun c' hc=>h c' (Cr _ hc),Fb]; grind
theorem Ant {v:ByteArray->Rat} {l:List RowT} {r:RowT} (h:A1 r.1 r.2.1=0):Sat v (l++[oneR r k])↔Sat v l/\(k:Rat)*valR v r+1<=0:=by
 obtain ⟨hb,hn,-⟩:=G5 h;have e:valR v (oneR r k)=(k:Rat)*valR v r+1:=by
  unfold valR oneR;simp only;rw [Amo hk fun c hc=>(hb c hc).1,jK,Fb];have:((1:Int):Rat)=1:=rfl;rw [this]; grind
 constructor
 ·intro hs;refine ⟨fun x hx=>hs x (Cu.2 (.inl hx)),?_⟩;rw [<- e];exact (hs _ (Cu.2 (.inr (Ft.2 rfl)))).1
 ·rintro ⟨h1,h2⟩ x hx;rcases Cu.1 hx with hx|hx
  ·exact h1 x hx
  ·rw [Ft.1 hx,e];exact ⟨h2,fun h=>(by simp [oneR] at h)⟩
theorem Ah3 {l:List RowT} {r:RowT} (h:A1 r.1 r.2.1=0) (hs:sysE (l++[oneR r k])=0) (hb:inB (r.2.1*k+1)=true):Hs l r k=true↔¬ ∃ v,Sat v l/\(k:Rat)*valR v r+1<=0:=by
 unfold Hs;rw [hb,Fq,Abp];exact ⟨fun ⟨_,h2⟩ ⟨v,h3⟩=>h2 ⟨v,(Ant hk h).2 h3⟩,fun h2=>⟨hs,fun ⟨v,h3⟩=>h2 ⟨v,(Ant hk h).1 h3⟩⟩⟩
end
theorem Y0 {l:List RowT} {r:RowT} : E3 l r=true↔A1 r.1 r.2.1=0/\Hs l r (-1)=true/\(r.2.2=true->Hs l r 1=true):=by
 unfold E3;rw [Ch,Ch,beq_iff_eq,Io,Ig];cases r.2.2 <;> simp
end
section
open Go
end
section
open Go
abbrev BigT:=Bool × List Int
def bigC (b:BigT):List AV:=[.prim (.bool b.1),.frz (b.2.map digC) .unk]
def H7 (l:List BigT):AV:=.frz (l.map bigC) .unk
def vB (b:BigT):Int:=V b.1 b.2
def zB (z:Int):BigT:=(decide (z<0),dig z.natAbs)
def quoZ (a b:Int):Int:=if b=0 then 0 else a.fdiv b
def remZ (a b:Int):Int:=if b=0 then 0 else a.fmod b
theorem X0 (l:List BigT):B2 2 (l.map bigC)=true:=Dh (f:=bigC) (sz:=2) (fun _=>rfl) l
theorem Alj {a b:Nat} (h:a<=b) (hb:(dig b).length<=200):(dig a).length<=200:=A9.2 (Iu h (A9.1 hb))
theorem Aud {z:Int} : okZ z=true↔(dig z.natAbs).length<=200:=by simp [okZ]
theorem Ase {a b:Int} (hb:0<=b) (ha:(dig a.natAbs).length<=200):(dig (quoZ a b).natAbs).length<=200:=by
 unfold quoZ;split
 ·exact Alj (b:=a.natAbs) (by simp) ha
 ·rename_i h;refine Alj (b:=a.natAbs) ?_ ha;rw [Int.fdiv_eq_ediv_of_nonneg _ hb];have h1:=Int.emod_nonneg a h;have h2:=Int.emod_lt_of_pos a (show 0<b by omega);have h3:=Int.emod_add_mul_ediv a b;generalize a / b=q at *;generalize a % b=r at *;rcases Int.lt_trichotomy q 0 with hq|hq|hq
  ·have:b*q<=1*q:=Int.mul_le_mul_of_nonpos_right (show (1:Int)<=b by omega) aA;have h5:b*(q+1)<=1*(q+1):=Int.mul_le_mul_of_nonpos_right (show (1:Int)<=b by omega) aA;rw [I1] at h5;omega
  ·subst hq; simp
  ·have:1*q<=b*q:=Int.mul_le_mul_of_nonneg_right (show (1:Int)<=b by omega) aA;omega
theorem At2 {a b:Int} (ha:(dig a.natAbs).length<=200) (hb:(dig b.natAbs).length<=200):(dig ((a.gcd b:Nat):Int).natAbs).length<=200:=by
 show (dig (a.natAbs.gcd b.natAbs)).length<=200;by_cases h:a.natAbs=0
 ·rw [h,Nat.gcd_zero_left]; exact hb
 ·exact Alj (Nat.gcd_le_left _ aA) ha
theorem Atz (z:Int):(dig (fitZ z).natAbs).length<=200:=Aud.1 (Auc z)
end
section
open Go Tryz
set_option maxHeartbeats 2000000
set_option maxRecDepth 100000
def comI (c:Int) (q:Q):Int:=fitZ (c*quoZ q.2 ((c.gcd q.2:Nat):Int))
def comF (l:List Q):Int:=l.foldl comI 1
def intF (c:Int) (q:Q):Int:=fitZ (q.1*quoZ c q.2)
def Aid (l:List Q):List BigT:=l.map fun q=>zB (intF (comF l) q)
def lenQ (q:Q):Prop:=(dig q.1.natAbs).length<=200/\(dig q.2.natAbs).length<=200/\0<=q.2
theorem Aee:(dig (Int.natAbs 1)).length<=200:=aQ
theorem Alf (l:List Q):(dig (comF l).natAbs).length<=200:=by
 unfold comF;have:∀ (l:List Q) (c:Int),(dig c.natAbs).length<=200->(dig (l.foldl comI c).natAbs).length<=200:=by
  intro l;induction l with
  | nil=>intro c h; exact h
  | cons q l ih=>intro c _; exact ih _ (Atz _)
 exact this l 1 Aee
theorem Apz {l:List Q} {i:Nat} {q:Q} (h:nth l i=some q):comF (l.take (i+1))=comI (comF (l.take i)) q:=by
 unfold comF;rw [B3 h,List.foldl_append]; rfl
theorem Am4 {l:List Q} {i:Nat} {q:Q} (h:nth l i=some q):nth (l.map ceW) i=some (ceW q):=dG
section
variable (S:List Ent) (tk:List Nat) (k:Nat)
theorem Tu (l:List Q) (hl:l.length<=1000) (hq:∀ q ∈ l,lenQ q):cL prog 46 [.frz (l.map ceW) .unk] S tk k=some (H7 (Aid l),S,tk,k):=by
 have hO:=fun S tk k=>R9 S tk k 1 aD;simp only [zA,bigA,digA] at hO;refine opP func46 ntmps46 (hp3:=rfl) ?_;simp (maxSteps:=10^6)+contextual(disch:=try exact dqd)only[ev1,simprocAttr,Ca,Bo,Cb,results46,bigC,zB,hO];refine loop1 (P:=prog) (fun x st=>st.T.length=69/\(x<=l.length)/\getT st.T 0=.frz (l.map ceW) .unk/\getT st.T 3=.ref 0 0 0/\getT st.T 18=.frz (l.map ceW) .unk/\getT st.T 19=.int (l.length:Nat)/\getT st.T 20=.int (x:Nat)/\st.S=[⟨0,bigC (zB (comF (l.take x)))⟩]) (fun x=>l.length - x) (fun x=>H7 (Aid l)) (0) ?_ ?_;case refine_2=>exact ⟨rfl,Ci _,rfl,rfl,rfl,rfl,rfl,rfl⟩
 rintro i ⟨T,S',tk',n'⟩ ⟨hl,hi,e0,e3,e18,e19,e20,eS⟩ IH;subst eS;obtain ⟨g,hg,hT⟩:=Ap hl;rw [hg] at e0 e3 e18 e19 e20;subst hT;clear hg hl;have bg:=Aw (i:=i) aA;by_cases hlt:i<l.length
 ·have d1:decide ((i:Int)<(l.length:Int))=true:=aI
  obtain ⟨q,hx⟩:=Ab hlt;have hx':=Am4 hx;have vr:=hq q (Aj hx);have hcl:=Alf (l.take i);have gp:=Apz hx;obtain ⟨c,hc⟩:∃ c,c=comF (l.take i):=⟨_,rfl⟩;rw [<- hc] at hcl gp ⊢;have hgl:=At2 hcl vr.2.1;obtain ⟨g,hg⟩:∃ g:Int,g=((c.gcd q.2:Nat):Int):=⟨_,rfl⟩;have hG:=fun S tk k=>told (E:=E1) (Atc S tk k (decide (c<0)) (decide (q.2<0)) (dig c.natAbs) (dig q.2.natAbs) aA Za5h);rw [V_of c hcl,V_of q.2 vr.2.1,<- hg] at hG;rw [<- hg] at hgl;have kt:0<=g:=by rw [hg]; omega
  have hD:=fun S tk k=>told (E:=E1) (Akx S tk k (decide (q.2<0)) (decide (g<0)) (dig q.2.natAbs) (dig g.natAbs) Za5h aA);rw [V_of q.2 vr.2.1,V_of g hgl,divA,<- quoZ,<- remZ] at hD;have hul:=Ase kt vr.2.1;obtain ⟨u,hu⟩:∃ u,u=quoZ q.2 g:=⟨_,rfl⟩;rw [<- hu] at hD hul;have hM:=fun S tk k=>told (E:=E1) (Afj S tk k (decide (c<0)) (decide (u<0)) (dig c.natAbs) (dig u.natAbs) aA aA);rw [V_of c hcl,V_of u hul,sgnZ] at hM;have a2e:comF (l.take (i+1))=fitZ (c*u):=by rw [gp,hu,hg]; rfl
  rw [<- a2e] at hM;simp only [ceW,digA] at hx';simp only [zA,bigA,digA] at hG hD hM;simp (maxSteps:=10^6)+contextual(disch:=try exact dqd)only[ev1,simprocAttr,Ca,Bo,Cb,results46,bigC,zB,e0,e3,e18,e19,e20,d1,hx',hG,hD,hM,bg];exact IH (i+1) _ aF ⟨rfl,aE,bR,bR,bR,bR,bR,bR⟩
 have d1:decide ((i:Int)<(l.length:Int))=false:=aI
 have fv:i=l.length:=aA
 subst fv;rw [C8];simp (maxSteps:=10^6)+contextual(disch:=try exact dqd)only[ev1,simprocAttr,Ca,Bo,Cb,results46,bigC,zB,e0,e3,e18,e19,e20,d1];have hcl:=Alf l;obtain ⟨C,hC⟩:∃ C,C=comF l:=⟨_,rfl⟩;rw [<- hC] at hcl ⊢;have hif:Aid l=l.map fun q=>zB (intF C q):=by unfold Aid; rw [<- hC]
 rw [hif];refine loop1 (P:=prog) (fun x st=>st.T.length=69/\(x.1<=l.length)/\(x.2.1=(l.take x.1).map fun q=>zB (intF C q))/\(Be st.tk x.2.2 2=true)/\getT st.T 3=.ref 0 0 0/\getT st.T 9=.frz (x.2.1.map bigC) x.2.2/\getT st.T 42=.frz (l.map ceW) .unk/\getT st.T 43=.int (l.length:Nat)/\getT st.T 44=.int (x.1:Nat)/\st.S=[⟨0,bigC (zB C)⟩]) (fun x=>l.length - x.1) (fun x=>H7 (l.map fun q=>zB (intF C q))) (0,[],.nilc) ?_ ?_;case refine_2=>exact ⟨rfl,Ci _,rfl,rfl,rfl,rfl,rfl,rfl,rfl,rfl⟩
 rintro ⟨i,out,c⟩ ⟨T,S',tk',n'⟩ ⟨hl,hi,he,ab,e3,e9,e42,e43,e44,eS⟩ IH;simp only at hi he ab e3 e9 e42 e43 e44 eS;subst eS;obtain ⟨g,hg,hT⟩:=Ap hl;rw [hg] at e3 e9 e42 e43 e44;subst hT;clear hg hl;have bg:=Aw (i:=i) aA;by_cases hlt:i<l.length
 ·have d1:decide ((i:Int)<(l.length:Int))=true:=aI
  obtain ⟨q,hx⟩:=Ab hlt;have hx':=Am4 hx;have vr:=hq q (Aj hx);have hD:=fun S tk k=>told (E:=E1) (Akx S tk k (decide (C<0)) (decide (q.2<0)) (dig C.natAbs) (dig q.2.natAbs) aA Za5h);rw [V_of C hcl,V_of q.2 vr.2.1,divA,<- quoZ,<- remZ] at hD;have hul:=Ase vr.2.2 hcl;obtain ⟨u,hu⟩:∃ u,u=quoZ C q.2:=⟨_,rfl⟩;rw [<- hu] at hD hul;have hM:=fun S tk k=>told (E:=E1) (Afj S tk k (decide (q.1<0)) (decide (u<0)) (dig q.1.natAbs) (dig u.natAbs) (by have:=vr.1; omega) aA);rw [V_of q.1 vr.1,V_of u hul,sgnZ] at hM;have a4o:intF C q=fitZ (q.1*u):=by unfold intF; rw [<- hu]
  rw [<- a4o] at hM;have oj:out.length<=l.length:=by rw [he]; simp; omega
  have hr:=X0 out;have am:=Ba ab;have b7:(out.map bigC).length+1<=1048576:=aC
  have pu:=B3 hx;simp only [ceW,digA] at hx';simp only [zA,bigA,digA] at hD hM;simp (maxSteps:=10^6)+contextual(disch:=try exact dqd)only[ev1,simprocAttr,Ca,Bo,Cb,results46,bigC,zB,e3,e9,e42,e43,e44,d1,hx',hD,hM,bg,hr];exact IH (i+1,out++[zB (intF C q)],Ay tk' c 2) _ aF ⟨rfl,aE,by rw [pu,C9,he]; rfl,am,bR,bR,bR,bR,bR,bR⟩
 ·have d1:decide ((i:Int)<(l.length:Int))=false:=aI
  have fv:i=l.length:=aA
  subst fv;rw [C8] at he;simp (maxSteps:=10^6)+contextual(disch:=try exact dqd)only[ev1,simprocAttr,Ca,Bo,Cb,results46,bigC,zB,e3,e9,e42,e43,e44,d1];rw [he]; rfl
theorem Ny (l:List RowT) (bw:∀ r ∈ l,r.1.length<=1048576) (hi:∀ r ∈ l,i64 r.2.1/\∀ c ∈ r.1,i64 c.2) (K:Nat) (a:Ans) (h0:sysE l=0) (ci:askN K l (Dx l)=some a) (bl:a.least=none) (hn:a.nu.length<=1000) (hq:∀ q ∈ a.nu,lenQ q) :
  cL prog 24 [Ao l] S tk k=some (.tup [if a.f=true then H7 [] else H7 (Aid a.nu),.bool (!a.f)],S,tk,k):=by
 have hC:=fun S tk k=>Hp S tk k l bw;obtain ⟨h1,h2,h3,-⟩:=Hc h0;have hV:=fun S tk k=>Ek S tk k l h1 h2;have hA:=fun S tk k=>Tm S tk k l aA aA (Dx l) aA Q8 hi h1 K a ci bl;have hI:=fun S tk k=>Tu S tk k a.nu hn hq;have c1:(sysE l != 0)=false:=aX
 simp only [ansC,lsC,ceW,digA,Ao,Aq,Co,Ct] at hA;simp only [Ao,Aq] at hC hV;simp only [H7] at hI;cases hf:a.f with
 | true =>
  rw [hf] at hA;rw [if_pos rfl];refine opP func24 ntmps24 (hp3:=rfl) ?_;simp (maxSteps:=10^6)+contextual(disch:=try exact dqd)only[ev1,simprocAttr,Ca,Bo,Cb,results24,Ao,Aq,hC,hV,hA,c1];rfl
 | false =>
  rw [hf] at hA;rw [if_neg Iw];refine opP func24 ntmps24 (hp3:=rfl) ?_;simp (maxSteps:=10^6)+contextual(disch:=try exact dqd)only[ev1,simprocAttr,Ca,Bo,Cb,results24,Ao,Aq,hC,hV,hA,c1,hI];rfl
end
end
section
open Go
structure RatCert (vars:List ByteArray) (l:List RowT) (y:Nat->Rat):Prop where
 zero:∀ k,k<vars.length->(Simp.sum l.length fun i=>y i*((cofI vars (rwA l i).1 k:Int):Rat))=0
 nn:∀ i,i<l.length->(rwA l i).2.2=false->0<=y i
 pos:0<Simp.sum l.length fun i=>y i*(((rwA l i).2.1:Int):Rat)
structure IntCert (vars:List ByteArray) (l:List RowT) (zs:List Int):Prop where
 len:zs.length=l.length
 zero:∀ k,k<vars.length->Simp.isum l.length (fun i=>at_ 0 zs i*cofI vars (rwA l i).1 k)=0
 nn:∀ i,i<l.length->(rwA l i).2.2=false->0<=at_ 0 zs i
 pos:0<Simp.isum l.length fun i=>at_ 0 zs i*(rwA l i).2.1
def Awd:List (ByteArray × Int)->ByteArray->Int
 | [],_=>0
 | c :: cs,s=>if sEq c.1 s=true then c.2 else Awd cs s
def dotN (f:RowT->Int) (l:List RowT) (ms:List BigT):Nat->Int
 | 0=>0
 | i+1=>dotN f l ms i+(match nth l i,nth ms i with|some r,some m=>vB m*f r|_,_=>0)
def constD (l:List RowT) (ms:List BigT) (i:Nat):Int:=dotN (fun r=>r.2.1) l ms i
end
section
open Go
end
section
open Go
end
section
open Go
def dotZ (f:RowT->Int):List RowT->List Int->Int
 | r :: l,z :: zs=>z*f r+dotZ f l zs
 | _,_=>0
structure CertZ (l:List RowT) (zs:List Int):Prop where
 len:zs.length=l.length
 zero:∀ v,dotZ (fun r=>Awd r.1 v) l zs=0
 nn:∀ i,i<l.length->(rwA l i).2.2=false->0<=at_ 0 zs i
 pos:0<dotZ (fun r=>r.2.1) l zs
def outF (f:ByteArray->Int):List ByteArray->List (ByteArray × Int)
 | []=>[]
 | v :: vs=>if f v=0 then outF f vs else (v,f v) :: outF f vs
theorem Zc {f:ByteArray->Int} : ∀ {l m:List ByteArray},outF f (l++m)=outF f l++outF f m
 | [],_=>rfl
 | v :: l,m=>by
  rw [Co,outF,outF,Zc];split <;> rfl
theorem Zd {f:ByteArray->Int} : ∀ {l:List ByteArray},(outF f l).length<=l.length
 | []=>Ce _
 | v :: l=>by
  have:=Zd (f:=f) (l:=l);rw [outF];split <;> simp <;> omega
theorem Auz {a b:List RowT} (h:sysE (a++b)=0):sysE a=0:=by
 obtain ⟨-,f2,f3,f4⟩:=Hc h;have ha:=Hl f4;refine Axo (by simp at f2; omega) (fun x hx=>ha x (Cu.2 (.inl hx))) ?_;refine Fh (At3 (Z1 a) (Z1 (a++b)) fun x hx=>?_) f3;obtain ⟨r',hr,hc⟩:=Agm.1 hx;exact Agm.2 ⟨r',Cu.2 (.inl hr),hc⟩
end
section
open Go
end
section
open Go
end
section
open Go
end
section
open Go
end
section
open Go
theorem map_set {g g':ByteArray->Int} {s:ByteArray} (hg:∀ v,v≠s->g' v=g v):∀ {vs:List ByteArray} {q:Nat},Inc vs->nth vs q=some s->(vs.map g).set q (g' s)=vs.map g'
 | [],_,_,h=>bO
 | a :: vs,0,hi,h=>by
  simp only [nth,Bg] at h;subst h;have h1:=Ib.1 hi;simp only [Cm,List.set_cons_zero,jH,true_and];refine Sy fun v hv=>(hg v fun he=>?_).symm;have:=h1.1 v hv;rw [he] at this;exact Ya4h
 | a :: vs,q+1,hi,h=>by
  have h1:=Ib.1 hi;have hs:s ∈ vs:=Vs (i:=q) h;have ha:a≠s:=fun he=>by
   have:=h1.1 s hs;rw [he] at this;exact Ya4h
  simp only [Cm,iC,hg a ha,map_set hg h1.2 (show nth vs q=some s from h)]
end
section
open Go
end
section
open Go
end
section
open Go
end
section
open Go Tryz
set_option maxRecDepth 100000
theorem Gj (l:List RowT):B2 3 (l.map rowC)=true:=Dh (f:=rowC) (sz:=3) (fun _=>rfl) l
def Aco (l:List RowT):List AV:=[Ao l]
section
variable (S:List Ent) (tk:List Nat) (k:Nat)
theorem N8 (ls:List (List RowT)) (h1:ls.length<=1000) (h2:ls.flatten.length<=100000):cL prog 22 [.frz (ls.map Aco) .unk] S tk k=some (Ao ls.flatten,S,tk,k):=by
 refine opP func22 ntmps22 (hp3:=rfl) ?_;simp (maxSteps:=10^6)+contextual(disch:=try exact dqd)only[ev1,simprocAttr,Ca,Bo,Cb,results22];refine loop1 (P:=prog) (fun x st=>st.T.length=17/\(x.1<=ls.length)/\(Be st.tk x.2 3=true)/\getT st.T 3=.frz ((ls.take x.1).flatten.map rowC) x.2/\getT st.T 6=.frz (ls.map Aco) .unk/\getT st.T 7=.int (ls.length:Nat)/\getT st.T 8=.int (x.1:Nat)/\st.S=[]) (fun x=>ls.length - x.1) (fun x=>Ao ls.flatten) (0,.nilc) ?_ ?_;case refine_2=>exact ⟨rfl,Ci _,rfl,rfl,rfl,rfl,rfl,rfl⟩
 rintro ⟨i,c⟩ ⟨T,S',tk',n'⟩ ⟨hl,hi,ab,e3,e6,e7,e8,eS⟩ IH;simp only at hi ab e3 e6 e7 e8 eS;subst eS;obtain ⟨g,hg,hT⟩:=Ap hl;rw [hg] at e3 e6 e7 e8;subst hT;clear hg hl;have bg:=Aw (i:=i) aA;by_cases la:i<ls.length
 ·have d1:decide ((i:Int)<(ls.length:Int))=true:=aZ
  obtain ⟨x,hx⟩:=Ab la;have hx':nth (ls.map Aco) i=some (Aco x):=eP
  have pu:=B3 hx;have hfl:(ls.take (i+1)).flatten=(ls.take i).flatten++x:=by rw [pu]; simp
  have hle:(ls.take (i+1)).flatten.length<=ls.flatten.length:=by
   have e:ls.flatten=(ls.take (i+1)).flatten++(ls.drop (i+1)).flatten:=by rw [<- kV,Ix]
   rw [e,Cn]; omega
  rw [hfl,Cn] at hle;have bz:=Gj (ls.take i).flatten;have ae:=Gj x;have am:=Ba ab;have hn:((ls.take i).flatten.map rowC).length+(x.map rowC).length<=1048576:=Za2x
  simp only [Aco,Ao] at hx';simp (maxSteps:=10^6)+contextual(disch:=try exact dqd)only[ev1,simprocAttr,Ca,Bo,Cb,results22,e3,e6,e7,e8,d1,hx',bg,bz,ae];exact IH (i+1,Ay tk' c 3) _ aF ⟨rfl,aE,am,eD,eD,eD,eD,eD⟩
 ·have d1:decide ((i:Int)<(ls.length:Int))=false:=aZ
  have fv:i=ls.length:=aA
  subst fv;rw [C8] at e3;simp (maxSteps:=10^6)+contextual(disch:=try exact dqd)only[ev1,simprocAttr,Ca,Bo,Cb,results22,e3,e6,e7,e8,d1,Ao]
theorem Ame {A B:List (List AV)} : cL prog 22 [.frz [[.frz A .unk],[.frz B .unk]] .tight] S tk k=cL prog 22 [.frz [[.frz A .unk],[.frz B .unk]] .unk] S tk k:=P0 rfl rfl rfl
theorem add_n {A:List (List AV)} {n:Int} : cL prog 72 [.agg [.frz A .unk,.int n],.agg [.frz [] .nilc,.int 1]] S tk k=cL prog 72 [.agg [.frz A .unk,.int n],.agg [.frz [] .unk,.int 1]] S tk k:=P0 rfl rfl rfl
theorem Avy {A:List (List AV)} {n:Int} : cL prog 75 [.agg [.frz A .unk,.int n],.agg [.frz [] .nilc,.int 1]] S tk k=cL prog 75 [.agg [.frz A .unk,.int n],.agg [.frz [] .unk,.int 1]] S tk k:=P0 rfl rfl rfl
theorem Agq {l:List RowT} {r:RowT} {q:Int} (h1:l.length<=12) (h2:∀ r ∈ l,r.1.length<=1048576) (h3:r.1.length<=1048576):(l++[oneR r q]).length<=13/\∀ x ∈ l++[oneR r q],x.1.length<=1048576:=by
 refine ⟨aC,fun x hx=>?_⟩;rcases Cu.1 hx with hx|hx
 ·exact h2 x hx
 ·rw [Ft.1 hx]; simpa [oneR] using h3
theorem Kf (l:List RowT) (r:RowT) (q:Int) (hq:q=1\/q=-1) (h0:A1 r.1 r.2.1=0) (hl:l.length<=12) (bw:∀ r ∈ l,r.1.length<=1048576):cL prog 34 [Ao l,linA r.1 r.2.1,.int q] S tk k=some (.bool (Hs l r q),S,tk,k):=by
 have i6:=Hk h0;have hS:=fun S tk k=>Ab4 S tk k r.1 r.2.1 q aA;have hA:=fun S tk k=>(add_n S tk k).trans (Aii S tk k (r.1.map (mulC q)) [] (r.2.1*q) 1 aC (by simp));rw [Ahb hq h0] at hS;rw [Arw hq h0] at hA;obtain ⟨o1,o2⟩:=Agq (q:=q) hl bw (show r.1.length<=1048576 by omega);have hJ:=fun S tk k=>(Ame S tk k).trans (N8 S tk k [l,[oneR r q]] (by simp) aC);have hF:=fun S tk k=>Mt S tk k (l++[oneR r q]) o1 o2;have hc:Hs l r q=(inB (r.2.1*q+1) && ((sysE (l++[oneR r q]) == 0) && !Ls (l++[oneR r q]))):=rfl;rw [hc];simp only [Fw,S8,Fj,Ao] at hJ;simp only [linA,Ag,Cp] at hS hA;simp only [Ao] at hF;cases hb:inB (r.2.1*q+1) with
 | true =>
  rw [hb,if_pos rfl] at hA;simp only [oneR,Cm,Cp,C9,Aco,Ao,rowC,Ag] at hJ hF ⊢;refine opP func34 ntmps34 (hp3:=rfl) ?_;cases jb:Ls (l++[(r.1.map (mulC q),r.2.1*q+1,false)]) <;> rw [jb] at hF <;>
  simp (maxSteps:=10^6)+contextual(disch:=try exact dqd)only[ev1,simprocAttr,Ca,Bo,Cb,results34,Ao,linA,Ag,hS,hA,hJ,hF,Fq,jE,S9,Fs,Fu]
 | false =>
  rw [hb,if_neg (by simp)] at hA;refine opP func34 ntmps34 (hp3:=rfl) ?_;simp (maxSteps:=10^6)+contextual(disch:=try exact dqd)only[ev1,simprocAttr,Ca,Bo,Cb,results34,Ao,linA,Ag,hS,hA,Fo]
end
end
section
open Go Tryz
set_option maxRecDepth 100000
section
variable (S:List Ent) (tk:List Nat) (k:Nat)
theorem Ao7 (a b:List RowT) (ha:a.length<=100000) (hb:b.length<=100000):cL prog 77 [Ao a,Ao b] S tk k=some (Ao (a++b),S,tk,k):=by
 have h1:=fun tk=>apB_all (tk:=tk) (c:=.tight) (es:=[]) (ys:=a.map rowC) (sz:=3) rfl rfl (Gj a) aC;have h2:=fun tk=>apB_all (tk:=Eh tk .tight) (c:=Ay tk .tight 3) (es:=a.map rowC) (ys:=b.map rowC) (sz:=3) (Ba rfl) (Gj a) (Gj b) aC;refine opP func77 ntmps77 (hp3:=rfl) ?_;simp (maxSteps:=10^6)+contextual(disch:=try exact dqd)only[ev1,simprocAttr,Ca,Bo,Cb,results77,Ao,h1,h2,Ct];simp only [C9]
theorem Aox (a b:List RowT) (ha:a.length<=100000) (hb:b.length<=100000):cL prog 19 [Ao a,Ao b] S tk k=some (Ao (a++b),S,tk,k):=by
 have h1:=fun tk=>apB_all (tk:=tk) (c:=.tight) (es:=[]) (ys:=a.map rowC) (sz:=3) rfl rfl (Gj a) aC;have h2:=fun tk=>apB_all (tk:=Eh tk .tight) (c:=Ay tk .tight 3) (es:=a.map rowC) (ys:=b.map rowC) (sz:=3) (Ba rfl) (Gj a) (Gj b) aC;refine opP func19 ntmps19 (hp3:=rfl) ?_;simp (maxSteps:=10^6)+contextual(disch:=try exact dqd)only[ev1,simprocAttr,Ca,Bo,Cb,results19,Ao,h1,h2,Ct];simp only [C9]
theorem Wp (l:List RowT) (hl:l.length<=13) (bw:∀ r ∈ l,r.1.length<=1048576):cL prog 76 [Ao l] S tk k=some (.bool (infB l),S,tk,k):=by
 have hF:=fun S tk k=>Ae6 S tk k l hl bw;have hc:infB l=((sysE l == 0) && !Ls l):=rfl;rw [hc];simp only [Ao] at hF;refine opP func76 ntmps76 (hp3:=rfl) ?_;cases jb:Ls l <;> rw [jb] at hF <;>
 simp (maxSteps:=10^6)+contextual(disch:=try exact dqd)only[ev1,simprocAttr,Ca,Bo,Cb,results76,Ao,hF,jE,S9,Fs,Fu];all_goals exact ⟨fun _=>trivial,fun _=>trivial⟩
theorem Wn (l:List RowT) (hl:l.length<=13) (bw:∀ r ∈ l,r.1.length<=1048576):cL prog 44 [Ao l] S tk k=some (.bool (infB l),S,tk,k):=by
 have hF:=fun S tk k=>Ae6 S tk k l hl bw;have hc:infB l=((sysE l == 0) && !Ls l):=rfl;rw [hc];simp only [Ao] at hF;refine opP func44 ntmps44 (hp3:=rfl) ?_;cases jb:Ls l <;> rw [jb] at hF <;>
 simp (maxSteps:=10^6)+contextual(disch:=try exact dqd)only[ev1,simprocAttr,Ca,Bo,Cb,results44,Ao,hF,jE,S9,Fs,Fu];all_goals exact ⟨fun _=>trivial,fun _=>trivial⟩
theorem Av7 {A B:List (List AV)} : cL prog 77 [.frz A .unk,.frz B .tight] S tk k=cL prog 77 [.frz A .unk,.frz B .unk] S tk k:=P0 rfl rfl rfl
theorem Uj (l:List RowT) (r:RowT) (q p:Int) (hq:q=1\/q=-1) (hp:p=-q) (h0:A1 r.1 r.2.1=0) (hl:l.length<=12) (bw:∀ r ∈ l,r.1.length<=1048576):cL prog 36 [Ao l,linA r.1 r.2.1,.int p] S tk k=some (.bool (Hs l r q),S,tk,k):=by
 have i6:=Hk h0;have hS:=fun S tk k=>Ajw S tk k r.1 r.2.1 q aA;have hA:=fun S tk k=>(Avy S tk k).trans (Asr S tk k (r.1.map (mulC q)) [] (r.2.1*q) 1 aC (by simp));rw [Ahb hq h0] at hS;rw [Arw hq h0] at hA;obtain ⟨o1,o2⟩:=Agq (q:=q) hl bw (show r.1.length<=1048576 by omega);have hJ:=fun S tk k=>(Av7 S tk k).trans (Ao7 S tk k l [oneR r q] aA (by simp));have hF:=fun S tk k=>Wp S tk k (l++[oneR r q]) o1 o2;have hw:B8.wrap (0 - p)=q:=aP
 have hc:Hs l r q=(inB (r.2.1*q+1) && infB (l++[oneR r q])):=rfl;rw [hc];simp only [Ao] at hJ;simp only [linA,Ag,Cp] at hS hA;simp only [Ao] at hF;cases hb:inB (r.2.1*q+1) with
 | true =>
  rw [hb,if_pos rfl] at hA;simp only [oneR,Cm,Cp,C9,rowC,Ag] at hJ hF ⊢;refine opP func36 ntmps36 (hp3:=rfl) ?_;simp (maxSteps:=10^6)+contextual(disch:=try exact dqd)only[ev1,simprocAttr,Ca,Bo,Cb,results36,Ao,linA,Ag,hw,hS,hA,hJ,hF,Fq]
 | false =>
  rw [hb,if_neg (by simp)] at hA;refine opP func36 ntmps36 (hp3:=rfl) ?_;simp (maxSteps:=10^6)+contextual(disch:=try exact dqd)only[ev1,simprocAttr,Ca,Bo,Cb,results36,Ao,linA,Ag,hw,hS,hA,Fo]
theorem G1 (l:List RowT) (r:RowT) (hl:l.length<=12) (bw:∀ r ∈ l,r.1.length<=1048576) (hr:r.1.length<=1048576):cL prog 13 [Ao l,.agg (rowC r)] S tk k=some (.bool (E3 l r),S,tk,k):=by
 have hC:=fun S tk k=>Hf S tk k r.1 r.2.1 hr;have hc:E3 l r=((A1 r.1 r.2.1 == 0) && (Hs l r (-1) && (!r.2.2 || Hs l r 1))):=rfl;rw [hc];simp only [linA,Ag] at hC;by_cases h0:A1 r.1 r.2.1=0
 ·have h1:=fun S tk k=>Kf S tk k l r 1 (.inl rfl) h0 hl bw;have h2:=fun S tk k=>Kf S tk k l r (-1) (.inr rfl) h0 hl bw;have c1:(A1 r.1 r.2.1 != 0)=false:=dA
  have c2:(A1 r.1 r.2.1 == 0)=true:=dA
  simp only [linA,Ag,Ao] at h1 h2;rw [c2,Fq];refine opP func13 ntmps13 (hp3:=rfl) ?_;cases ha:Hs l r (-1) <;> rw [ha] at h2 <;> cases hb:Hs l r 1 <;> rw [hb] at h1 <;> cases he:r.2.2 <;>
  simp (maxSteps:=10^6)+contextual(disch:=try exact dqd)only[ev1,simprocAttr,Ca,Bo,Cb,results13,Ao,rowC,Ag,hC,c1,h1,h2,he,Fq,Fo,Fs,Fu,jU,Oe]
 ·have c1:(A1 r.1 r.2.1 != 0)=true:=aX
  have c2:(A1 r.1 r.2.1 == 0)=false:=aX
  rw [c2,Fo];refine opP func13 ntmps13 (hp3:=rfl) ?_;simp (maxSteps:=10^6)+contextual(disch:=try exact dqd)only[ev1,simprocAttr,Ca,Bo,Cb,results13,Ao,rowC,Ag,hC,c1]
theorem Ui (l:List RowT) (r:RowT) (hl:l.length<=12) (bw:∀ r ∈ l,r.1.length<=1048576) (hr:r.1.length<=1048576):cL prog 14 [Ao l,.agg (rowC r)] S tk k=some (.bool (E3 l r),S,tk,k):=by
 have hC:=fun S tk k=>Jq S tk k r.1 r.2.1 hr;have hc:E3 l r=((A1 r.1 r.2.1 == 0) && (Hs l r (-1) && (!r.2.2 || Hs l r 1))):=rfl;rw [hc];simp only [linA,Ag] at hC;by_cases h0:A1 r.1 r.2.1=0
 ·have h1:=fun S tk k=>Uj S tk k l r 1 (-1) (.inl rfl) rfl h0 hl bw;have h2:=fun S tk k=>Uj S tk k l r (-1) 1 (.inr rfl) rfl h0 hl bw;have c1:(A1 r.1 r.2.1 != 0)=false:=dA
  have c2:(A1 r.1 r.2.1 == 0)=true:=dA
  simp only [linA,Ag,Ao] at h1 h2;rw [c2,Fq];refine opP func14 ntmps14 (hp3:=rfl) ?_;cases ha:Hs l r (-1) <;> rw [ha] at h2 <;> cases hb:Hs l r 1 <;> rw [hb] at h1 <;> cases he:r.2.2 <;>
  simp (maxSteps:=10^6)+contextual(disch:=try exact dqd)only[ev1,simprocAttr,Ca,Bo,Cb,results14,Ao,rowC,Ag,hC,c1,h1,h2,he,Fq,Fo,Fs,Fu,jU,Oe]
 ·have c1:(A1 r.1 r.2.1 != 0)=true:=aX
  have c2:(A1 r.1 r.2.1 == 0)=false:=aX
  rw [c2,Fo];refine opP func14 ntmps14 (hp3:=rfl) ?_;simp (maxSteps:=10^6)+contextual(disch:=try exact dqd)only[ev1,simprocAttr,Ca,Bo,Cb,results14,Ao,rowC,Ag,hC,c1]
end
end
end Go.Proofs.YthelkgdmgihhiaaGreat
