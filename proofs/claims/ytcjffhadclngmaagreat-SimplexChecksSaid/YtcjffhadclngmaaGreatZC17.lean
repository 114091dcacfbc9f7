/- QV5 QV6 QV7 QV8 QV9 QV10 QV105 QV106 QV11a -/
import Derived.Test.YtcjffhadclngmaaGreatZC16
namespace Go.Proofs.YtcjffhadclngmaaGreat
open Go
theorem W5 {F:Fld} (hF:F.Keeps) {b:Q} (hb:F.ok b):∀ {l:List Q},okL F l→okL F (divL F b l).1
 | [],h=>h
 | x :: l,h=>by
  intro q hq
  simp only [divL,List.mem_cons] at hq
  rcases hq with rfl|hq
  ·unfold dvS
   split
   ·exact h _ (by simp)
   ·exact hF.over _ _ (h _ (by simp)) hb
  ·exact W5 hF hb (fun q hq=>h q (by simp [hq])) q hq
theorem Hy {F:Fld} {l m:List Q} {c:Nat} : (Gz F l m c).1.length=l.length:=by
 unfold Gz
 split
 ·split
  ·rfl
  ·exact Nc
 ·rfl
theorem Nq {F:Fld} (hF:F.Keeps) {l m:List Q} {c:Nat} (h:okL F l) (h':okL F m):okL F (Gz F l m c).1:=by
 unfold Gz
 split
 ·rename_i b hb
  split
  ·exact h
  ·exact Wn hF (h b (Bj hb)) h h'
 ·exact h
section
variable (S:List Ent) (tk:List Nat) (k iq eq:Nat)
set_option maxHeartbeats 8000000 in
set_option maxRecDepth 100000 in
theorem Ad3 (I:TI) (t:Tb) (cc:Cap) (i c:Nat) (hT0:Bi S iq eq I t cc) (hi:i<t.rows.length) (hc:c<t.cost.length) :
  ∃ r,cL Tryz.prog 109 [.ref I.it I.et 0,.int i,.int c] S tk k=some r∧Nb S tk iq eq I (Hk qF t i c) cc (.tup []) r:=by
 obtain ⟨Φ,hΦ⟩:∃ Φ,Φ=Nb S tk iq eq I (Hk qF t i c) cc (.tup []):=⟨_,rfl⟩
 rw [← hΦ]
 obtain ⟨row,hrow⟩:=A6 hi
 obtain ⟨pi,hpi⟩:=A6 (show i<I.ids.length by rw [hT0.nids]; exact hi)
 have hrl:=hT0.rowW row (Bj hrow)
 have hro:=hT0.okr row (Bj hrow)
 obtain ⟨b,hb⟩:=A6 (show c<row.length by omega)
 have ob:qF.ok b:=hro b (Bj hb)
 have hn0:t.rows≠[]:=fun h=>by rw [h] at hi; simp at hi
 have hm0:0<t.rows.length:=by omega
 have htop:=hT0.top
 rw [Dj hm0,Dj hm0] at htop
 have hrowsE:=hT0.rowsE hn0
 have hix:nth (List.drop i (I.ids.map (hdr t.cost.length 2))) 0=some (.sref pi.1 pi.2 0 t.cost.length 2):=Ev (by rw [Az] at hpi ⊢; rw [List.getElem?_map,hpi]; rfl)
 have hbt:=Bu (ce:=ceQ) Ba hb
 have hre:=hT0.rowE i pi row hpi hrow
 refine Bv Tryz.func109 rfl rfl (by decide +kernel) Tryz.ntmps109 rfl ?_; rw [Bs]
 simp (maxSteps:=1000000) +contextual (disch:=first|with_reducible assumption|exact ⟨rfl⟩|exact ⟨rfl,rfl⟩|exact ⟨rfl,rfl,rfl⟩|(refine _root_.id ?_; kernel_rfl)|omega) only [evs,Ad,nth,put,putT,getT,Ai,Aj,Ab,aUn,outA,resA,mapO,Aq,Ar,w1,w2,w3,bots,cond_true,cond_false,if_true,if_false,ite_true,ite_false,reduceIte,reduceCtorEq,implies_true,Nat.reduceAdd,Nat.reduceSub,AV.int,AV.bool,AV.str,Nat.reduceBEq,Nat.reduceEqDiff,Nat.reduceMul,Nat.reduceLT,Nat.reduceLeDiff,Int.reduceNeg,BEq.rfl,beq_self_eq_true,tabl,cellsOf,fldA,ldA,stA,Bd,Bc,A2,A1,Ae,Af,Ac,List.take_left,List.take_length,Ao,Am,over,Ag,Value.oneCell',idxA,nilA,Aa,Ap,Ah,pure1,pure2,reps,chkA,tys,Tryz.results109,evt,Av,Au,Al,w2,w1,htop,hrowsE,hix,hbt,hre,hi,hc,Nat.mul_one,intA,Ba,Bq,ovQ]
 have hW:=hT0.bigW
 have hM:=hT0.bigM
 have hlow:=hT0.low
 have hpl:=hlow.row pi (Bj hpi)
 have hpm:=hT0.ap.row pi (Bj hpi)
 have hps:=Yv hrow
 have eT:({ t with rows:=t.rows,fl:=t.fl } : Tb)=t:=rfl
 refine Hs (P:=Tryz.prog) (fun x st=>st.T.length=89∧(divL qF b row=(x.2.2.1++(divL qF b x.2.2.2.1).1,Bool.or x.2.2.2.2 (divL qF b x.2.2.2.1).2))∧(x.2.2.1.length+x.2.2.2.1.length=t.cost.length)∧(Bi x.1 iq eq I { t with rows:=put t.rows i (x.2.2.1++x.2.2.2.1),fl:=Bool.or t.fl x.2.2.2.2 } cc)∧(Ak x.1 S.length k=some (ceQ b))∧(x.1.length=S.length+1)∧(∀ j,j<S.length→OutQ I iq j→nth x.1 j=nth S j)∧(okL qF x.2.2.2.1)∧getT st.T 0=.ref I.it I.et 0∧getT st.T 1=.int (i:Nat)∧getT st.T 2=.int (c:Nat)∧getT st.T 6=.sref pi.1 pi.2 0 t.cost.length 2∧getT st.T 7=.ref S.length k 0∧getT st.T 23=.int (t.cost.length:Nat)∧getT st.T 24=.int (x.2.2.1.length:Nat)∧st.S=x.1∧st.tk=tk∧st.n=x.2.1) (fun x=>x.2.2.2.1.length) ((S++[⟨k,ceQ b⟩]),(k+1),([]:List Q),row,false) ?_ ?_
 case refine_2=>exact ⟨rfl,by simp,by simpa using hrl,by simp only [List.nil_append,hps,Bool.or_false]; exact hT0.app _,Be rfl,by simp,fun j hj _=>Da hj,hro,rfl,rfl,rfl,rfl,rfl,rfl,rfl,rfl,rfl,rfl⟩
 rintro ⟨SS,n1,p,u,fp⟩ ⟨T,S',tk',n'⟩ ⟨hl,hR,hpu,hT,hbS,hLn,hfr,ou,e0,e1,e2,e6,e7,e23,e24,eS,eT,eN⟩ IH
 simp only at hR hpu hT hbS hLn hfr ou e0 e1 e2 e6 e7 e23 e24 eS eT eN
 subst eS eT eN
 obtain ⟨g,hg,hT⟩:=Bp hl
 rw [hg] at e0 e1 e2 e6 e7 e23 e24
 subst hT
 clear hg hl
 by_cases hlt2:p.length<t.cost.length
 ·have c1:decide ((p.length:Int)<(t.cost.length:Int))=true:=by simpa using hlt2
  obtain ⟨a0,u,rfl⟩:∃ a0 u',u=a0 :: u':=by
   cases u with
   | nil=>simp at hpu; omega
   | cons x u=>exact ⟨x,u,rfl⟩
  have oa0:=ou a0 (by simp)
  have ha0:=Bu (ce:=ceQ) Ba (H9 (p:=p) (u:=u) (x:=a0))
  have hrn:nth (put t.rows i (p++a0 :: u)) i=some (p++a0 :: u):=E9 hi
  have he:=hT.rowE i pi _ hpi hrn
  have ht1:=hT.top
  have hs:=Ud S' tk' n' iq eq (Bool.or t.fl fp) a0 oa0 hT.fa
  have hmu:u.length<(a0 :: u).length:=by simp
  have hw:IntKind.i64.wrap ((p.length:Int)+1)=(((p++[a0]).length:Nat):Int):=by rw [A0 (by unfold i64; omega)]; simp
  by_cases hz:sgn a0=0
  ·have c2:(sgn a0 != 0)=false:=by simpa using hz
   have hst:dvS qF b a0=(a0,false):=by unfold dvS; rw [if_pos hz]
   simp (maxSteps:=1000000) +contextual (disch:=first|with_reducible assumption|exact ⟨rfl⟩|exact ⟨rfl,rfl⟩|exact ⟨rfl,rfl,rfl⟩|(refine _root_.id ?_; kernel_rfl)|omega) only [evs,Ad,nth,put,putT,getT,Ai,Aj,Ab,aUn,outA,resA,mapO,Aq,Ar,w1,w2,w3,bots,cond_true,cond_false,if_true,if_false,ite_true,ite_false,reduceIte,reduceCtorEq,implies_true,Nat.reduceAdd,Nat.reduceSub,AV.int,AV.bool,AV.str,Nat.reduceBEq,Nat.reduceEqDiff,Nat.reduceMul,Nat.reduceLT,Nat.reduceLeDiff,Int.reduceNeg,BEq.rfl,beq_self_eq_true,tabl,cellsOf,fldA,ldA,stA,Bd,Bc,A2,A1,Ae,Af,Ac,List.take_left,List.take_length,Ao,Am,over,Ag,Value.oneCell',idxA,nilA,Aa,Ap,Ah,pure1,pure2,reps,chkA,tys,Tryz.results109,evt,Av,Au,Al,e0,e1,e2,e6,e7,e23,e24,c1,c2,hw,ht1,he,ha0,hlt2,hs,Dx,xfs,puQ,tkQ]
   exact IH (S',n'+1,p++[a0],u,fp) _ (by first|omega|(simp only; omega)) ⟨rfl,by rw [hR]; simp only [divL,hst,List.append_assoc,List.cons_append,List.nil_append,Bool.false_or],by show (p++[a0]).length+u.length=t.cost.length; simp only [List.length_append,List.length_cons,List.length_nil] at hpu ⊢; omega,by simpa using hT,hbS,hLn,hfr,fun q hq=>ou q (by simp [hq]),by and_intros <;> first|rfl|simp only [getT,List.map_append]⟩
  ·have c2:(sgn a0 != 0)=true:=by simpa using hz
   obtain ⟨y,hy⟩:∃ y,y=qF.over a0 b:=⟨_,rfl⟩
   have oy:qF.ok y.1:=by rw [hy]; exact B7.over _ _ oa0 ob
   have hst:dvS qF b a0=y:=by unfold dvS; rw [if_neg hz,hy]
   have hwy:IntKind.i64.wrap ((p.length:Int)+1)=(((p++[y.1]).length:Nat):Int):=by rw [A0 (by unfold i64; omega)]; simp
   have hm1:=Af2 S' tk' (n'+1) iq eq (Bool.or t.fl fp) a0 b oa0 ob hT.fa
   have hg1:=D1 (c:=y.2) hT.fa
   rw [← hy] at hm1
   obtain ⟨S2,hS2⟩:∃ S2,S2=flS S' iq eq y.2:=⟨_,rfl⟩
   rw [← hS2] at hm1 hg1
   have hf2:FAq S2 iq eq (Bool.or (Bool.or t.fl fp) y.2):=by rw [hS2]; exact hT.fa.fS
   have hl2:S2.length=S'.length:=by rw [hS2,Bo]
   have hn2:∀ j,j≠iq→nth S2 j=nth S' j:=fun j hj=>by rw [hS2,Bg hj]
   have hn2S:nth S2 S.length=nth S' S.length:=by rw [hS2]; exact Bg (by have:=hlow.iq; omega)
   have he2:Ak S2 pi.1 pi.2=some (flat ceQ (p++a0 :: u)):=by rw [Ay (hn2 _ hpm.2.2.2.2)]; exact he
   have ho:=De (ce:=ceQ) Ba (l:=p++a0 :: u) (k:=p.length) (q':=y.1) (by simp)
   rw [Jv] at ho
   have htk:∀ x,List.take S'.length (put S2 pi.1 x)=put S2 pi.1 x:=fun x=>List.take_of_length_le (by simp [A7,hl2])
   simp (maxSteps:=1000000) +contextual (disch:=first|with_reducible assumption|exact ⟨rfl⟩|exact ⟨rfl,rfl⟩|exact ⟨rfl,rfl,rfl⟩|(refine _root_.id ?_; kernel_rfl)|omega) only [evs,Ad,nth,put,putT,getT,Ai,Aj,Ab,aUn,outA,resA,mapO,Aq,Ar,w1,w2,w3,bots,cond_true,cond_false,if_true,if_false,ite_true,ite_false,reduceIte,reduceCtorEq,implies_true,Nat.reduceAdd,Nat.reduceSub,AV.int,AV.bool,AV.str,Nat.reduceBEq,Nat.reduceEqDiff,Nat.reduceMul,Nat.reduceLT,Nat.reduceLeDiff,Int.reduceNeg,BEq.rfl,beq_self_eq_true,tabl,cellsOf,fldA,ldA,stA,Bd,Bc,A2,A1,Ae,Af,Ac,List.take_left,List.take_length,Ao,Am,over,Ag,Value.oneCell',idxA,nilA,Aa,Ap,Ah,pure1,pure2,reps,chkA,tys,Tryz.results109,evt,Av,Au,Al,e0,e1,e2,e6,e7,e23,e24,c1,c2,hwy,htk,ht1,he,ha0,hbS,hlt2,hs,hm1,hg1,he2,ho,Dx,xfs,puQ,Ba,Bq,tkQ]
   have hfin:Bool.or t.fl (Bool.or fp y.2)=Bool.or (Bool.or t.fl fp) y.2:=(Bool.or_assoc _ _ _).symm
   have hT3:=hT.row (S':=put S2 pi.1 ⟨pi.2,flat ceQ (p++y.1 :: u)⟩) (r':=p++y.1 :: u) (fl':=Bool.or (Bool.or t.fl fp) y.2) hpi hrn (by simp only [List.length_append,List.length_cons] at hpu ⊢; exact hpu) (fun q hq=>by
    rcases List.mem_append.1 hq with h|h
    ·exact hT.okr _ (Bj hrn) q (by simp [h])
    ·rcases List.mem_cons.1 h with rfl|h
     ·exact oy
     ·exact ou q (by simp [h])) (fun j h1 h2=>by rw [Aw (Ne.symm h1),hn2 j h2]) (A4 (B1 he2)) (hf2.put hpm.2.2.2.2)
   simp only [Rm] at hT3
   exact IH (put S2 pi.1 ⟨pi.2,flat ceQ (p++y.1 :: u)⟩,n'+1+Rh b,p++[y.1],u,Bool.or fp y.2) _ (by first|omega|(simp only; omega)) ⟨rfl,by rw [hR]; simp only [divL,hst,List.append_assoc,List.cons_append,List.nil_append,Bool.or_assoc],by show (p++[y.1]).length+u.length=t.cost.length; simp only [List.length_append,List.length_cons,List.length_nil] at hpu ⊢; omega,by simp only [List.append_assoc,List.cons_append,List.nil_append,hfin]; exact hT3,by rw [Bf (by first|omega|(dsimp only; omega)),Ay hn2S]; exact hbS,by rw [A7,hl2]; exact hLn,fun j h1 h2=>by rw [Aw (Ne.symm (h2.2.2.2 pi (Bj hpi))),hn2 j h2.1]; exact hfr j h1 h2,fun q hq=>ou q (by simp [hq]),by and_intros <;> first|rfl|simp only [getT,List.map_append]⟩
 ·have c1:decide ((p.length:Int)<(t.cost.length:Int))=false:=by simpa using hlt2
  have hu0:u=[]:=List.length_eq_zero_iff.1 (by omega)
  subst hu0
  simp only [divL] at hR
  simp only [List.append_nil,List.length_nil,Nat.add_zero,Bool.or_false] at hR hpu hT
  have hpiv:Hk qF t i c={ t with rows:=(D6 qF p c i 0 (put t.rows i p)).1,cost:=(Gz qF t.cost p c).1,basis:=put t.basis i c,fl:=Bool.or (Bool.or (Bool.or t.fl fp) (D6 qF p c i 0 (put t.rows i p)).2) (Gz qF t.cost p c).2 }:=by
   unfold Hk Uf
   rw [Db hrow,Db hb,hR]
  have op:okL qF p:=by have:=W5 B7 ob hro; rw [hR] at this; exact this
  have htopS:=hT.top
  simp only [Bm] at htopS
  rw [Dj hm0,Dj hm0] at htopS
  simp (maxSteps:=1000000) +contextual (disch:=first|with_reducible assumption|exact ⟨rfl⟩|exact ⟨rfl,rfl⟩|exact ⟨rfl,rfl,rfl⟩|(refine _root_.id ?_; kernel_rfl)|omega) only [evs,Ad,nth,put,putT,getT,Ai,Aj,Ab,aUn,outA,resA,mapO,Aq,Ar,w1,w2,w3,bots,cond_true,cond_false,if_true,if_false,ite_true,ite_false,reduceIte,reduceCtorEq,implies_true,Nat.reduceAdd,Nat.reduceSub,AV.int,AV.bool,AV.str,Nat.reduceBEq,Nat.reduceEqDiff,Nat.reduceMul,Nat.reduceLT,Nat.reduceLeDiff,Int.reduceNeg,BEq.rfl,beq_self_eq_true,tabl,cellsOf,fldA,ldA,stA,Bd,Bc,A2,A1,Ae,Af,Ac,List.take_left,List.take_length,Ao,Am,over,Ag,Value.oneCell',idxA,nilA,Aa,Ap,Ah,pure1,pure2,reps,chkA,tys,Tryz.results109,evt,Av,Au,Al,e0,e1,e2,e6,e7,e23,e24,c1,htopS]
  refine Hs (P:=Tryz.prog) (fun x st=>st.T.length=89∧(D6 qF p c i 0 (put t.rows i p)=(x.2.2.1++(D6 qF p c i x.2.2.1.length x.2.2.2.1).1,Bool.or x.2.2.2.2 (D6 qF p c i x.2.2.1.length x.2.2.2.1).2))∧(x.2.2.1.length+x.2.2.2.1.length=t.rows.length)∧(Bi x.1 iq eq I { t with rows:=x.2.2.1++x.2.2.2.1,fl:=Bool.or (Bool.or t.fl fp) x.2.2.2.2 } cc)∧(nth (x.2.2.1++x.2.2.2.1) i=some p)∧(x.1.length=S.length+1)∧(∀ j,j<S.length→OutQ I iq j→nth x.1 j=nth S j)∧getT st.T 0=.ref I.it I.et 0∧getT st.T 1=.int (i:Nat)∧getT st.T 2=.int (c:Nat)∧getT st.T 6=.sref pi.1 pi.2 0 t.cost.length 2∧getT st.T 58=.sref I.ir I.er 0 t.rows.length 1∧getT st.T 59=.int (t.rows.length:Nat)∧getT st.T 60=.int (x.2.2.1.length:Nat)∧st.S=x.1∧st.tk=tk'∧st.n=x.2.1) (fun x=>x.2.2.2.1.length) (S',n',([]:List (List Q)),(put t.rows i p),false) ?_ ?_
  case refine_2=>exact ⟨rfl,by simp,by simp [Bm],by simp only [List.nil_append,Bool.or_false]; exact hT,by simp only [List.nil_append]; exact E9 hi,hLn,hfr,rfl,rfl,rfl,rfl,rfl,rfl,rfl,rfl,rfl,rfl⟩
  rintro ⟨SS,n1,P,U,fq⟩ ⟨T,S',tk',n'⟩ ⟨hl,hR2,hPU,hT2,hri,hLn2,hfr2,e0,e1,e2,e6,e58,e59,e60,eS,eT,eN⟩ IH
  simp only at hR2 hPU hT2 hri hLn2 hfr2 e0 e1 e2 e6 e58 e59 e60 eS eT eN
  subst eS eT eN
  obtain ⟨g,hg,hT⟩:=Bp hl
  rw [hg] at e0 e1 e2 e6 e58 e59 e60
  subst hT
  clear hg hl
  by_cases hk2:P.length<t.rows.length
  ·have c2:decide ((P.length:Int)<(t.rows.length:Int))=true:=by simpa using hk2
   obtain ⟨r0,U,rfl⟩:∃ r0 U',U=r0 :: U':=by
    cases U with
    | nil=>simp at hPU; omega
    | cons x u=>exact ⟨x,u,rfl⟩
   have hmu:U.length<(r0 :: U).length:=by simp
   obtain ⟨pk,hpk⟩:=A6 (show P.length<I.ids.length by rw [hT0.nids]; exact hk2)
   have hixk:nth (List.drop P.length (I.ids.map (hdr t.cost.length 2))) 0=some (.sref pk.1 pk.2 0 t.cost.length 2):=Ev (by rw [Az] at hpk ⊢; rw [List.getElem?_map,hpk]; rfl)
   have hrk:nth (P++r0 :: U) P.length=some r0:=H9
   have hne2:P++r0 :: U≠[]:=by simp
   have hrE2:=hT2.rowsE hne2
   have hw2:∀ z:List Q,IntKind.i64.wrap ((P.length:Int)+1)=(((P++[z]).length:Nat):Int):=fun z=>by rw [A0 (by unfold i64; omega)]; simp
   by_cases hki:P.length=i
   ·have c3:((P.length:Int) != (i:Int))=false:=by rw [hki]; simp
    have hlk:X7 qF p c i P.length r0=(r0,false):=by unfold X7; rw [if_pos hki]
    have hw3:=hw2 r0
    simp (maxSteps:=1000000) +contextual (disch:=first|with_reducible assumption|exact ⟨rfl⟩|exact ⟨rfl,rfl⟩|exact ⟨rfl,rfl,rfl⟩|(refine _root_.id ?_; kernel_rfl)|omega) only [evs,Ad,nth,put,putT,getT,Ai,Aj,Ab,aUn,outA,resA,mapO,Aq,Ar,w1,w2,w3,bots,cond_true,cond_false,if_true,if_false,ite_true,ite_false,reduceIte,reduceCtorEq,implies_true,Nat.reduceAdd,Nat.reduceSub,AV.int,AV.bool,AV.str,Nat.reduceBEq,Nat.reduceEqDiff,Nat.reduceMul,Nat.reduceLT,Nat.reduceLeDiff,Int.reduceNeg,BEq.rfl,beq_self_eq_true,tabl,cellsOf,fldA,ldA,stA,Bd,Bc,A2,A1,Ae,Af,Ac,List.take_left,List.take_length,Ao,Am,over,Ag,Value.oneCell',idxA,nilA,Aa,Ap,Ah,pure1,pure2,reps,chkA,tys,Tryz.results109,evt,Av,Au,Al,e0,e1,e2,e6,e58,e59,e60,c2,c3,hrE2,hixk,hk2,hw3,Nat.mul_one]
    exact IH (S',n',P++[r0],U,fq) _ (by first|omega|(simp only; omega)) ⟨rfl,by rw [hR2]; simp only [D6,hlk,List.append_assoc,List.cons_append,List.nil_append,Bool.false_or,List.length_append,List.length_cons,List.length_nil,Nat.zero_add],by show (P++[r0]).length+U.length=t.rows.length; simp only [List.length_append,List.length_cons,List.length_nil] at hPU ⊢; omega,by simpa using hT2,by simpa using hri,hLn2,hfr2,by and_intros <;> first|rfl|simp only [getT,List.map_append]⟩
   ·have c3:((P.length:Int) != (i:Int))=true:=by simp; omega
    have hrk1:=hT2.rowE P.length pk r0 hpk hrk
    have hri1:=hT2.rowE i pi p hpi hri
    have hrw:=hT2.rowW r0 (Bj hrk)
    have hkm:=hT0.ap.row pk (Bj hpk)
    obtain ⟨r,hcall,S3,k3,rfl,hl3,he3,hf3,hn3⟩:=Ae4 S' tk' n' iq eq _ I.it I.et pk.1 pk.2 pi.1 pi.2 t.cost.length c _ r0 p hT2.top hT2.fa hrk1 hri1 hrw hpu hc hW (hT2.okr r0 (Bj hrk)) op (hT0.ap.rows _ _ pk pi hpk hpi hki) hkm.1 hkm.2.2.2.2 hT0.ap.qt hpm.2.2.2.2.symm
    have hlk:X7 qF p c i P.length r0=Gz qF r0 p c:=by unfold X7; rw [if_neg hki]
    obtain ⟨z,hz⟩:∃ z,z=Gz qF r0 p c:=⟨_,rfl⟩
    rw [← hz] at he3 hf3 hlk
    have hw3:=hw2 z.1
    have htk:List.take S'.length S3=S3:=List.take_of_length_le (by omega)
    simp (maxSteps:=1000000) +contextual (disch:=first|with_reducible assumption|exact ⟨rfl⟩|exact ⟨rfl,rfl⟩|exact ⟨rfl,rfl,rfl⟩|(refine _root_.id ?_; kernel_rfl)|omega) only [evs,Ad,nth,put,putT,getT,Ai,Aj,Ab,aUn,outA,resA,mapO,Aq,Ar,w1,w2,w3,bots,cond_true,cond_false,if_true,if_false,ite_true,ite_false,reduceIte,reduceCtorEq,implies_true,Nat.reduceAdd,Nat.reduceSub,AV.int,AV.bool,AV.str,Nat.reduceBEq,Nat.reduceEqDiff,Nat.reduceMul,Nat.reduceLT,Nat.reduceLeDiff,Int.reduceNeg,BEq.rfl,beq_self_eq_true,tabl,cellsOf,fldA,ldA,stA,Bd,Bc,A2,A1,Ae,Af,Ac,List.take_left,List.take_length,Ao,Am,over,Ag,Value.oneCell',idxA,nilA,Aa,Ap,Ah,pure1,pure2,reps,chkA,tys,Tryz.results109,evt,Av,Au,Al,e0,e1,e2,e6,e58,e59,e60,c2,c3,hrE2,hixk,hk2,hw3,hcall,htk,Nat.mul_one]
    have hT3:=hT2.row (S':=S3) (r':=z.1) (fl':=Bool.or (Bool.or (Bool.or t.fl fp) fq) z.2) hpk hrk (by rw [hz,Hy]; exact hrw) (by rw [hz]; exact Nq B7 (hT2.okr r0 (Bj hrk)) op) hn3 he3 hf3
    simp only [Jv] at hT3
    exact IH (S3,k3,P++[z.1],U,Bool.or fq z.2) _ (by first|omega|(simp only; omega)) ⟨rfl,by rw [hR2]; simp only [D6,hlk,List.append_assoc,List.cons_append,List.nil_append,Bool.or_assoc,List.length_append,List.length_cons,List.length_nil,Nat.zero_add],by show (P++[z.1]).length+U.length=t.rows.length; simp only [List.length_append,List.length_cons,List.length_nil] at hPU ⊢; omega,by simpa [Bool.or_assoc] using hT3,by rw [List.append_assoc,List.singleton_append,← Jv (x:=r0),Aba (by simp),if_neg (fun h=>hki h.symm)]; exact hri,by rw [hl3]; exact hLn2,fun j h1 h2=>by rw [hn3 j (h2.2.2.2 pk (Bj hpk)) h2.1]; exact hfr2 j h1 h2,by and_intros <;> first|rfl|simp only [getT,List.map_append]⟩
  ·have c2:decide ((P.length:Int)<(t.rows.length:Int))=false:=by simpa using hk2
   have hU0:U=[]:=List.length_eq_zero_iff.1 (by omega)
   subst hU0
   simp only [D6] at hR2
   simp only [List.append_nil,List.length_nil,Nat.add_zero,Bool.or_false] at hR2 hPU hT2 hri
   have hPn:P≠[]:=fun h=>by rw [h] at hPU; simp at hPU; omega
   have htop2:=hT2.top
   simp only [hPU] at htop2
   rw [Dj hm0,Dj hm0] at htop2
   have hri1:=hT2.rowE i pi p hpi hri
   obtain ⟨r,hcall,S3,k3,rfl,hl3,he3,hf3,hn3⟩:=Ae4 S' tk' n' iq eq _ I.it I.et I.ic I.ec pi.1 pi.2 t.cost.length c _ t.cost p hT2.top hT2.fa hT2.costE hri1 rfl hpu hc hW hT0.okc op hpm.2.2.1.symm hT0.ap.tc.symm hT0.ap.qc.symm hT0.ap.qt hpm.2.2.2.2.symm
   have hT3:=hT2.setCost (S':=S3) (k':=(Gz qF t.cost p c).1) Hy (Nq B7 hT0.okc op) hn3 he3 hf3
   have htop3:=hT3.top
   simp only [hPU] at htop3
   rw [Dj hm0,Dj hm0] at htop3
   have hbE:=hT3.basisE hPn
   obtain ⟨b0,hb0⟩:=A6 (show i<t.basis.length by rw [hT0.nb]; exact hi)
   have hov:over (t.basis.map intA) i [.prim (.int .i64 (c:Int))]=some ((put t.basis i c).map intA):=by
    rw [← Q2]
    exact Wf (w:=intA b0) (by rw [Az] at hb0 ⊢; rw [List.getElem?_map,hb0]; rfl)
   have hT4:=hT3.setBasis (i:=i) (b:=c) hPn (by simp only [Hy]; exact hc)
   simp (maxSteps:=1000000) +contextual (disch:=first|with_reducible assumption|exact ⟨rfl⟩|exact ⟨rfl,rfl⟩|exact ⟨rfl,rfl,rfl⟩|(refine _root_.id ?_; kernel_rfl)|omega) only [evs,Ad,nth,put,putT,getT,Ai,Aj,Ab,aUn,outA,resA,mapO,Aq,Ar,w1,w2,w3,bots,cond_true,cond_false,if_true,if_false,ite_true,ite_false,reduceIte,reduceCtorEq,implies_true,Nat.reduceAdd,Nat.reduceSub,AV.int,AV.bool,AV.str,Nat.reduceBEq,Nat.reduceEqDiff,Nat.reduceMul,Nat.reduceLT,Nat.reduceLeDiff,Int.reduceNeg,BEq.rfl,beq_self_eq_true,tabl,cellsOf,fldA,ldA,stA,Bd,Bc,A2,A1,Ae,Af,Ac,List.take_left,List.take_length,Ao,Am,over,Ag,Value.oneCell',idxA,nilA,Aa,Ap,Ah,pure1,pure2,reps,chkA,tys,Tryz.results109,evt,Av,Au,Al,e0,e1,e2,e6,e58,e59,e60,c2,htop2,hcall,htop3,hbE,hov,hi,Nat.mul_one]
   rw [hΦ,hpiv,hR2]
   have hlow4:LowQ I iq S.length { t with rows:=P,cost:=(Gz qF t.cost p c).1,basis:=put t.basis i c,fl:=Bool.or (Bool.or (Bool.or t.fl fp) fq) (Gz qF t.cost p c).2 }:=hlow.of fun _=>hn0
   exact ⟨_,_,rfl,by rw [List.length_take,A7,hl3]; omega,hT4.take hlow4,fun j hj=>by
    by_cases hjl:j<S.length
    ·rw [Ew hjl,Aw (Ne.symm hj.2.2.1),hn3 j hj.2.1 hj.1]; exact hfr2 j hjl hj
    ·rw [Az,Az,List.getElem?_eq_none (by rw [List.length_take]; omega),List.getElem?_eq_none (by omega)]⟩
end
end Go.Proofs.YtcjffhadclngmaaGreat
namespace Go.Proofs.YtcjffhadclngmaaGreat
open Go
def Ll:Option (Nat × Q)→AV
 | none=>.int (-1)
 | some (i,_)=>.int (i:Nat)
theorem J1 {F:Fld} {basis:List Nat} {c W m:Nat} : ∀ {l:List (List Q)} {k:Nat} {b:Option (Nat × Q)} {i:Nat} {q:Q} {f:Bool},k+l.length≤m→(∀ i q,b=some (i,q)→i<m)→Gh F basis c W k l b=(some (i,q),f)→i<m
 | [],k,b,i,q,f,_,hb,h=>by
  simp only [Gh,Prod.mk.injEq] at h
  exact hb i q h.1
 | r :: l,k,b,i,q,f,hl,hb,h=>by
  simp only [List.length_cons] at hl
  unfold Gh at h
  split at h
  ·exact J1 (by omega) hb h
  ·split at h
   ·simp only [Prod.mk.injEq] at h
    exact J1 (k:=k+1) (l:=l) (by omega) (fun i q e=>by simp only [Option.some.injEq,Prod.mk.injEq] at e; omega) (Prod.ext h.1 rfl)
   ·rename_i bi least
    simp only [Prod.mk.injEq] at h
    refine J1 (k:=k+1) (l:=l) (by omega) (fun i' q' e=>?_) (Prod.ext h.1 rfl)
    split at e
    ·simp only [Option.some.injEq,Prod.mk.injEq] at e
     exact hb i' least (by rw [e.1])
    ·simp only [Option.some.injEq,Prod.mk.injEq] at e; omega
theorem Z3 {F:Fld} {t:Tb} {c i:Nat} {q:Q} {f:Bool} (h:Et F t c=(some (i,q),f)):i<t.rows.length :=
 J1 (k:=0) (by simp) (fun _ _ e=>by cases e) h
section
variable (S:List Ent) (tk:List Nat) (k iq eq:Nat)
set_option maxHeartbeats 8000000 in
set_option maxRecDepth 100000 in
theorem Acj (I:TI) (t:Tb) (cc:Cap) (c:Nat) (hT0:Bi S iq eq I t cc) (hc:c<t.cost.length) :
  ∃ r,cL Tryz.prog 108 [.ref I.it I.et 0,.int c] S tk k=some r∧Nb S tk iq eq I { t with fl:=Bool.or t.fl (Et qF t c).2 } cc (Ll (Et qF t c).1) r:=by
 obtain ⟨Φ,hΦ⟩:∃ Φ,Φ=Nb S tk iq eq I { t with fl:=Bool.or t.fl (Et qF t c).2 } cc (Ll (Et qF t c).1):=⟨_,rfl⟩
 rw [← hΦ]
 have htop:=hT0.top
 by_cases hr0:t.rows=[]
 ·have hl0:t.rows.length=0:=by rw [hr0]; rfl
  rw [hl0] at htop
  simp only [hd0] at htop
  have hlv:Et qF t c=(none,false):=by unfold Et; rw [hr0]; rfl
  refine Bv Tryz.func108 rfl rfl (by decide +kernel) Tryz.ntmps108 rfl ?_; rw [Bs]
  have d0:decide ((0:Int)<((0:Nat):Int))=false:=rfl
  simp (maxSteps:=1000000) +contextual (disch:=first|with_reducible assumption|exact ⟨rfl⟩|exact ⟨rfl,rfl⟩|exact ⟨rfl,rfl,rfl⟩|(refine _root_.id ?_; kernel_rfl)|omega) only [evs,Ad,nth,put,putT,getT,Ai,Aj,Ab,aUn,outA,resA,mapO,Aq,Ar,w1,w2,w3,bots,cond_true,cond_false,if_true,if_false,ite_true,ite_false,reduceIte,reduceCtorEq,implies_true,Nat.reduceAdd,Nat.reduceSub,AV.int,AV.bool,AV.str,Nat.reduceBEq,Nat.reduceEqDiff,Nat.reduceMul,Nat.reduceLT,Nat.reduceLeDiff,Int.reduceNeg,BEq.rfl,beq_self_eq_true,tabl,cellsOf,fldA,ldA,stA,Bd,Bc,A2,A1,Ae,Af,Ac,List.take_left,List.take_length,Ao,Am,over,Ag,Value.oneCell',idxA,nilA,Aa,Ap,Ah,pure1,pure2,reps,chkA,tys,Tryz.results108,evt,Av,Au,Al,w2,w1,htop]
  refine Hs (P:=Tryz.prog) (fun x st=>st.T.length=93∧getT st.T 5=.int (-1)∧getT st.T 15=.int ((0:Nat):Int)∧getT st.T 16=.int 0∧st.S=S++[⟨k,[.int 0,.int 0]⟩]∧st.tk=tk∧st.n=x) (fun x=>0) (k+1) ?_ ?_
  case refine_2=>exact ⟨rfl,rfl,rfl,rfl,rfl,rfl,rfl⟩
  rintro n1 ⟨T,S',tk',n'⟩ ⟨hl,e5,e15,e16,eS,eT,eN⟩ IH
  subst eS eT eN
  obtain ⟨g,hg,hT⟩:=Bp hl
  rw [hg] at e5 e15 e16
  subst hT
  clear hg hl
  simp (maxSteps:=1000000) +contextual (disch:=first|with_reducible assumption|exact ⟨rfl⟩|exact ⟨rfl,rfl⟩|exact ⟨rfl,rfl,rfl⟩|(refine _root_.id ?_; kernel_rfl)|omega) only [evs,Ad,nth,put,putT,getT,Ai,Aj,Ab,aUn,outA,resA,mapO,Aq,Ar,w1,w2,w3,bots,cond_true,cond_false,if_true,if_false,ite_true,ite_false,reduceIte,reduceCtorEq,implies_true,Nat.reduceAdd,Nat.reduceSub,AV.int,AV.bool,AV.str,Nat.reduceBEq,Nat.reduceEqDiff,Nat.reduceMul,Nat.reduceLT,Nat.reduceLeDiff,Int.reduceNeg,BEq.rfl,beq_self_eq_true,tabl,cellsOf,fldA,ldA,stA,Bd,Bc,A2,A1,Ae,Af,Ac,List.take_left,List.take_length,Ao,Am,over,Ag,Value.oneCell',idxA,nilA,Aa,Ap,Ah,pure1,pure2,reps,chkA,tys,Tryz.results108,evt,Av,Au,Al,e5,e15,e16,d0,Ja]
  rw [hΦ,hlv]
  exact ⟨S,_,rfl,rfl,by simp only [Bool.or_false]; exact hT0,fun j _=>rfl⟩
 have hm0:0<t.rows.length:=List.length_pos_iff.2 hr0
 rw [Dj hm0,Dj hm0] at htop
 have hrowsE:=hT0.rowsE hr0
 have hW:=hT0.bigW
 have hM:=hT0.bigM
 have hlow:=hT0.low
 have hreal:=hT0.real
 refine Bv Tryz.func108 rfl rfl (by decide +kernel) Tryz.ntmps108 rfl ?_; rw [Bs]
 simp (maxSteps:=1000000) +contextual (disch:=first|with_reducible assumption|exact ⟨rfl⟩|exact ⟨rfl,rfl⟩|exact ⟨rfl,rfl,rfl⟩|(refine _root_.id ?_; kernel_rfl)|omega) only [evs,Ad,nth,put,putT,getT,Ai,Aj,Ab,aUn,outA,resA,mapO,Aq,Ar,w1,w2,w3,bots,cond_true,cond_false,if_true,if_false,ite_true,ite_false,reduceIte,reduceCtorEq,implies_true,Nat.reduceAdd,Nat.reduceSub,AV.int,AV.bool,AV.str,Nat.reduceBEq,Nat.reduceEqDiff,Nat.reduceMul,Nat.reduceLT,Nat.reduceLeDiff,Int.reduceNeg,BEq.rfl,beq_self_eq_true,tabl,cellsOf,fldA,ldA,stA,Bd,Bc,A2,A1,Ae,Af,Ac,List.take_left,List.take_length,Ao,Am,over,Ag,Value.oneCell',idxA,nilA,Aa,Ap,Ah,pure1,pure2,reps,chkA,tys,Tryz.results108,evt,Av,Au,Al,w2,w1,htop]
 refine Hs (P:=Tryz.prog) (fun x st=>st.T.length=93∧(Et qF t c=((Gh qF t.basis c t.cost.length x.2.2.1.length x.2.2.2.1 x.2.2.2.2.1).1,Bool.or x.2.2.2.2.2 (Gh qF t.basis c t.cost.length x.2.2.1.length x.2.2.2.1 x.2.2.2.2.1).2))∧(t.rows=x.2.2.1++x.2.2.2.1)∧(Bi x.1 iq eq I { t with fl:=Bool.or t.fl x.2.2.2.2.2 } cc)∧(∃ lc,Ak x.1 S.length k=some lc∧lc.length=2∧∀ bi q,x.2.2.2.2.1=some (bi,q)→lc=ceQ q∧bi<x.2.2.1.length∧qF.ok q)∧(x.1.length=S.length+1)∧(∀ j,j<S.length→OutQ I iq j→nth x.1 j=nth S j)∧getT st.T 0=.ref I.it I.et 0∧getT st.T 1=.int (c:Nat)∧getT st.T 5=Ll x.2.2.2.2.1∧getT st.T 6=.ref S.length k 0∧getT st.T 14=.sref I.ir I.er 0 t.rows.length 1∧getT st.T 15=.int (t.rows.length:Nat)∧getT st.T 16=.int (x.2.2.1.length:Nat)∧st.S=x.1∧st.tk=tk∧st.n=x.2.1) (fun x=>x.2.2.2.1.length) ((S++[⟨k,[.int 0,.int 0]⟩]),(k+1),([]:List (List Q)),t.rows,(none:Option (Nat × Q)),false) ?_ ?_
 case refine_2=>exact ⟨rfl,by simp [Et],rfl,by simp only [Bool.or_false]; exact hT0.app _,⟨_,Be rfl,rfl,fun _ _ h=>by cases h⟩,by simp,fun j hj _=>Da hj,rfl,rfl,rfl,rfl,rfl,rfl,rfl,rfl,rfl,rfl⟩
 rintro ⟨SS,n1,P,U,bst,fq⟩ ⟨T,S',tk',n'⟩ ⟨hl,hR,hPU,hT,hls,hLn,hfr,e0,e1,e5,e6,e14,e15,e16,eS,eT,eN⟩ IH
 simp only at hR hPU hT hls hLn hfr e0 e1 e5 e6 e14 e15 e16 eS eT eN
 subst eS eT eN
 obtain ⟨g,hg,hT⟩:=Bp hl
 rw [hg] at e0 e1 e5 e6 e14 e15 e16
 subst hT
 clear hg hl
 have hml:t.rows.length=P.length+U.length:=by rw [hPU]; simp
 obtain ⟨lc,hlc,hlcl,hlb⟩:=hls
 by_cases hk2:P.length<t.rows.length
 ·have c1:decide ((P.length:Int)<(t.rows.length:Int))=true:=by simpa using hk2
  obtain ⟨r0,U,rfl⟩:∃ r0 U',U=r0 :: U':=by
   cases U with
   | nil=>simp at hml; omega
   | cons x u=>exact ⟨x,u,rfl⟩
  have hmu:U.length<(r0 :: U).length:=by simp
  obtain ⟨pk,hpk⟩:=A6 (show P.length<I.ids.length by rw [hT0.nids]; exact hk2)
  have hixk:nth (List.drop P.length (I.ids.map (hdr t.cost.length 2))) 0=some (.sref pk.1 pk.2 0 t.cost.length 2):=Ev (by rw [Az] at hpk ⊢; rw [List.getElem?_map,hpk]; rfl)
  have hrk:nth t.rows P.length=some r0:=by rw [hPU]; exact H9
  have hrw:=hT0.rowW r0 (Bj hrk)
  have hro:=hT0.okr r0 (Bj hrk)
  have hrE:=hT.rowsE hr0
  have hrk1:=hT.rowE P.length pk r0 hpk hrk
  have ht1:=hT.top
  simp only at ht1
  rw [Dj hm0,Dj hm0] at ht1
  obtain ⟨x,hx⟩:=A6 (show c<r0.length by omega)
  obtain ⟨z,hz⟩:=A6 (show t.cost.length - 1<r0.length by omega)
  have ox:=hro x (Bj hx)
  have oz:=hro z (Bj hz)
  have hxt:=Bu (ce:=ceQ) Ba hx
  have hzt:=Bu (ce:=ceQ) Ba hz
  have hs:=Ud S' tk' n' iq eq (Bool.or t.fl fq) x ox hT.fa
  have hw2:IntKind.i64.wrap ((P.length:Int)+1)=(((P++[r0]).length:Nat):Int):=by rw [A0 (by unfold i64; omega)]; simp
  have hPU2:t.rows=(P++[r0])++U:=by rw [hPU]; simp
  have hPl:(P++[r0]).length=P.length+1:=by simp
  by_cases hs0:sgn x≤0
  ·have c2:decide (sgn x≤0)=true:=by simpa using hs0
   simp (maxSteps:=1000000) +contextual (disch:=first|with_reducible assumption|exact ⟨rfl⟩|exact ⟨rfl,rfl⟩|exact ⟨rfl,rfl,rfl⟩|(refine _root_.id ?_; kernel_rfl)|omega) only [evs,Ad,nth,put,putT,getT,Ai,Aj,Ab,aUn,outA,resA,mapO,Aq,Ar,w1,w2,w3,bots,cond_true,cond_false,if_true,if_false,ite_true,ite_false,reduceIte,reduceCtorEq,implies_true,Nat.reduceAdd,Nat.reduceSub,AV.int,AV.bool,AV.str,Nat.reduceBEq,Nat.reduceEqDiff,Nat.reduceMul,Nat.reduceLT,Nat.reduceLeDiff,Int.reduceNeg,BEq.rfl,beq_self_eq_true,tabl,cellsOf,fldA,ldA,stA,Bd,Bc,A2,A1,Ae,Af,Ac,List.take_left,List.take_length,Ao,Am,over,Ag,Value.oneCell',idxA,nilA,Aa,Ap,Ah,pure1,pure2,reps,chkA,tys,Tryz.results108,evt,Av,Au,Al,e0,e1,e5,e6,e14,e15,e16,c1,c2,hw2,ht1,hrE,hixk,hrk1,hxt,hk2,hc,hs,Dx,xfs,puQ,tkQ,Nat.mul_one]
   exact IH (S',n'+1,P++[r0],U,bst,fq) _ (by first|omega|(simp only; omega)) ⟨rfl,by rw [hR,hPl]; simp only [Gh,Db hx]; rw [if_pos hs0],hPU2,hT,⟨lc,hlc,hlcl,fun bi q h=>by obtain ⟨h1,h2,h3⟩:=hlb bi q h; exact ⟨h1,by rw [hPl]; omega,h3⟩⟩,hLn,hfr,by and_intros <;> first|rfl|simp only [getT,List.map_append]⟩
  ·have c2:decide (sgn x≤0)=false:=by simpa using hs0
   obtain ⟨y,hy⟩:∃ y,y=qF.over z x:=⟨_,rfl⟩
   have oy:qF.ok y.1:=by rw [hy]; exact B7.over _ _ oz ox
   have hm1:=Af2 S' tk' (n'+1) iq eq (Bool.or t.fl fq) z x oz ox hT.fa
   have hg1:=D1 (c:=y.2) hT.fa
   rw [← hy] at hm1
   obtain ⟨S2,hS2⟩:∃ S2,S2=flS S' iq eq y.2:=⟨_,rfl⟩
   rw [← hS2] at hm1 hg1
   have hf2:FAq S2 iq eq (Bool.or (Bool.or t.fl fq) y.2):=by rw [hS2]; exact hT.fa.fS
   have hl2:S2.length=S'.length:=by rw [hS2,Bo]
   have hn2:∀ j,j≠iq→nth S2 j=nth S' j:=fun j hj=>by rw [hS2,Bg hj]
   have hn2S:nth S2 S.length=nth S' S.length:=by rw [hS2]; exact Bg (by have:=hlow.iq; omega)
   have hlc2:Ak S2 S.length k=some lc:=by rw [Ay hn2S]; exact hlc
   have hW1:IntKind.i64.wrap ((t.cost.length:Int) - 1)=((t.cost.length - 1:Nat):Int):=by rw [A0 (by unfold i64; omega)]; omega
   have hW2:t.cost.length - 1<t.cost.length:=by omega
   obtain ⟨n2,hn2e⟩:∃ n2,n2=n'+1+Rh x:=⟨_,rfl⟩
   rw [← hn2e] at hm1
   obtain ⟨E,hE⟩:∃ E:Ent,E=⟨n2,ceQ y.1⟩:=⟨_,rfl⟩
   have hqE:Ak (S2++[⟨n2,ceQ y.1⟩]) S2.length n2=some (ceQ y.1):=Ae
   have hlE:=Ax (L:=[⟨n2,ceQ y.1⟩]) hlc2
   have hovl:over lc 0 (ceQ y.1)=some (ceQ y.1):=by
    have:=Re (e:=lc) (r:=[]) (e':=ceQ y.1) (by rw [hlcl]; rfl)
    simpa using this
   have hSl:S.length<S2.length:=by omega
   have htk2:∀ v,List.take S'.length (put S2 S.length v++[⟨n2,ceQ y.1⟩])=put S2 S.length v:=fun v=>by rw [← hl2,← A7 (l:=S2) (i:=S.length) (v:=v)]; simp
   have hpa2:=fun v=>Em (L:=[⟨n2,ceQ y.1⟩]) (x:=v) hSl
   cases bst with
   | none =>
    have c3:decide ((-1:Int) ≥ 0)=false:=rfl
    simp only [Ll] at e5
    simp (maxSteps:=1000000) +contextual (disch:=first|with_reducible assumption|exact ⟨rfl⟩|exact ⟨rfl,rfl⟩|exact ⟨rfl,rfl,rfl⟩|(refine _root_.id ?_; kernel_rfl)|omega) only [evs,Ad,nth,put,putT,getT,Ai,Aj,Ab,aUn,outA,resA,mapO,Aq,Ar,w1,w2,w3,bots,cond_true,cond_false,if_true,if_false,ite_true,ite_false,reduceIte,reduceCtorEq,implies_true,Nat.reduceAdd,Nat.reduceSub,AV.int,AV.bool,AV.str,Nat.reduceBEq,Nat.reduceEqDiff,Nat.reduceMul,Nat.reduceLT,Nat.reduceLeDiff,Int.reduceNeg,BEq.rfl,beq_self_eq_true,tabl,cellsOf,fldA,ldA,stA,Bd,Bc,A2,A1,Ae,Af,Ac,List.take_left,List.take_length,Ao,Am,over,Ag,Value.oneCell',idxA,nilA,Aa,Ap,Ah,pure1,pure2,reps,chkA,tys,Tryz.results108,evt,Av,Au,Al,e0,e1,e5,e6,e14,e15,e16,c1,c2,c3,hw2,ht1,hrE,hixk,hrk1,hxt,hzt,hW1,hW2,hk2,hc,hs,hm1,hg1,hqE,hlE,hovl,hpa2,htk2,Dx,xfs,puQ,tkQ,Ba,Bq,ovQ,Nat.mul_one]
    have hT3:=hT.frame (S':=put S2 S.length ⟨k,ceQ y.1⟩) (n:=S.length) (fl':=Bool.or (Bool.or t.fl fq) y.2) (hlow.of fun h=>h) (fun j h1 h2=>by rw [Aw (by omega),hn2 j h2]) (hf2.put (fun h=>by have:=hlow.iq; omega))
    exact IH (put S2 S.length ⟨k,ceQ y.1⟩,n2+1,P++[r0],U,some (P.length,y.1),Bool.or fq y.2) _ (by first|omega|(simp only; omega)) ⟨rfl,by rw [hR,hPl]; simp only [Gh,Db hx,Db hz]; rw [if_neg hs0,← hy,← Bool.or_assoc],hPU2,by simpa only [Bool.or_assoc] using hT3,⟨_,A4 hSl,Ba _,fun bi q h=>by simp only [Option.some.injEq,Prod.mk.injEq] at h; obtain ⟨rfl,rfl⟩:=h; exact ⟨rfl,by rw [hPl]; omega,oy⟩⟩,by rw [A7,hl2]; exact hLn,fun j h1 h2=>by rw [Aw (by first|omega|(dsimp only; omega)),hn2 j h2.1]; exact hfr j h1 h2,by and_intros <;> first|rfl|simp only [getT,List.map_append]⟩
   | some bq =>
    obtain ⟨bi,least⟩:=bq
    obtain ⟨hlce,hbi,ol⟩:=hlb bi least rfl
    subst hlce
    have c3:decide ((bi:Int) ≥ 0)=true:=by simp
    simp only [Ll] at e5
    obtain ⟨d,hd⟩:∃ d,d=qF.minus y.1 least:=⟨_,rfl⟩
    have hm2:=Jk (S2++[⟨n2,ceQ y.1⟩]) tk' (n2+1) iq eq (Bool.or (Bool.or t.fl fq) y.2) y.1 least oy ol (hf2.app (L:=[⟨n2,ceQ y.1⟩]))
    have hg2:=D1 (c:=d.2) (b:=Bool.or (Bool.or t.fl fq) y.2) (hf2.app (L:=[⟨n2,ceQ y.1⟩]))
    rw [← hd] at hm2
    rw [Gg hf2] at hm2 hg2
    obtain ⟨S3,hS3⟩:∃ S3,S3=flS S2 iq eq d.2:=⟨_,rfl⟩
    rw [← hS3] at hm2 hg2
    have od:qF.ok d.1:=by rw [hd]; exact B7.minus _ _ oy ol
    have hf3:FAq S3 iq eq (Bool.or (Bool.or (Bool.or t.fl fq) y.2) d.2):=by rw [hS3]; exact hf2.fS
    have hs3:=Ud (S3++[⟨n2,ceQ y.1⟩]) tk' (n2+1+4) iq eq (Bool.or (Bool.or (Bool.or t.fl fq) y.2) d.2) d.1 od (hf3.app (L:=[⟨n2,ceQ y.1⟩]))
    have hl3:S3.length=S2.length:=by rw [hS3,Bo]
    have hn3:∀ j,j≠iq→nth S3 j=nth S2 j:=fun j hj=>by rw [hS3,Bg hj]
    have hn3S:nth S3 S.length=nth S2 S.length:=by rw [hS3]; exact Bg (by have:=hlow.iq; omega)
    have ht2:Ak (S2++[⟨n2,ceQ y.1⟩]) I.it I.et=some [.ifc 95 (.ref iq eq 0),intA t.vars,intA t.real,.sref I.ir I.er 0 t.rows.length 1,.sref I.ic I.ec 0 t.cost.length 2,.sref I.ib I.eb 0 t.rows.length 1,.frz (t.flip.map Hq) cc]:=Ax (by rw [Ay (hn2 _ hT0.ap.qt.symm)]; exact ht1)
    have ht3:Ak (S3++[⟨n2,ceQ y.1⟩]) I.it I.et=some [.ifc 95 (.ref iq eq 0),intA t.vars,intA t.real,.sref I.ir I.er 0 t.rows.length 1,.sref I.ic I.ec 0 t.cost.length 2,.sref I.ib I.eb 0 t.rows.length 1,.frz (t.flip.map Hq) cc]:=Ax (by rw [Ay (hn3 _ hT0.ap.qt.symm),Ay (hn2 _ hT0.ap.qt.symm)]; exact ht1)
    have hb3:Ak (S3++[⟨n2,ceQ y.1⟩]) I.ib I.eb=some (t.basis.map intA):=Ax (by rw [Ay (hn3 _ hT0.ap.qb.symm),Ay (hn2 _ hT0.ap.qb.symm)]; exact hT.basisE hr0)
    obtain ⟨bk,hbk⟩:=A6 (show P.length<t.basis.length by rw [hT0.nb]; exact hk2)
    obtain ⟨bb,hbb⟩:=A6 (show bi<t.basis.length by rw [hT0.nb]; omega)
    have hbk2:nth (List.drop P.length (t.basis.map intA)) 0=some (.prim (.int .i64 (bk:Int))):=Ev (by rw [Az] at hbk ⊢; rw [List.getElem?_map,hbk]; rfl)
    have hbb2:nth (List.drop bi (t.basis.map intA)) 0=some (.prim (.int .i64 (bb:Int))):=Ev (by rw [Az] at hbb ⊢; rw [List.getElem?_map,hbb]; rfl)
    have hbim:bi<t.rows.length:=by omega
    have hqE3:Ak (S3++[⟨n2,ceQ y.1⟩]) S2.length n2=some (ceQ y.1):=Be hl3
    have hlE3:Ak (S3++[⟨n2,ceQ y.1⟩]) S.length k=some (ceQ least):=Ax (by rw [Ay hn3S]; exact hlc2)
    have htk3:List.take S'.length (S3++[⟨n2,ceQ y.1⟩])=S3:=by rw [← hl2,← hl3]; simp
    have htk4:∀ v,List.take S'.length (put S3 S.length v++[⟨n2,ceQ y.1⟩])=put S3 S.length v:=fun v=>by rw [← hl2,← hl3,← A7 (l:=S3) (i:=S.length) (v:=v)]; simp
    have hpa3:=fun v=>Em (L:=[⟨n2,ceQ y.1⟩]) (x:=v) (show S.length<S3.length by omega)
    have hw:worse t.basis (sgn d.1) P.length bi=(decide (0<sgn d.1) || (sgn d.1 == 0 && decide (bb<bk))):=by unfold worse; rw [Db hbk,Db hbb]
    have hassoc:Bool.or fq (Bool.or (Bool.or y.2 d.2) (Gh qF t.basis c t.cost.length (P++[r0]).length U (if worse t.basis (sgn d.1) P.length bi=true then some (bi,least) else some (P.length,y.1))).2)=Bool.or (Bool.or fq (Bool.or y.2 d.2)) (Gh qF t.basis c t.cost.length (P++[r0]).length U (if worse t.basis (sgn d.1) P.length bi=true then some (bi,least) else some (P.length,y.1))).2:=(Bool.or_assoc _ _ _).symm
    have hR3:Et qF t c=((Gh qF t.basis c t.cost.length (P++[r0]).length U (if worse t.basis (sgn d.1) P.length bi=true then some (bi,least) else some (P.length,y.1))).1,Bool.or (Bool.or fq (Bool.or y.2 d.2)) (Gh qF t.basis c t.cost.length (P++[r0]).length U (if worse t.basis (sgn d.1) P.length bi=true then some (bi,least) else some (P.length,y.1))).2):=by
     rw [hR,← hassoc,hPl]; simp only [Gh,Db hx,Db hz]; rw [if_neg hs0,← hy,← hd]
    have hTk:Bi S3 iq eq I { t with fl:=Bool.or t.fl (Bool.or fq (Bool.or y.2 d.2)) } cc:=by
     have:=hT.frame (S':=S3) (n:=S.length) (fl':=Bool.or (Bool.or (Bool.or t.fl fq) y.2) d.2) (hlow.of fun h=>h) (fun j h1 h2=>by rw [hn3 j h2,hn2 j h2]) hf3
     simpa only [Bool.or_assoc] using this
    have hTn:Bi (put S3 S.length ⟨k,ceQ y.1⟩) iq eq I { t with fl:=Bool.or t.fl (Bool.or fq (Bool.or y.2 d.2)) } cc:=hTk.frame (n:=S.length) (hlow.of fun h=>h) (fun j h1 h2=>by rw [Aw (by omega)]) (hTk.fa.put (fun h=>by have:=hlow.iq; omega))
    by_cases h1:0<sgn d.1
    ·have k1:decide (sgn d.1 > 0)=true:=by simpa using h1
     have hw2':worse t.basis (sgn d.1) P.length bi=true:=by rw [hw]; simp [h1]
     rw [if_pos hw2'] at hR3
     simp (maxSteps:=1000000) +contextual (disch:=first|with_reducible assumption|exact ⟨rfl⟩|exact ⟨rfl,rfl⟩|exact ⟨rfl,rfl,rfl⟩|(refine _root_.id ?_; kernel_rfl)|omega) only [evs,Ad,nth,put,putT,getT,Ai,Aj,Ab,aUn,outA,resA,mapO,Aq,Ar,w1,w2,w3,bots,cond_true,cond_false,if_true,if_false,ite_true,ite_false,reduceIte,reduceCtorEq,implies_true,Nat.reduceAdd,Nat.reduceSub,AV.int,AV.bool,AV.str,Nat.reduceBEq,Nat.reduceEqDiff,Nat.reduceMul,Nat.reduceLT,Nat.reduceLeDiff,Int.reduceNeg,BEq.rfl,beq_self_eq_true,tabl,cellsOf,fldA,ldA,stA,Bd,Bc,A2,A1,Ae,Af,Ac,List.take_left,List.take_length,Ao,Am,over,Ag,Value.oneCell',idxA,nilA,Aa,Ap,Ah,pure1,pure2,reps,chkA,tys,Tryz.results108,evt,Av,Au,Al,e0,e1,e5,e6,e14,e15,e16,c1,c2,c3,k1,hw2,ht1,ht2,ht3,hb3,hrE,hixk,hrk1,hxt,hzt,hW1,hW2,hk2,hbim,hc,hs,hs3,hm1,hm2,hg1,hg2,hqE,hlE,hbk2,hbb2,htk3,Dx,xfs,puQ,tkQ,Ba,Bq,ovQ,Nat.mul_one]
     exact IH (S3,n2+1+4+1,P++[r0],U,some (bi,least),Bool.or fq (Bool.or y.2 d.2)) _ (by first|omega|(simp only; omega)) ⟨rfl,hR3,hPU2,hTk,⟨_,by rw [Ay hn3S]; exact hlc2,Ba _,fun bi' q h=>by simp only [Option.some.injEq,Prod.mk.injEq] at h; obtain ⟨rfl,rfl⟩:=h; exact ⟨rfl,by rw [hPl]; omega,ol⟩⟩,by first|omega|(dsimp only; omega),fun j h1 h2=>by rw [hn3 j h2.1,hn2 j h2.1]; exact hfr j h1 h2,by and_intros <;> first|rfl|simp only [getT,List.map_append]⟩
    have k1:decide (sgn d.1 > 0)=false:=by simpa using h1
    by_cases h2:sgn d.1=0
    ·have k2:(sgn d.1 == 0)=true:=by simpa using h2
     by_cases h3:bb<bk
     ·have k3:decide ((bk:Int) > (bb:Int))=true:=by simpa using h3
      have hw2':worse t.basis (sgn d.1) P.length bi=true:=by rw [hw]; simp [h2,h3]
      rw [if_pos hw2'] at hR3
      simp (maxSteps:=1000000) +contextual (disch:=first|with_reducible assumption|exact ⟨rfl⟩|exact ⟨rfl,rfl⟩|exact ⟨rfl,rfl,rfl⟩|(refine _root_.id ?_; kernel_rfl)|omega) only [evs,Ad,nth,put,putT,getT,Ai,Aj,Ab,aUn,outA,resA,mapO,Aq,Ar,w1,w2,w3,bots,cond_true,cond_false,if_true,if_false,ite_true,ite_false,reduceIte,reduceCtorEq,implies_true,Nat.reduceAdd,Nat.reduceSub,AV.int,AV.bool,AV.str,Nat.reduceBEq,Nat.reduceEqDiff,Nat.reduceMul,Nat.reduceLT,Nat.reduceLeDiff,Int.reduceNeg,BEq.rfl,beq_self_eq_true,tabl,cellsOf,fldA,ldA,stA,Bd,Bc,A2,A1,Ae,Af,Ac,List.take_left,List.take_length,Ao,Am,over,Ag,Value.oneCell',idxA,nilA,Aa,Ap,Ah,pure1,pure2,reps,chkA,tys,Tryz.results108,evt,Av,Au,Al,e0,e1,e5,e6,e14,e15,e16,c1,c2,c3,k1,k2,k3,hw2,ht1,ht2,ht3,hb3,hrE,hixk,hrk1,hxt,hzt,hW1,hW2,hk2,hbim,hc,hs,hs3,hm1,hm2,hg1,hg2,hqE,hlE,hbk2,hbb2,htk3,Dx,xfs,puQ,tkQ,Ba,Bq,ovQ,Nat.mul_one]
      exact IH (S3,n2+1+4+1,P++[r0],U,some (bi,least),Bool.or fq (Bool.or y.2 d.2)) _ (by first|omega|(simp only; omega)) ⟨rfl,hR3,hPU2,hTk,⟨_,by rw [Ay hn3S]; exact hlc2,Ba _,fun bi' q h=>by simp only [Option.some.injEq,Prod.mk.injEq] at h; obtain ⟨rfl,rfl⟩:=h; exact ⟨rfl,by rw [hPl]; omega,ol⟩⟩,by first|omega|(dsimp only; omega),fun j h1 h2=>by rw [hn3 j h2.1,hn2 j h2.1]; exact hfr j h1 h2,by and_intros <;> first|rfl|simp only [getT,List.map_append]⟩
     ·have k3:decide ((bk:Int) > (bb:Int))=false:=by simp; omega
      have hw2':worse t.basis (sgn d.1) P.length bi=false:=by rw [hw]; simp [h2,h3]
      rw [hw2',if_neg Bool.false_ne_true] at hR3
      simp (maxSteps:=1000000) +contextual (disch:=first|with_reducible assumption|exact ⟨rfl⟩|exact ⟨rfl,rfl⟩|exact ⟨rfl,rfl,rfl⟩|(refine _root_.id ?_; kernel_rfl)|omega) only [evs,Ad,nth,put,putT,getT,Ai,Aj,Ab,aUn,outA,resA,mapO,Aq,Ar,w1,w2,w3,bots,cond_true,cond_false,if_true,if_false,ite_true,ite_false,reduceIte,reduceCtorEq,implies_true,Nat.reduceAdd,Nat.reduceSub,AV.int,AV.bool,AV.str,Nat.reduceBEq,Nat.reduceEqDiff,Nat.reduceMul,Nat.reduceLT,Nat.reduceLeDiff,Int.reduceNeg,BEq.rfl,beq_self_eq_true,tabl,cellsOf,fldA,ldA,stA,Bd,Bc,A2,A1,Ae,Af,Ac,List.take_left,List.take_length,Ao,Am,over,Ag,Value.oneCell',idxA,nilA,Aa,Ap,Ah,pure1,pure2,reps,chkA,tys,Tryz.results108,evt,Av,Au,Al,e0,e1,e5,e6,e14,e15,e16,c1,c2,c3,k1,k2,k3,hw2,ht1,ht2,ht3,hb3,hrE,hixk,hrk1,hxt,hzt,hW1,hW2,hk2,hbim,hc,hs,hs3,hm1,hm2,hg1,hg2,hqE,hlE,hqE3,hlE3,hbk2,hbb2,htk4,hpa3,ovQ2,Dx,xfs,puQ,tkQ,Ba,Bq,ovQ,Nat.mul_one]
      exact IH (put S3 S.length ⟨k,ceQ y.1⟩,n2+1+4+1,P++[r0],U,some (P.length,y.1),Bool.or fq (Bool.or y.2 d.2)) _ (by first|omega|(simp only; omega)) ⟨rfl,hR3,hPU2,hTn,⟨_,A4 (by first|omega|(dsimp only; omega)),Ba _,fun bi' q h=>by simp only [Option.some.injEq,Prod.mk.injEq] at h; obtain ⟨rfl,rfl⟩:=h; exact ⟨rfl,by rw [hPl]; omega,oy⟩⟩,by rw [A7]; omega,fun j h1 h2=>by rw [Aw (by first|omega|(dsimp only; omega)),hn3 j h2.1,hn2 j h2.1]; exact hfr j h1 h2,by and_intros <;> first|rfl|simp only [getT,List.map_append]⟩
    ·have k2:(sgn d.1 == 0)=false:=by simpa using h2
     have hw2':worse t.basis (sgn d.1) P.length bi=false:=by rw [hw]; simp [h1,h2]
     rw [hw2',if_neg Bool.false_ne_true] at hR3
     simp (maxSteps:=1000000) +contextual (disch:=first|with_reducible assumption|exact ⟨rfl⟩|exact ⟨rfl,rfl⟩|exact ⟨rfl,rfl,rfl⟩|(refine _root_.id ?_; kernel_rfl)|omega) only [evs,Ad,nth,put,putT,getT,Ai,Aj,Ab,aUn,outA,resA,mapO,Aq,Ar,w1,w2,w3,bots,cond_true,cond_false,if_true,if_false,ite_true,ite_false,reduceIte,reduceCtorEq,implies_true,Nat.reduceAdd,Nat.reduceSub,AV.int,AV.bool,AV.str,Nat.reduceBEq,Nat.reduceEqDiff,Nat.reduceMul,Nat.reduceLT,Nat.reduceLeDiff,Int.reduceNeg,BEq.rfl,beq_self_eq_true,tabl,cellsOf,fldA,ldA,stA,Bd,Bc,A2,A1,Ae,Af,Ac,List.take_left,List.take_length,Ao,Am,over,Ag,Value.oneCell',idxA,nilA,Aa,Ap,Ah,pure1,pure2,reps,chkA,tys,Tryz.results108,evt,Av,Au,Al,e0,e1,e5,e6,e14,e15,e16,c1,c2,c3,k1,k2,hw2,ht1,ht2,ht3,hb3,hrE,hixk,hrk1,hxt,hzt,hW1,hW2,hk2,hbim,hc,hs,hs3,hm1,hm2,hg1,hg2,hqE,hlE,hqE3,hlE3,htk4,hpa3,ovQ2,Dx,xfs,puQ,tkQ,Ba,Bq,ovQ,Nat.mul_one]
     exact IH (put S3 S.length ⟨k,ceQ y.1⟩,n2+1+4+1,P++[r0],U,some (P.length,y.1),Bool.or fq (Bool.or y.2 d.2)) _ (by first|omega|(simp only; omega)) ⟨rfl,hR3,hPU2,hTn,⟨_,A4 (by first|omega|(dsimp only; omega)),Ba _,fun bi' q h=>by simp only [Option.some.injEq,Prod.mk.injEq] at h; obtain ⟨rfl,rfl⟩:=h; exact ⟨rfl,by rw [hPl]; omega,oy⟩⟩,by rw [A7]; omega,fun j h1 h2=>by rw [Aw (by first|omega|(dsimp only; omega)),hn3 j h2.1,hn2 j h2.1]; exact hfr j h1 h2,by and_intros <;> first|rfl|simp only [getT,List.map_append]⟩
 ·have c1:decide ((P.length:Int)<(t.rows.length:Int))=false:=by simpa using hk2
  have hU0:U=[]:=List.length_eq_zero_iff.1 (by omega)
  subst hU0
  simp (maxSteps:=1000000) +contextual (disch:=first|with_reducible assumption|exact ⟨rfl⟩|exact ⟨rfl,rfl⟩|exact ⟨rfl,rfl,rfl⟩|(refine _root_.id ?_; kernel_rfl)|omega) only [evs,Ad,nth,put,putT,getT,Ai,Aj,Ab,aUn,outA,resA,mapO,Aq,Ar,w1,w2,w3,bots,cond_true,cond_false,if_true,if_false,ite_true,ite_false,reduceIte,reduceCtorEq,implies_true,Nat.reduceAdd,Nat.reduceSub,AV.int,AV.bool,AV.str,Nat.reduceBEq,Nat.reduceEqDiff,Nat.reduceMul,Nat.reduceLT,Nat.reduceLeDiff,Int.reduceNeg,BEq.rfl,beq_self_eq_true,tabl,cellsOf,fldA,ldA,stA,Bd,Bc,A2,A1,Ae,Af,Ac,List.take_left,List.take_length,Ao,Am,over,Ag,Value.oneCell',idxA,nilA,Aa,Ap,Ah,pure1,pure2,reps,chkA,tys,Tryz.results108,evt,Av,Au,Al,e0,e1,e5,e6,e14,e15,e16,c1]
  simp only [Gh,Bool.or_false] at hR
  have hfz:fz3 S.length S' (Ll bst)=Ll bst:=by cases bst <;> rfl
  rw [hΦ,hR,hfz]
  exact ⟨_,_,rfl,by rw [List.length_take]; omega,hT.take (hlow.of fun h=>h),fun j hj=>by
   by_cases hjl:j<S.length
   ·rw [Ew hjl]; exact hfr j hjl hj
   ·rw [Az,Az,List.getElem?_eq_none (by rw [List.length_take]; omega),List.getElem?_eq_none (by omega)]⟩
end
end Go.Proofs.YtcjffhadclngmaaGreat
namespace Go.Proofs.YtcjffhadclngmaaGreat
open Go
section
variable (S:List Ent) (tk:List Nat) (k iq eq:Nat)
set_option maxHeartbeats 8000000 in
set_option maxRecDepth 100000 in
theorem Qs (I:TI) (t t':Tb) (cc:Cap) (K:Nat) (b:Bool) (hT0:Bi S iq eq I t cc) (hK:Ku qF K t=some (b,t')) :
  ∃ r,cL Tryz.prog 82 [.ref I.it I.et 0] S tk k=some r∧Nb S tk iq eq I t' cc (.bool b) r:=by
 obtain ⟨Φ,hΦ⟩:∃ Φ,Φ=Nb S tk iq eq I t' cc (.bool b):=⟨_,rfl⟩
 rw [← hΦ]
 refine Bv Tryz.func82 rfl rfl (by decide +kernel) Tryz.ntmps82 rfl ?_; rw [Bs]
 simp (maxSteps:=1000000) +contextual (disch:=first|with_reducible assumption|exact ⟨rfl⟩|exact ⟨rfl,rfl⟩|exact ⟨rfl,rfl,rfl⟩|(refine _root_.id ?_; kernel_rfl)|omega) only [evs,Ad,nth,put,putT,getT,Ai,Aj,Ab,aUn,outA,resA,mapO,Aq,Ar,w1,w2,w3,bots,cond_true,cond_false,if_true,if_false,ite_true,ite_false,reduceIte,reduceCtorEq,implies_true,Nat.reduceAdd,Nat.reduceSub,AV.int,AV.bool,AV.str,Nat.reduceBEq,Nat.reduceEqDiff,Nat.reduceMul,Nat.reduceLT,Nat.reduceLeDiff,Int.reduceNeg,BEq.rfl,beq_self_eq_true,tabl,cellsOf,fldA,ldA,stA,Bd,Bc,A2,A1,Ae,Af,Ac,List.take_left,List.take_length,Ao,Am,over,Ag,Value.oneCell',idxA,nilA,Aa,Ap,Ah,pure1,pure2,reps,chkA,tys,Tryz.results82,evt,Av,Au,Al,w2,w1]
 refine Hs (P:=Tryz.prog) (fun x st=>st.T.length=46∧(Ku qF x.2.2.1 x.2.2.2=some (b,t'))∧(Bi x.1 iq eq I x.2.2.2 cc)∧(x.1.length=S.length)∧(∀ j,OutQ I iq j→nth x.1 j=nth S j)∧getT st.T 0=.ref I.it I.et 0∧st.S=x.1∧st.tk=tk∧st.n=x.2.1) (fun x=>x.2.2.1) (S,k,K,t) ?_ ?_
 case refine_2=>exact ⟨rfl,hK,hT0,rfl,fun j _=>rfl,rfl,rfl,rfl,rfl⟩
 rintro ⟨SS,n1,K1,t1⟩ ⟨T,S',tk',n'⟩ ⟨hl,hK1,hT,hLn,hfr,e0,eS,eT,eN⟩ IH
 simp only at hK1 hT hLn hfr e0 eS eT eN
 subst eS eT eN
 obtain ⟨g,hg,hT⟩:=Bp hl
 rw [hg] at e0
 subst hT
 clear hg hl
 have IHA:=IH
 clear IH
 cases K1 with
 | zero=>simp [Ku] at hK1
 | succ K1 =>
 have htop:=hT.top
 have hreal:=hT.real
 have hW:=hT.bigW
 have hex:=Nh S' tk' n' iq eq t1.fl hT.fa
 have hfin:List.take S.length S'=S':=List.take_of_length_le (by omega)
 unfold Ku at hK1
 cases hst:(qF.stop && t1.fl) with
 | true =>
  rw [hst] at hK1 hex
  rw [if_pos rfl] at hK1
  simp only [Option.some.injEq,Prod.mk.injEq] at hK1
  obtain ⟨rfl,rfl⟩:=hK1
  simp (maxSteps:=1000000) +contextual (disch:=first|with_reducible assumption|exact ⟨rfl⟩|exact ⟨rfl,rfl⟩|exact ⟨rfl,rfl,rfl⟩|(refine _root_.id ?_; kernel_rfl)|omega) only [evs,Ad,nth,put,putT,getT,Ai,Aj,Ab,aUn,outA,resA,mapO,Aq,Ar,w1,w2,w3,bots,cond_true,cond_false,if_true,if_false,ite_true,ite_false,reduceIte,reduceCtorEq,implies_true,Nat.reduceAdd,Nat.reduceSub,AV.int,AV.bool,AV.str,Nat.reduceBEq,Nat.reduceEqDiff,Nat.reduceMul,Nat.reduceLT,Nat.reduceLeDiff,Int.reduceNeg,BEq.rfl,beq_self_eq_true,tabl,cellsOf,fldA,ldA,stA,Bd,Bc,A2,A1,Ae,Af,Ac,List.take_left,List.take_length,Ao,Am,over,Ag,Value.oneCell',idxA,nilA,Aa,Ap,Ah,pure1,pure2,reps,chkA,tys,Tryz.results82,evt,Av,Au,Al,e0,htop,hex,Dx,xfs,puQ]
  rw [hΦ,hfin]
  exact ⟨S',n',rfl,hLn,hT,hfr⟩
 | false =>
 rw [hst] at hK1 hex
 rw [if_neg Bool.false_ne_true] at hK1
 simp only [intA] at htop
 simp (maxSteps:=1000000) +contextual (disch:=first|with_reducible assumption|exact ⟨rfl⟩|exact ⟨rfl,rfl⟩|exact ⟨rfl,rfl,rfl⟩|(refine _root_.id ?_; kernel_rfl)|omega) only [evs,Ad,nth,put,putT,getT,Ai,Aj,Ab,aUn,outA,resA,mapO,Aq,Ar,w1,w2,w3,bots,cond_true,cond_false,if_true,if_false,ite_true,ite_false,reduceIte,reduceCtorEq,implies_true,Nat.reduceAdd,Nat.reduceSub,AV.int,AV.bool,AV.str,Nat.reduceBEq,Nat.reduceEqDiff,Nat.reduceMul,Nat.reduceLT,Nat.reduceLeDiff,Int.reduceNeg,BEq.rfl,beq_self_eq_true,tabl,cellsOf,fldA,ldA,stA,Bd,Bc,A2,A1,Ae,Af,Ac,List.take_left,List.take_length,Ao,Am,over,Ag,Value.oneCell',idxA,nilA,Aa,Ap,Ah,pure1,pure2,reps,chkA,tys,Tryz.results82,evt,Av,Au,Al,e0,htop,hex,Dx,xfs,puQ]
 refine Hs (P:=Tryz.prog) (fun x st=>st.T.length=46∧(x.2≤t1.real)∧(colF t1.cost t1.real 0=colF t1.cost (t1.real - x.2) x.2)∧getT st.T 0=.ref I.it I.et 0∧getT st.T 3=.int (-1)∧getT st.T 14=.int (t1.real:Nat)∧getT st.T 15=.int (x.2:Nat)∧st.S=S'∧st.tk=tk'∧st.n=x.1) (fun x=>t1.real - x.2) (n',0) ?_ ?_
 case refine_2=>exact ⟨rfl,Nat.zero_le _,rfl,rfl,rfl,rfl,rfl,rfl,rfl,rfl⟩
 rintro ⟨n2,j⟩ ⟨T,S',tk',n'⟩ ⟨hl,hj,hc,e0,e3,e14,e15,eS,eT,eN⟩ IH
 simp only at hj hc e0 e3 e14 e15 eS eT eN
 subst eS eT eN
 obtain ⟨g,hg,hT⟩:=Bp hl
 rw [hg] at e0 e3 e14 e15
 subst hT
 clear hg hl
 by_cases hjr:j<t1.real
 ·have c1:decide ((j:Int)<(t1.real:Int))=true:=by simpa using hjr
  have hw:IntKind.i64.wrap ((j:Int)+1)=((j+1:Nat):Int):=by rw [A0 (by unfold i64; omega)]; rfl
  have hjc:j<t1.cost.length:=by omega
  obtain ⟨x,hx⟩:=A6 hjc
  have ox:=hT.okc x (Bj hx)
  have hxt:=Bu (ce:=ceQ) Ba hx
  have hs:=Ud S' tk' n' iq eq t1.fl x ox hT.fa
  have hcE:=hT.costE
  have hcu:colF t1.cost (t1.real - j) j=if sgn x<0 then some j else colF t1.cost (t1.real - (j+1)) (j+1):=by
   rw [show t1.real - j=(t1.real - (j+1))+1 by omega]
   simp only [colF,Db hx]
  by_cases hneg:sgn x<0
  ·have c2:decide (sgn x<0)=true:=by simpa using hneg
   have c3:decide ((j:Int)<0)=false:=by simp
   rw [hc,hcu,if_pos hneg] at hK1
   simp only at hK1
   obtain ⟨r,hlv,S2,k2,rfl,hl2,hT2,hf2⟩:=Acj S' tk' (n'+1) iq eq I t1 cc j hT hjc
   obtain ⟨lv,hlve⟩:∃ lv,lv=Et qF t1 j:=⟨_,rfl⟩
   rw [← hlve] at hK1 hlv hT2
   obtain ⟨lb,lf⟩:=lv
   cases lb with
   | none =>
    simp only [Option.some.injEq,Prod.mk.injEq] at hK1
    obtain ⟨rfl,rfl⟩:=hK1
    have c4:decide ((-1:Int)<0)=true:=rfl
    simp only [Ll] at hlv
    have hfin2:List.take S.length S2=S2:=List.take_of_length_le (by omega)
    simp (maxSteps:=1000000) +contextual (disch:=first|with_reducible assumption|exact ⟨rfl⟩|exact ⟨rfl,rfl⟩|exact ⟨rfl,rfl,rfl⟩|(refine _root_.id ?_; kernel_rfl)|omega) only [evs,Ad,nth,put,putT,getT,Ai,Aj,Ab,aUn,outA,resA,mapO,Aq,Ar,w1,w2,w3,bots,cond_true,cond_false,if_true,if_false,ite_true,ite_false,reduceIte,reduceCtorEq,implies_true,Nat.reduceAdd,Nat.reduceSub,AV.int,AV.bool,AV.str,Nat.reduceBEq,Nat.reduceEqDiff,Nat.reduceMul,Nat.reduceLT,Nat.reduceLeDiff,Int.reduceNeg,BEq.rfl,beq_self_eq_true,tabl,cellsOf,fldA,ldA,stA,Bd,Bc,A2,A1,Ae,Af,Ac,List.take_left,List.take_length,Ao,Am,over,Ag,Value.oneCell',idxA,nilA,Aa,Ap,Ah,pure1,pure2,reps,chkA,tys,Tryz.results82,evt,Av,Au,Al,e0,e3,e14,e15,c1,c2,c3,c4,htop,hcE,hxt,hjc,hs,hlv,Dx,xfs,puQ,tkQ]
    rw [hΦ,hfin2]
    exact ⟨S2,k2,rfl,by omega,hT2,fun j hj=>by rw [hf2 j hj]; exact hfr j hj⟩
   | some bq =>
    obtain ⟨i,q⟩:=bq
    simp only at hK1
    have hir:i<t1.rows.length:=Z3 (F:=qF) (t:=t1) (c:=j) (q:=q) (f:=lf) hlve.symm
    obtain ⟨r,hpv,S3,k3,rfl,hl3,hT3,hf3⟩:=Ad3 S2 tk' k2 iq eq I _ cc i j hT2 hir hjc
    have c4:decide ((i:Int)<0)=false:=by simp
    simp only [Ll] at hlv
    have hfin3:List.take S'.length S3=S3:=List.take_of_length_le (by omega)
    simp (maxSteps:=1000000) +contextual (disch:=first|with_reducible assumption|exact ⟨rfl⟩|exact ⟨rfl,rfl⟩|exact ⟨rfl,rfl,rfl⟩|(refine _root_.id ?_; kernel_rfl)|omega) only [evs,Ad,nth,put,putT,getT,Ai,Aj,Ab,aUn,outA,resA,mapO,Aq,Ar,w1,w2,w3,bots,cond_true,cond_false,if_true,if_false,ite_true,ite_false,reduceIte,reduceCtorEq,implies_true,Nat.reduceAdd,Nat.reduceSub,AV.int,AV.bool,AV.str,Nat.reduceBEq,Nat.reduceEqDiff,Nat.reduceMul,Nat.reduceLT,Nat.reduceLeDiff,Int.reduceNeg,BEq.rfl,beq_self_eq_true,tabl,cellsOf,fldA,ldA,stA,Bd,Bc,A2,A1,Ae,Af,Ac,List.take_left,List.take_length,Ao,Am,over,Ag,Value.oneCell',idxA,nilA,Aa,Ap,Ah,pure1,pure2,reps,chkA,tys,Tryz.results82,evt,Av,Au,Al,e0,e3,e14,e15,c1,c2,c3,c4,htop,hcE,hxt,hjc,hs,hlv,hpv,hfin3,Dx,xfs,puQ,tkQ]
    exact IHA (S3,k3,K1,Hk qF { t1 with fl:=Bool.or t1.fl lf } i j) _ (by first|omega|(simp only; omega)) ⟨rfl,hK1,hT3,by first|omega|(dsimp only; omega),fun j hj=>by rw [hf3 j hj,hf2 j hj]; exact hfr j hj,by and_intros <;> first|rfl|simp only [getT,List.map_append]⟩
  ·have c2:decide (sgn x<0)=false:=by simpa using hneg
   rw [hcu,if_neg hneg] at hc
   simp (maxSteps:=1000000) +contextual (disch:=first|with_reducible assumption|exact ⟨rfl⟩|exact ⟨rfl,rfl⟩|exact ⟨rfl,rfl,rfl⟩|(refine _root_.id ?_; kernel_rfl)|omega) only [evs,Ad,nth,put,putT,getT,Ai,Aj,Ab,aUn,outA,resA,mapO,Aq,Ar,w1,w2,w3,bots,cond_true,cond_false,if_true,if_false,ite_true,ite_false,reduceIte,reduceCtorEq,implies_true,Nat.reduceAdd,Nat.reduceSub,AV.int,AV.bool,AV.str,Nat.reduceBEq,Nat.reduceEqDiff,Nat.reduceMul,Nat.reduceLT,Nat.reduceLeDiff,Int.reduceNeg,BEq.rfl,beq_self_eq_true,tabl,cellsOf,fldA,ldA,stA,Bd,Bc,A2,A1,Ae,Af,Ac,List.take_left,List.take_length,Ao,Am,over,Ag,Value.oneCell',idxA,nilA,Aa,Ap,Ah,pure1,pure2,reps,chkA,tys,Tryz.results82,evt,Av,Au,Al,e0,e3,e14,e15,c1,c2,hw,htop,hcE,hxt,hjc,hs,Dx,xfs,puQ,tkQ]
   exact IH (n'+1,j+1) _ (by first|omega|(simp only; omega)) ⟨rfl,by first|omega|(dsimp only; omega),hc,by and_intros <;> first|rfl|simp only [getT,List.map_append]⟩
 ·have c1:decide ((j:Int)<(t1.real:Int))=false:=by simpa using hjr
  have c3:decide ((-1:Int)<0)=true:=rfl
  have hj2:t1.real - j=0:=by omega
  rw [hc,hj2] at hK1
  simp only [colF,Option.some.injEq,Prod.mk.injEq] at hK1
  obtain ⟨rfl,rfl⟩:=hK1
  simp (maxSteps:=1000000) +contextual (disch:=first|with_reducible assumption|exact ⟨rfl⟩|exact ⟨rfl,rfl⟩|exact ⟨rfl,rfl,rfl⟩|(refine _root_.id ?_; kernel_rfl)|omega) only [evs,Ad,nth,put,putT,getT,Ai,Aj,Ab,aUn,outA,resA,mapO,Aq,Ar,w1,w2,w3,bots,cond_true,cond_false,if_true,if_false,ite_true,ite_false,reduceIte,reduceCtorEq,implies_true,Nat.reduceAdd,Nat.reduceSub,AV.int,AV.bool,AV.str,Nat.reduceBEq,Nat.reduceEqDiff,Nat.reduceMul,Nat.reduceLT,Nat.reduceLeDiff,Int.reduceNeg,BEq.rfl,beq_self_eq_true,tabl,cellsOf,fldA,ldA,stA,Bd,Bc,A2,A1,Ae,Af,Ac,List.take_left,List.take_length,Ao,Am,over,Ag,Value.oneCell',idxA,nilA,Aa,Ap,Ah,pure1,pure2,reps,chkA,tys,Tryz.results82,evt,Av,Au,Al,e0,e3,e14,e15,c1,c3,htop]
  rw [hΦ,hfin]
  exact ⟨S',n',rfl,hLn,hT,hfr⟩
end
end Go.Proofs.YtcjffhadclngmaaGreat
namespace Go.Proofs.YtcjffhadclngmaaGreat
open Go
theorem Tw {basis:List Nat} {k:Nat} : ∀ {l:List (List Q)} {i j:Nat},Pe basis k i l=some j→i≤j∧j<i+l.length∧at_ 0 basis j=k
 | [],_,_,h=>by simp [Pe] at h
 | r :: l,i,j,h=>by
  unfold Pe at h
  split at h
  ·simp only [Option.some.injEq] at h; subst h; rename_i h; exact ⟨Nat.le_refl _,by simp,h⟩
  ·have:=Tw h; simp only [List.length_cons]; omega
def Agw (S:List Ent) (tk:List Nat) (iq eq:Nat) (y:Q × Bool) (r:Rs):Prop:=∃ k',r=(.agg (ceQ y.1),flS S iq eq y.2,tk,k')
section
variable (S:List Ent) (tk:List Nat) (k iq eq:Nat)
set_option maxRecDepth 100000 in
theorem T9 (I:TI) (t:Tb) (cc:Cap) (hT:Bi S iq eq I t cc) :
  ∃ r,cL Tryz.prog 83 [.ref I.it I.et 0] S tk k=some r∧Nb S tk iq eq I t cc (.bool (Vq t)) r:=by
 obtain ⟨Φ,hΦ⟩:∃ Φ,Φ=Nb S tk iq eq I t cc (.bool (Vq t)):=⟨_,rfl⟩
 rw [← hΦ]
 have htop:=hT.top
 have hW:=hT.bigW
 have hreal:=hT.real
 have hcE:=hT.costE
 obtain ⟨z,hz⟩:=A6 (show t.cost.length - 1<t.cost.length by omega)
 have oz:=hT.okc z (Bj hz)
 have hzt:=Bu (ce:=ceQ) Ba hz
 have hs:=Ud S tk k iq eq t.fl z oz hT.fa
 have hW1:IntKind.i64.wrap ((t.cost.length:Int) - 1)=((t.cost.length - 1:Nat):Int):=by rw [A0 (by unfold i64; omega)]; omega
 have hW2:t.cost.length - 1<t.cost.length:=by omega
 refine Bv Tryz.func83 rfl rfl (by decide +kernel) Tryz.ntmps83 rfl ?_; rw [Bs]
 simp (maxSteps:=1000000) +contextual (disch:=first|with_reducible assumption|exact ⟨rfl⟩|exact ⟨rfl,rfl⟩|exact ⟨rfl,rfl,rfl⟩|(refine _root_.id ?_; kernel_rfl)|omega) only [evs,Ad,nth,put,putT,getT,Ai,Aj,Ab,aUn,outA,resA,mapO,Aq,Ar,w1,w2,w3,bots,cond_true,cond_false,if_true,if_false,ite_true,ite_false,reduceIte,reduceCtorEq,implies_true,Nat.reduceAdd,Nat.reduceSub,AV.int,AV.bool,AV.str,Nat.reduceBEq,Nat.reduceEqDiff,Nat.reduceMul,Nat.reduceLT,Nat.reduceLeDiff,Int.reduceNeg,BEq.rfl,beq_self_eq_true,tabl,cellsOf,fldA,ldA,stA,Bd,Bc,A2,A1,Ae,Af,Ac,List.take_left,List.take_length,Ao,Am,over,Ag,Value.oneCell',idxA,nilA,Aa,Ap,Ah,pure1,pure2,reps,chkA,tys,Tryz.results83,evt,Av,Au,Al,w2,w1,htop,hcE,hzt,hW1,hW2,hs,Dx,xfs,puQ,tkQ]
 rw [hΦ]
 exact ⟨S,_,by simp only [Vq,Db hz]; rfl,rfl,hT,fun j _=>rfl⟩
set_option maxHeartbeats 4000000 in
set_option maxRecDepth 100000 in
theorem Zc (I:TI) (t:Tb) (cc:Cap) (c:Nat) (hT:Bi S iq eq I t cc) :
  ∃ r,cL Tryz.prog 110 [.ref I.it I.et 0,.int c] S tk k=some r∧Agw S tk iq eq (Gb qF t c) r:=by
 obtain ⟨Φ,hΦ⟩:∃ Φ,Φ=Agw S tk iq eq (Gb qF t c):=⟨_,rfl⟩
 rw [← hΦ]
 have htop:=hT.top
 have hM:=hT.bigM
 have hW:=hT.bigW
 have hreal:=hT.real
 have hlow:=hT.low
 obtain ⟨y,hy⟩:∃ y,y=qF.whole 0:=⟨_,rfl⟩
 obtain ⟨h,hh⟩:∃ h,h=hd0 I.ib I.eb 1 t.rows.length:=⟨_,rfl⟩
 have hlen:lenV false true h=some (.int (t.rows.length:Nat)):=by
  rw [hh]
  cases t.rows.length with
  | zero=>rfl
  | succ n=>rfl
 rw [← hh] at htop
 have hq1:=hT.fa.app (L:=[⟨k,[.int 0,.int 0]⟩])
 have ho1:=Hl (S++[⟨k,[.int 0,.int 0]⟩]) tk (k+1) iq eq t.fl 0 (by unfold i64; omega) hq1
 rw [← hy,Gg hT.fa] at ho1
 have hl1:(flS S iq eq y.2).length=S.length:=Bo
 have hE:=Be (k:=k) (cs:=[.int 0,.int 0]) hl1
 have hE2:=Be (k:=k) (cs:=ceQ y.1) hl1
 have hP:=fun e e'=>Ez (e:=e) (e':=e') hl1
 have hTk:=fun L=>Lc (L:=L) hl1
 have htA:=Ax (L:=[⟨k,[.int 0,.int 0]⟩]) htop
 refine Bv Tryz.func110 rfl rfl (by decide +kernel) Tryz.ntmps110 rfl ?_; rw [Bs]
 simp (maxSteps:=1000000) +contextual (disch:=first|with_reducible assumption|exact ⟨rfl⟩|exact ⟨rfl,rfl⟩|exact ⟨rfl,rfl,rfl⟩|(refine _root_.id ?_; kernel_rfl)|omega) only [evs,Ad,nth,put,putT,getT,Ai,Aj,Ab,aUn,outA,resA,mapO,Aq,Ar,w1,w2,w3,bots,cond_true,cond_false,if_true,if_false,ite_true,ite_false,reduceIte,reduceCtorEq,implies_true,Nat.reduceAdd,Nat.reduceSub,AV.int,AV.bool,AV.str,Nat.reduceBEq,Nat.reduceEqDiff,Nat.reduceMul,Nat.reduceLT,Nat.reduceLeDiff,Int.reduceNeg,BEq.rfl,beq_self_eq_true,tabl,cellsOf,fldA,ldA,stA,Bd,Bc,A2,A1,Ae,Af,Ac,List.take_left,List.take_length,Ao,Am,over,Ag,Value.oneCell',idxA,nilA,Aa,Ap,Ah,pure1,pure2,reps,chkA,tys,Tryz.results110,evt,Av,Au,Al,w2,w1,htop,htA,hlen]
 refine Hs (P:=Tryz.prog) (fun x st=>st.T.length=44∧(t.rows=x.1++x.2)∧(Pe t.basis c 0 t.rows=Pe t.basis c x.1.length x.2)∧getT st.T 0=.ref I.it I.et 0∧getT st.T 1=.int (c:Nat)∧getT st.T 4=.ref S.length k 0∧getT st.T 10=h∧getT st.T 11=.int (t.rows.length:Nat)∧getT st.T 12=.int (x.1.length:Nat)∧st.S=S++[⟨k,[.int 0,.int 0]⟩]∧st.tk=tk∧st.n=k+1) (fun x=>x.2.length) (([]:List (List Q)),t.rows) ?_ ?_
 case refine_2=>exact ⟨rfl,rfl,rfl,rfl,rfl,rfl,rfl,rfl,rfl,rfl,rfl,rfl⟩
 rintro ⟨P,U⟩ ⟨T,S',tk',n'⟩ ⟨hl,hPU,hR,e0,e1,e4,e10,e11,e12,eS,eT,eN⟩ IH
 simp only at hPU hR e0 e1 e4 e10 e11 e12 eS eT eN
 subst eS eT eN
 obtain ⟨g,hg,hT⟩:=Bp hl
 rw [hg] at e0 e1 e4 e10 e11 e12
 subst hT
 clear hg hl
 have hml:t.rows.length=P.length+U.length:=by rw [hPU]; simp
 by_cases hk2:P.length<t.rows.length
 ·have c1:decide ((P.length:Int)<(t.rows.length:Int))=true:=by simpa using hk2
  have hm0:0<t.rows.length:=by omega
  have hr0:t.rows≠[]:=fun h0=>by rw [h0] at hm0; simp at hm0
  rw [Dj hm0] at hh
  subst hh
  have ht1:=hT.top
  rw [Dj hm0,Dj hm0] at ht1
  obtain ⟨r0,U,rfl⟩:∃ r0 U',U=r0 :: U':=by
   cases U with
   | nil=>simp at hml; omega
   | cons x u=>exact ⟨x,u,rfl⟩
  have hmu:U.length<(r0 :: U).length:=by simp
  have hw2:IntKind.i64.wrap ((P.length:Int)+1)=(((P++[r0]).length:Nat):Int):=by rw [A0 (by unfold i64; omega)]; simp
  have hPl:(P++[r0]).length=P.length+1:=by simp
  obtain ⟨bk,hbk⟩:=A6 (show P.length<t.basis.length by rw [hT.nb]; exact hk2)
  have hbk2:nth (List.drop P.length (t.basis.map intA)) 0=some (.prim (.int .i64 (bk:Int))):=Ev (by rw [Az] at hbk ⊢; rw [List.getElem?_map,hbk]; rfl)
  have hbE:=Ax (L:=[⟨k,[.int 0,.int 0]⟩]) (hT.basisE hr0)
  have htB:=Ax (L:=[⟨k,[.int 0,.int 0]⟩]) ht1
  by_cases hb:bk=c
  ·have c2:((bk:Int) == (c:Int))=true:=by simp [hb]
   obtain ⟨pk,hpk⟩:=A6 (show P.length<I.ids.length by rw [hT.nids]; exact hk2)
   have hixk:nth (List.drop P.length (I.ids.map (hdr t.cost.length 2))) 0=some (.sref pk.1 pk.2 0 t.cost.length 2):=Ev (by rw [Az] at hpk ⊢; rw [List.getElem?_map,hpk]; rfl)
   have hrk:nth t.rows P.length=some r0:=by rw [hPU]; exact H9
   have hrw:=hT.rowW r0 (Bj hrk)
   have hrE:=Ax (L:=[⟨k,[.int 0,.int 0]⟩]) (hT.rowsE hr0)
   have hrk1:=Ax (L:=[⟨k,[.int 0,.int 0]⟩]) (hT.rowE P.length pk r0 hpk hrk)
   obtain ⟨z,hz⟩:=A6 (show t.cost.length - 1<r0.length by omega)
   have hzt:=Bu (ce:=ceQ) Ba hz
   have hW1:IntKind.i64.wrap ((t.cost.length:Int) - 1)=((t.cost.length - 1:Nat):Int):=by rw [A0 (by unfold i64; omega)]; omega
   have hW2:t.cost.length - 1<t.cost.length:=by omega
   have hcol:Gb qF t c=(z,false):=by
    unfold Gb
    rw [hR]
    unfold Pe
    rw [Db hbk,if_pos hb]
    simp only [Uf,Db hrk,Db hz]
   have hn1:Ak (S++[⟨k,ceQ z⟩]) S.length k=some (ceQ z):=Be rfl
   have hn2:∀ e e',put (S++[e]) S.length e'=S++[e']:=fun e e'=>Ez rfl
   simp (maxSteps:=1000000) +contextual (disch:=first|with_reducible assumption|exact ⟨rfl⟩|exact ⟨rfl,rfl⟩|exact ⟨rfl,rfl,rfl⟩|(refine _root_.id ?_; kernel_rfl)|omega) only [evs,Ad,nth,put,putT,getT,Ai,Aj,Ab,aUn,outA,resA,mapO,Aq,Ar,w1,w2,w3,bots,cond_true,cond_false,if_true,if_false,ite_true,ite_false,reduceIte,reduceCtorEq,implies_true,Nat.reduceAdd,Nat.reduceSub,AV.int,AV.bool,AV.str,Nat.reduceBEq,Nat.reduceEqDiff,Nat.reduceMul,Nat.reduceLT,Nat.reduceLeDiff,Int.reduceNeg,BEq.rfl,beq_self_eq_true,tabl,cellsOf,fldA,ldA,stA,Bd,Bc,A2,A1,Ae,Af,Ac,List.take_left,List.take_length,Ao,Am,over,Ag,Value.oneCell',idxA,nilA,Aa,Ap,Ah,pure1,pure2,reps,chkA,tys,Tryz.results110,evt,Av,Au,Al,e0,e1,e4,e10,e11,e12,c1,c2,htB,hbE,hbk2,hrE,hixk,hrk1,hzt,hW1,hW2,hk2,hn1,hn2,Ja,Adp,tkQ,Ba,Bq,ovQ,Nat.mul_one]
   rw [hΦ,hcol]
   exact ⟨_,rfl⟩
  ·have c2:((bk:Int) == (c:Int))=false:=by simp; omega
   simp (maxSteps:=1000000) +contextual (disch:=first|with_reducible assumption|exact ⟨rfl⟩|exact ⟨rfl,rfl⟩|exact ⟨rfl,rfl,rfl⟩|(refine _root_.id ?_; kernel_rfl)|omega) only [evs,Ad,nth,put,putT,getT,Ai,Aj,Ab,aUn,outA,resA,mapO,Aq,Ar,w1,w2,w3,bots,cond_true,cond_false,if_true,if_false,ite_true,ite_false,reduceIte,reduceCtorEq,implies_true,Nat.reduceAdd,Nat.reduceSub,AV.int,AV.bool,AV.str,Nat.reduceBEq,Nat.reduceEqDiff,Nat.reduceMul,Nat.reduceLT,Nat.reduceLeDiff,Int.reduceNeg,BEq.rfl,beq_self_eq_true,tabl,cellsOf,fldA,ldA,stA,Bd,Bc,A2,A1,Ae,Af,Ac,List.take_left,List.take_length,Ao,Am,over,Ag,Value.oneCell',idxA,nilA,Aa,Ap,Ah,pure1,pure2,reps,chkA,tys,Tryz.results110,evt,Av,Au,Al,e0,e1,e4,e10,e11,e12,c1,c2,htB,hbE,hbk2,hk2,hw2,Nat.mul_one]
   exact IH (P++[r0],U) _ (by first|omega|(simp only; omega)) ⟨rfl,by rw [hPU]; simp,by rw [hR,hPl]; simp only [Pe]; rw [Db hbk,if_neg hb],by and_intros <;> first|rfl|simp only [getT,List.map_append]⟩
 ·have c1:decide ((P.length:Int)<(t.rows.length:Int))=false:=by simpa using hk2
  have hU0:U=[]:=List.length_eq_zero_iff.1 (by omega)
  subst hU0
  have hcol:Gb qF t c=y:=by unfold Gb; rw [hR]; simp only [Pe]; exact hy.symm
  simp (maxSteps:=1000000) +contextual (disch:=first|with_reducible assumption|exact ⟨rfl⟩|exact ⟨rfl,rfl⟩|exact ⟨rfl,rfl,rfl⟩|(refine _root_.id ?_; kernel_rfl)|omega) only [evs,Ad,nth,put,putT,getT,Ai,Aj,Ab,aUn,outA,resA,mapO,Aq,Ar,w1,w2,w3,bots,cond_true,cond_false,if_true,if_false,ite_true,ite_false,reduceIte,reduceCtorEq,implies_true,Nat.reduceAdd,Nat.reduceSub,AV.int,AV.bool,AV.str,Nat.reduceBEq,Nat.reduceEqDiff,Nat.reduceMul,Nat.reduceLT,Nat.reduceLeDiff,Int.reduceNeg,BEq.rfl,beq_self_eq_true,tabl,cellsOf,fldA,ldA,stA,Bd,Bc,A2,A1,Ae,Af,Ac,List.take_left,List.take_length,Ao,Am,over,Ag,Value.oneCell',idxA,nilA,Aa,Ap,Ah,pure1,pure2,reps,chkA,tys,Tryz.results110,evt,Av,Au,Al,e0,e1,e4,e10,e11,e12,c1,htA,ho1,hE,hE2,hP,hTk,Dx,xfs,puQ,Adp,tkQ,Ba,Bq,ovQ]
  rw [hΦ,hcol]
  exact ⟨_,rfl⟩
end
end Go.Proofs.YtcjffhadclngmaaGreat
namespace Go.Proofs.YtcjffhadclngmaaGreat
open Go
theorem K5 {F:Fld} {row:List Q} {c i:Nat} : ∀ {l:List (List Q)} {k:Nat},(D6 F row c i k l).1.length=l.length
 | [],_=>rfl
 | r :: l,k=>by simp only [D6,List.length_cons,K5]
theorem P1 {F:Fld} {t:Tb} {i c:Nat} : (Hk F t i c).rows.length=t.rows.length:=by
 simp only [Hk,K5,Bm]
theorem Du (n:Int) (hn:i64 n):qF.ok (qF.whole n).1:=B7.whole n hn
theorem Yk {S:List Ent} {iq eq:Nat} {I:TI} {t:Tb} {cc:Cap} {c:Nat} (hT:Bi S iq eq I t cc):qF.ok (Gb qF t c).1:=by
 unfold Gb
 split
 ·rename_i i hi
  have hlt:=(Tw hi).2.1
  obtain ⟨r0,hr0⟩:=A6 (show i<t.rows.length by omega)
  have hrw:=hT.rowW r0 (Bj hr0)
  have hreal:=hT.real
  obtain ⟨z,hz⟩:=A6 (show t.cost.length - 1<r0.length by omega)
  simp only [Uf,Db hr0,Db hz]
  exact hT.okr r0 (Bj hr0) z (Bj hz)
 ·exact Du 0 (by unfold i64; omega)
section
variable (S:List Ent) (tk:List Nat) (k iq eq:Nat)
set_option maxHeartbeats 8000000 in
set_option maxRecDepth 100000 in
theorem Aew (I:TI) (t:Tb) (cc:Cap) (hT0:Bi S iq eq I t cc) :
  ∃ r,cL Tryz.prog 111 [.ref I.it I.et 0] S tk k=some r∧Nb S tk iq eq I (E3 qF t.rows.length 0 t) cc (.tup []) r:=by
 obtain ⟨Φ,hΦ⟩:∃ Φ,Φ=Nb S tk iq eq I (E3 qF t.rows.length 0 t) cc (.tup []):=⟨_,rfl⟩
 rw [← hΦ]
 have htop:=hT0.top
 have hM:=hT0.bigM
 obtain ⟨h,hh⟩:∃ h,h=hd0 I.ir I.er 1 t.rows.length:=⟨_,rfl⟩
 have hlen:lenV false true h=some (.int (t.rows.length:Nat)):=by
  rw [hh]
  cases t.rows.length with
  | zero=>rfl
  | succ n=>rfl
 rw [← hh] at htop
 refine Bv Tryz.func111 rfl rfl (by decide +kernel) Tryz.ntmps111 rfl ?_; rw [Bs]
 simp (maxSteps:=1000000) +contextual (disch:=first|with_reducible assumption|exact ⟨rfl⟩|exact ⟨rfl,rfl⟩|exact ⟨rfl,rfl,rfl⟩|(refine _root_.id ?_; kernel_rfl)|omega) only [evs,Ad,nth,put,putT,getT,Ai,Aj,Ab,aUn,outA,resA,mapO,Aq,Ar,w1,w2,w3,bots,cond_true,cond_false,if_true,if_false,ite_true,ite_false,reduceIte,reduceCtorEq,implies_true,Nat.reduceAdd,Nat.reduceSub,AV.int,AV.bool,AV.str,Nat.reduceBEq,Nat.reduceEqDiff,Nat.reduceMul,Nat.reduceLT,Nat.reduceLeDiff,Int.reduceNeg,BEq.rfl,beq_self_eq_true,tabl,cellsOf,fldA,ldA,stA,Bd,Bc,A2,A1,Ae,Af,Ac,List.take_left,List.take_length,Ao,Am,over,Ag,Value.oneCell',idxA,nilA,Aa,Ap,Ah,pure1,pure2,reps,chkA,tys,Tryz.results111,evt,Av,Au,Al,w2,w1,htop,hlen]
 refine Hs (P:=Tryz.prog) (fun x st=>st.T.length=55∧(x.2.2.1≤t.rows.length)∧(E3 qF t.rows.length 0 t=E3 qF (t.rows.length - x.2.2.1) x.2.2.1 x.2.2.2)∧(Bi x.1 iq eq I x.2.2.2 cc)∧(x.2.2.2.rows.length=t.rows.length)∧(x.1.length=S.length)∧(∀ v,OutQ I iq v→nth x.1 v=nth S v)∧getT st.T 0=.ref I.it I.et 0∧getT st.T 8=.int (t.rows.length:Nat)∧getT st.T 9=.int (x.2.2.1:Nat)∧st.S=x.1∧st.tk=tk∧st.n=x.2.1) (fun x=>t.rows.length - x.2.2.1) (S,k,0,t) ?_ ?_
 case refine_2=>exact ⟨rfl,Nat.zero_le _,rfl,hT0,rfl,rfl,fun j _=>rfl,rfl,rfl,rfl,rfl,rfl,rfl⟩
 rintro ⟨SS,n1,j,t1⟩ ⟨T,S',tk',n'⟩ ⟨hl,hj,hR,hT,hm,hLn,hfr,e0,e8,e9,eS,eT,eN⟩ IH
 simp only at hj hR hT hm hLn hfr e0 e8 e9 eS eT eN
 subst eS eT eN
 obtain ⟨g,hg,hT⟩:=Bp hl
 rw [hg] at e0 e8 e9
 subst hT
 clear hg hl
 have IHA:=IH
 clear IH
 have hfin:List.take S.length S'=S':=List.take_of_length_le (by omega)
 by_cases hjm:j<t.rows.length
 ·have c1:decide ((j:Int)<(t.rows.length:Int))=true:=by simpa using hjm
  have hw:IntKind.i64.wrap ((j:Int)+1)=((j+1:Nat):Int):=by rw [A0 (by unfold i64; omega)]; rfl
  have hm0:0<t1.rows.length:=by omega
  have hr0:t1.rows≠[]:=fun h0=>by rw [h0] at hm0; simp at hm0
  have ht1:=hT.top
  rw [Dj hm0,Dj hm0] at ht1
  have hbE:=hT.basisE hr0
  have hreal:=hT.real
  have hW:=hT.bigW
  have hjt:j<t1.rows.length:=by omega
  obtain ⟨bk,hbk⟩:=A6 (show j<t1.basis.length by rw [hT.nb]; exact hjt)
  have hbk2:nth (List.drop j (t1.basis.map intA)) 0=some (.prim (.int .i64 (bk:Int))):=Ev (by rw [Az] at hbk ⊢; rw [List.getElem?_map,hbk]; rfl)
  have hst:E3 qF (t.rows.length - j) j t1=E3 qF (t.rows.length - (j+1)) (j+1) (Gy qF t1 j):=by
   rw [show t.rows.length - j=(t.rows.length - (j+1))+1 by omega]; rfl
  rw [hst] at hR
  simp only [intA] at ht1
  by_cases hb:bk<t1.real
  ·have c2:decide ((bk:Int)<(t1.real:Int))=true:=by simpa using hb
   have hss:Gy qF t1 j=t1:=by unfold Gy; rw [Db hbk,if_pos hb]
   rw [hss] at hR
   simp (maxSteps:=1000000) +contextual (disch:=first|with_reducible assumption|exact ⟨rfl⟩|exact ⟨rfl,rfl⟩|exact ⟨rfl,rfl,rfl⟩|(refine _root_.id ?_; kernel_rfl)|omega) only [evs,Ad,nth,put,putT,getT,Ai,Aj,Ab,aUn,outA,resA,mapO,Aq,Ar,w1,w2,w3,bots,cond_true,cond_false,if_true,if_false,ite_true,ite_false,reduceIte,reduceCtorEq,implies_true,Nat.reduceAdd,Nat.reduceSub,AV.int,AV.bool,AV.str,Nat.reduceBEq,Nat.reduceEqDiff,Nat.reduceMul,Nat.reduceLT,Nat.reduceLeDiff,Int.reduceNeg,BEq.rfl,beq_self_eq_true,tabl,cellsOf,fldA,ldA,stA,Bd,Bc,A2,A1,Ae,Af,Ac,List.take_left,List.take_length,Ao,Am,over,Ag,Value.oneCell',idxA,nilA,Aa,Ap,Ah,pure1,pure2,reps,chkA,tys,Tryz.results111,evt,Av,Au,Al,e0,e8,e9,c1,c2,hw,ht1,hbE,hbk2,hjt,Nat.mul_one]
   exact IHA (S',n',j+1,t1) _ (by first|omega|(simp only; omega)) ⟨rfl,by first|omega|(dsimp only; omega),hR,hT,hm,hLn,hfr,by and_intros <;> first|rfl|simp only [getT,List.map_append]⟩
  ·have c2:decide ((bk:Int)<(t1.real:Int))=false:=by simpa using hb
   obtain ⟨pk,hpk⟩:=A6 (show j<I.ids.length by rw [hT.nids]; exact hjt)
   have hixk:nth (List.drop j (I.ids.map (hdr t1.cost.length 2))) 0=some (.sref pk.1 pk.2 0 t1.cost.length 2):=Ev (by rw [Az] at hpk ⊢; rw [List.getElem?_map,hpk]; rfl)
   obtain ⟨r0,hrk⟩:=A6 hjt
   have hrw:=hT.rowW r0 (Bj hrk)
   have hro:=hT.okr r0 (Bj hrk)
   have hrE:=hT.rowsE hr0
   have hrk1:=hT.rowE j pk r0 hpk hrk
   have hss:Gy qF t1 j=match nzF r0 t1.real 0 with|some k=>Hk qF t1 j k|none=>t1:=by unfold Gy; rw [Db hbk,if_neg hb]; simp only [Uf,Db hrk]; cases nzF r0 t1.real 0 <;> rfl
   simp (maxSteps:=1000000) +contextual (disch:=first|with_reducible assumption|exact ⟨rfl⟩|exact ⟨rfl,rfl⟩|exact ⟨rfl,rfl,rfl⟩|(refine _root_.id ?_; kernel_rfl)|omega) only [evs,Ad,nth,put,putT,getT,Ai,Aj,Ab,aUn,outA,resA,mapO,Aq,Ar,w1,w2,w3,bots,cond_true,cond_false,if_true,if_false,ite_true,ite_false,reduceIte,reduceCtorEq,implies_true,Nat.reduceAdd,Nat.reduceSub,AV.int,AV.bool,AV.str,Nat.reduceBEq,Nat.reduceEqDiff,Nat.reduceMul,Nat.reduceLT,Nat.reduceLeDiff,Int.reduceNeg,BEq.rfl,beq_self_eq_true,tabl,cellsOf,fldA,ldA,stA,Bd,Bc,A2,A1,Ae,Af,Ac,List.take_left,List.take_length,Ao,Am,over,Ag,Value.oneCell',idxA,nilA,Aa,Ap,Ah,pure1,pure2,reps,chkA,tys,Tryz.results111,evt,Av,Au,Al,e0,e8,e9,c1,c2,hw,ht1,hbE,hbk2,hjt,Nat.mul_one]
   refine Hs (P:=Tryz.prog) (fun x st=>st.T.length=55∧(x.2≤t1.real)∧(nzF r0 t1.real 0=nzF r0 (t1.real - x.2) x.2)∧getT st.T 0=.ref I.it I.et 0∧getT st.T 2=.int (j:Nat)∧getT st.T 8=.int (t.rows.length:Nat)∧getT st.T 9=.int (j:Nat)∧getT st.T 27=.int (t1.real:Nat)∧getT st.T 28=.int (x.2:Nat)∧st.S=S'∧st.tk=tk'∧st.n=x.1) (fun x=>t1.real - x.2) (n',0) ?_ ?_
   case refine_2=>exact ⟨rfl,Nat.zero_le _,rfl,rfl,rfl,rfl,rfl,rfl,rfl,rfl,rfl,rfl⟩
   rintro ⟨n2,q⟩ ⟨T,S',tk',n'⟩ ⟨hl,hq,hz,e0,e2,e8,e9,e27,e28,eS,eT,eN⟩ IH
   simp only at hq hz e0 e2 e8 e9 e27 e28 eS eT eN
   subst eS eT eN
   obtain ⟨g,hg,hT⟩:=Bp hl
   rw [hg] at e0 e2 e8 e9 e27 e28
   subst hT
   clear hg hl
   have hcut:List.take S'.length S'=S':=List.take_of_length_le (Nat.le_refl _)
   by_cases hqr:q<t1.real
   ·have c3:decide ((q:Int)<(t1.real:Int))=true:=by simpa using hqr
    have hw3:IntKind.i64.wrap ((q:Int)+1)=((q+1:Nat):Int):=by rw [A0 (by unfold i64; omega)]; rfl
    have hqc:q<t1.cost.length:=by omega
    obtain ⟨x,hx⟩:=A6 (show q<r0.length by omega)
    have ox:=hro x (Bj hx)
    have hxt:=Bu (ce:=ceQ) Ba hx
    have hs:=Ud S' tk' n' iq eq t1.fl x ox hT.fa
    have hcu:nzF r0 (t1.real - q) q=if sgn x=0 then nzF r0 (t1.real - (q+1)) (q+1) else some q:=by
     rw [show t1.real - q=(t1.real - (q+1))+1 by omega]
     simp only [nzF,Db hx]
    by_cases h0:sgn x=0
    ·have c4:(sgn x != 0)=false:=by simpa using h0
     rw [hcu,if_pos h0] at hz
     simp (maxSteps:=1000000) +contextual (disch:=first|with_reducible assumption|exact ⟨rfl⟩|exact ⟨rfl,rfl⟩|exact ⟨rfl,rfl,rfl⟩|(refine _root_.id ?_; kernel_rfl)|omega) only [evs,Ad,nth,put,putT,getT,Ai,Aj,Ab,aUn,outA,resA,mapO,Aq,Ar,w1,w2,w3,bots,cond_true,cond_false,if_true,if_false,ite_true,ite_false,reduceIte,reduceCtorEq,implies_true,Nat.reduceAdd,Nat.reduceSub,AV.int,AV.bool,AV.str,Nat.reduceBEq,Nat.reduceEqDiff,Nat.reduceMul,Nat.reduceLT,Nat.reduceLeDiff,Int.reduceNeg,BEq.rfl,beq_self_eq_true,tabl,cellsOf,fldA,ldA,stA,Bd,Bc,A2,A1,Ae,Af,Ac,List.take_left,List.take_length,Ao,Am,over,Ag,Value.oneCell',idxA,nilA,Aa,Ap,Ah,pure1,pure2,reps,chkA,tys,Tryz.results111,evt,Av,Au,Al,e0,e2,e8,e9,e27,e28,c3,c4,hw3,ht1,hrE,hixk,hrk1,hxt,hjt,hqc,hs,Dx,xfs,puQ,tkQ,Nat.mul_one]
     exact IH (n'+1,q+1) _ (by first|omega|(simp only; omega)) ⟨rfl,by first|omega|(dsimp only; omega),hz,by and_intros <;> first|rfl|simp only [getT,List.map_append]⟩
    ·have c4:(sgn x != 0)=true:=by simpa using h0
     rw [hcu,if_neg h0] at hz
     rw [hz] at hss
     simp only at hss
     rw [hss] at hR
     obtain ⟨r,hpv,S3,k3,rfl,hl3,hT3,hf3⟩:=Ad3 S' tk' (n'+1) iq eq I _ cc j q hT hjt hqc
     have hcut3:List.take S'.length S3=S3:=List.take_of_length_le (by omega)
     simp (maxSteps:=1000000) +contextual (disch:=first|with_reducible assumption|exact ⟨rfl⟩|exact ⟨rfl,rfl⟩|exact ⟨rfl,rfl,rfl⟩|(refine _root_.id ?_; kernel_rfl)|omega) only [evs,Ad,nth,put,putT,getT,Ai,Aj,Ab,aUn,outA,resA,mapO,Aq,Ar,w1,w2,w3,bots,cond_true,cond_false,if_true,if_false,ite_true,ite_false,reduceIte,reduceCtorEq,implies_true,Nat.reduceAdd,Nat.reduceSub,AV.int,AV.bool,AV.str,Nat.reduceBEq,Nat.reduceEqDiff,Nat.reduceMul,Nat.reduceLT,Nat.reduceLeDiff,Int.reduceNeg,BEq.rfl,beq_self_eq_true,tabl,cellsOf,fldA,ldA,stA,Bd,Bc,A2,A1,Ae,Af,Ac,List.take_left,List.take_length,Ao,Am,over,Ag,Value.oneCell',idxA,nilA,Aa,Ap,Ah,pure1,pure2,reps,chkA,tys,Tryz.results111,evt,Av,Au,Al,e0,e2,e8,e9,e27,e28,c3,c4,hw,ht1,hrE,hixk,hrk1,hxt,hjt,hqc,hs,hpv,hcut3,Dx,xfs,puQ,tkQ,Nat.mul_one]
     exact IHA (S3,k3,j+1,Hk qF t1 j q) _ (by first|omega|(simp only; omega)) ⟨rfl,by first|omega|(dsimp only; omega),hR,hT3,by simp only [P1]; exact hm,by first|omega|(dsimp only; omega),fun j hj=>by rw [hf3 j hj]; exact hfr j hj,by and_intros <;> first|rfl|simp only [getT,List.map_append]⟩
   ·have c3:decide ((q:Int)<(t1.real:Int))=false:=by simpa using hqr
    have hq2:t1.real - q=0:=by omega
    rw [hz,hq2] at hss
    simp only [nzF] at hss
    rw [hss] at hR
    simp (maxSteps:=1000000) +contextual (disch:=first|with_reducible assumption|exact ⟨rfl⟩|exact ⟨rfl,rfl⟩|exact ⟨rfl,rfl,rfl⟩|(refine _root_.id ?_; kernel_rfl)|omega) only [evs,Ad,nth,put,putT,getT,Ai,Aj,Ab,aUn,outA,resA,mapO,Aq,Ar,w1,w2,w3,bots,cond_true,cond_false,if_true,if_false,ite_true,ite_false,reduceIte,reduceCtorEq,implies_true,Nat.reduceAdd,Nat.reduceSub,AV.int,AV.bool,AV.str,Nat.reduceBEq,Nat.reduceEqDiff,Nat.reduceMul,Nat.reduceLT,Nat.reduceLeDiff,Int.reduceNeg,BEq.rfl,beq_self_eq_true,tabl,cellsOf,fldA,ldA,stA,Bd,Bc,A2,A1,Ae,Af,Ac,List.take_left,List.take_length,Ao,Am,over,Ag,Value.oneCell',idxA,nilA,Aa,Ap,Ah,pure1,pure2,reps,chkA,tys,Tryz.results111,evt,Av,Au,Al,e0,e2,e8,e9,e27,e28,c3,hw,hcut]
    exact IHA (S',n',j+1,t1) _ (by first|omega|(simp only; omega)) ⟨rfl,by first|omega|(dsimp only; omega),hR,hT,hm,hLn,hfr,by and_intros <;> first|rfl|simp only [getT,List.map_append]⟩
 ·have c1:decide ((j:Int)<(t.rows.length:Int))=false:=by simpa using hjm
  have hj2:t.rows.length - j=0:=by omega
  rw [hj2] at hR
  simp only [E3] at hR
  simp (maxSteps:=1000000) +contextual (disch:=first|with_reducible assumption|exact ⟨rfl⟩|exact ⟨rfl,rfl⟩|exact ⟨rfl,rfl,rfl⟩|(refine _root_.id ?_; kernel_rfl)|omega) only [evs,Ad,nth,put,putT,getT,Ai,Aj,Ab,aUn,outA,resA,mapO,Aq,Ar,w1,w2,w3,bots,cond_true,cond_false,if_true,if_false,ite_true,ite_false,reduceIte,reduceCtorEq,implies_true,Nat.reduceAdd,Nat.reduceSub,AV.int,AV.bool,AV.str,Nat.reduceBEq,Nat.reduceEqDiff,Nat.reduceMul,Nat.reduceLT,Nat.reduceLeDiff,Int.reduceNeg,BEq.rfl,beq_self_eq_true,tabl,cellsOf,fldA,ldA,stA,Bd,Bc,A2,A1,Ae,Af,Ac,List.take_left,List.take_length,Ao,Am,over,Ag,Value.oneCell',idxA,nilA,Aa,Ap,Ah,pure1,pure2,reps,chkA,tys,Tryz.results111,evt,Av,Au,Al,e0,e8,e9,c1]
  rw [hΦ,hR,hfin]
  exact ⟨S',n',rfl,hLn,hT,hfr⟩
end
end Go.Proofs.YtcjffhadclngmaaGreat
namespace Go.Proofs.YtcjffhadclngmaaGreat
open Go
def Hf (l:List Q):List (List AV):=l.map fun q=>ceW (qF.rat q)
theorem W2 (l:List Q):D2 4 (Hf l)=true:=by unfold Hf; exact Hv (sz:=4) (f:=fun q=>ceW (qF.rat q)) (fun _=>rfl) l
def Ac5 (S:List Ent) (iq eq:Nat) (I:TI) (t':Tb) (cc:Cap) (l:List Q) (r:Rs):Prop :=
 ∃ S' k' tk' c,r=(.frz (Hf l) c,S',tk',k')∧S'.length=S.length∧Bi S' iq eq I t' cc∧∀ j,OutQ I iq j→nth S' j=nth S j
section
variable (S:List Ent) (tk:List Nat) (k iq eq:Nat)
set_option maxHeartbeats 8000000 in
set_option maxRecDepth 100000 in
theorem Adq (I:TI) (t:Tb) (cc:Cap) (hT0:Bi S iq eq I t cc) (hv:2*t.vars≤t.real) :
  ∃ r,cL Tryz.prog 85 [.ref I.it I.et 0] S tk k=some r∧Ac5 S iq eq I { t with fl:=Bool.or t.fl (Eb qF t).2 } cc (Eb qF t).1 r:=by
 obtain ⟨Φ,hΦ⟩:∃ Φ,Φ=Ac5 S iq eq I { t with fl:=Bool.or t.fl (Eb qF t).2 } cc (Eb qF t).1:=⟨_,rfl⟩
 rw [← hΦ]
 have htop:=hT0.top
 have hW:=hT0.bigW
 have hreal:=hT0.real
 simp only [intA] at htop
 refine Bv Tryz.func85 rfl rfl (by decide +kernel) Tryz.ntmps85 rfl ?_; rw [Bs]
 simp (maxSteps:=1000000) +contextual (disch:=first|with_reducible assumption|exact ⟨rfl⟩|exact ⟨rfl,rfl⟩|exact ⟨rfl,rfl,rfl⟩|(refine _root_.id ?_; kernel_rfl)|omega) only [evs,Ad,nth,put,putT,getT,Ai,Aj,Ab,aUn,outA,resA,mapO,Aq,Ar,w1,w2,w3,bots,cond_true,cond_false,if_true,if_false,ite_true,ite_false,reduceIte,reduceCtorEq,implies_true,Nat.reduceAdd,Nat.reduceSub,AV.int,AV.bool,AV.str,Nat.reduceBEq,Nat.reduceEqDiff,Nat.reduceMul,Nat.reduceLT,Nat.reduceLeDiff,Int.reduceNeg,BEq.rfl,beq_self_eq_true,tabl,cellsOf,fldA,ldA,stA,Bd,Bc,A2,A1,Ae,Af,Ac,List.take_left,List.take_length,Ao,Am,over,Ag,Value.oneCell',idxA,nilA,Aa,Ap,Ah,pure1,pure2,reps,chkA,tys,Tryz.results85,evt,Av,Au,Al,w2,w1,htop]
 refine Hs (P:=Tryz.prog) (fun x st=>st.T.length=40∧(x.2.2.2.2.1≤t.vars)∧(Eb qF t=(x.2.2.2.2.2.1++(H1 (ptF qF t) (t.vars - x.2.2.2.2.1) x.2.2.2.2.1).1,Bool.or x.2.2.2.2.2.2 (H1 (ptF qF t) (t.vars - x.2.2.2.2.1) x.2.2.2.2.1).2))∧(x.2.2.2.2.2.1.length=x.2.2.2.2.1)∧(Bx x.2.2.1 x.2.2.2.1 4=true)∧(Bi x.1 iq eq I { t with fl:=Bool.or t.fl x.2.2.2.2.2.2 } cc)∧(x.1.length=S.length)∧(∀ v,OutQ I iq v→nth x.1 v=nth S v)∧getT st.T 0=.ref I.it I.et 0∧getT st.T 3=.frz (Hf x.2.2.2.2.2.1) x.2.2.2.1∧getT st.T 8=.int (t.vars:Nat)∧getT st.T 9=.int (x.2.2.2.2.1:Nat)∧st.S=x.1∧st.tk=x.2.2.1∧st.n=x.2.1) (fun x=>t.vars - x.2.2.2.2.1) (S,k,tk,Cap.nilc,0,([]:List Q),false) ?_ ?_
 case refine_2=>exact ⟨rfl,Nat.zero_le _,by simp [Eb],rfl,rfl,by simp only [Bool.or_false]; exact hT0,rfl,fun j _=>rfl,rfl,rfl,rfl,rfl,rfl,rfl,rfl⟩
 rintro ⟨SS,n1,tk1,cp,j,out,fq⟩ ⟨T,S',tk',n'⟩ ⟨hl,hj,hR,hol,hok,hT,hLn,hfr,e0,e3,e8,e9,eS,eT,eN⟩ IH
 simp only at hj hR hol hok hT hLn hfr e0 e3 e8 e9 eS eT eN
 subst eS eT eN
 obtain ⟨g,hg,hT⟩:=Bp hl
 rw [hg] at e0 e3 e8 e9
 subst hT
 clear hg hl
 have hfin:List.take S.length S'=S':=List.take_of_length_le (by omega)
 by_cases hjv:j<t.vars
 ·have c1:decide ((j:Int)<(t.vars:Int))=true:=by simpa using hjv
  have hw:IntKind.i64.wrap ((j:Int)+1)=((j+1:Nat):Int):=by rw [A0 (by unfold i64; omega)]; rfl
  have hwm:IntKind.i64.wrap (2*(j:Int))=((2*j:Nat):Int):=by rw [A0 (by unfold i64; omega)]; rfl
  have hwm1:IntKind.i64.wrap (((2*j:Nat):Int)+1)=((2*j+1:Nat):Int):=by rw [A0 (by unfold i64; omega)]; rfl
  have ht1:=hT.top
  obtain ⟨a,ha⟩:∃ a,a=Gb qF t (2*j):=⟨_,rfl⟩
  obtain ⟨b,hb⟩:∃ b,b=Gb qF t (2*j+1):=⟨_,rfl⟩
  obtain ⟨d,hd⟩:∃ d,d=qF.minus a.1 b.1:=⟨_,rfl⟩
  have oa:qF.ok a.1:=by rw [ha]; exact Yk hT0
  have ob:qF.ok b.1:=by rw [hb]; exact Yk hT0
  have od:qF.ok d.1:=by rw [hd]; exact B7.minus _ _ oa ob
  obtain ⟨r,hca,k1,rfl⟩:=Zc S' tk' n' iq eq I _ cc (2*j) hT
  have ea:Gb qF { t with fl:=Bool.or t.fl fq } (2*j)=a:=ha.symm
  rw [ea] at hca
  have hg1:=D1 (c:=a.2) hT.fa
  have hf1:=hT.fa.fS (c:=a.2)
  obtain ⟨S1,hS1⟩:∃ S1,S1=flS S' iq eq a.2:=⟨_,rfl⟩
  have hT1:=hT.flag (S':=flS S' iq eq a.2) (fun j hj=>Bg hj) hf1
  rw [← hS1] at hca hg1 hf1 hT1
  obtain ⟨r,hcb,k2,rfl⟩:=Zc S1 tk' k1 iq eq I _ cc (2*j+1) hT1
  have eb:Gb qF { t with fl:=Bool.or (Bool.or t.fl fq) a.2 } (2*j+1)=b:=hb.symm
  rw [eb] at hcb
  have hg2:=D1 (c:=b.2) hf1
  have hf2:=hf1.fS (c:=b.2)
  obtain ⟨S2,hS2⟩:∃ S2,S2=flS S1 iq eq b.2:=⟨_,rfl⟩
  rw [← hS2] at hcb hg2 hf2
  have hm:=Jk S2 tk' k2 iq eq _ a.1 b.1 oa ob hf2
  rw [← hd] at hm
  have hg3:=D1 (c:=d.2) hf2
  have hf3:=hf2.fS (c:=d.2)
  obtain ⟨S3,hS3⟩:∃ S3,S3=flS S2 iq eq d.2:=⟨_,rfl⟩
  rw [← hS3] at hm hg3 hf3
  have hr:=Lb S3 tk' (k2+4) iq eq _ d.1 od hf3
  have hn3:∀ v,v≠iq→nth S3 v=nth S' v:=fun v hv=>by rw [hS3,Bg hv,hS2,Bg hv,hS1,Bg hv]
  have hl3:S3.length=S'.length:=by rw [hS3,Bo,hS2,Bo,hS1,Bo]
  have ht3a:Ak S1 I.it I.et=_:=hT1.top
  have hpt:ptF qF t j=(d.1,Bool.or (Bool.or a.2 b.2) d.2):=by rw [hd,hb,ha]; rfl
  have hlst:H1 (ptF qF t) (t.vars - j) j=(d.1 :: (H1 (ptF qF t) (t.vars - (j+1)) (j+1)).1,Bool.or (Bool.or (Bool.or a.2 b.2) d.2) (H1 (ptF qF t) (t.vars - (j+1)) (j+1)).2):=by
   rw [show t.vars - j=(t.vars - (j+1))+1 by omega]
   simp only [H1,hpt]
  have hrl:=W2 out
  have hll:(Hf out).length+1≤1048576:=by unfold Hf; rw [List.length_map]; omega
  have hle:Hf (out++[d.1])=Hf out++[ceW (qF.rat d.1)]:=by unfold Hf; simp
  have hap:=apB_one (y:=ceW (qF.rat d.1)) hok hrl rfl hll
  have hok2:=Es hok
  have hcut3:List.take S'.length S3=S3:=List.take_of_length_le (by omega)
  simp (maxSteps:=1000000) +contextual (disch:=first|with_reducible assumption|exact ⟨rfl⟩|exact ⟨rfl,rfl⟩|exact ⟨rfl,rfl,rfl⟩|(refine _root_.id ?_; kernel_rfl)|omega) only [evs,Ad,nth,put,putT,getT,Ai,Aj,Ab,aUn,outA,resA,mapO,Aq,Ar,w1,w2,w3,bots,cond_true,cond_false,if_true,if_false,ite_true,ite_false,reduceIte,reduceCtorEq,implies_true,Nat.reduceAdd,Nat.reduceSub,AV.int,AV.bool,AV.str,Nat.reduceBEq,Nat.reduceEqDiff,Nat.reduceMul,Nat.reduceLT,Nat.reduceLeDiff,Int.reduceNeg,BEq.rfl,beq_self_eq_true,tabl,cellsOf,fldA,ldA,stA,Bd,Bc,A2,A1,Ae,Af,Ac,List.take_left,List.take_length,Ao,Am,over,Ag,Value.oneCell',idxA,nilA,Aa,Ap,Ah,pure1,pure2,reps,chkA,tys,Tryz.results85,evt,Av,Au,Al,e0,e3,e8,e9,c1,hw,hwm,hwm1,ht1,hca,hcb,hm,hr,hg1,hg2,hg3,hap,hcut3,Dx,xfs,puQ,tkQ,L0,J5,V9,Abb]
  have hT3:=hT.flag (S':=S3) hn3 hf3
  exact IH (S3,k2+4+3,Hi tk' cp,D3 tk' cp 4,j+1,out++[d.1],Bool.or fq (Bool.or (Bool.or a.2 b.2) d.2)) _ (by first|omega|(simp only; omega)) ⟨rfl,by first|omega|(dsimp only; omega),by rw [hR,hlst]; simp only [List.append_assoc,List.cons_append,List.nil_append,Bool.or_assoc],by simp [hol],hok2,by simpa only [Bool.or_assoc] using hT3,by first|omega|(dsimp only; omega),fun v hv=>by rw [hn3 v hv.1]; exact hfr v hv,by and_intros <;> first|rfl|simp only [getT,Hf,List.map_append,List.map_cons,List.map_nil]⟩
 ·have c1:decide ((j:Int)<(t.vars:Int))=false:=by simpa using hjv
  have hj2:t.vars - j=0:=by omega
  rw [hj2] at hR
  simp only [H1,List.append_nil,Bool.or_false] at hR
  simp (maxSteps:=1000000) +contextual (disch:=first|with_reducible assumption|exact ⟨rfl⟩|exact ⟨rfl,rfl⟩|exact ⟨rfl,rfl,rfl⟩|(refine _root_.id ?_; kernel_rfl)|omega) only [evs,Ad,nth,put,putT,getT,Ai,Aj,Ab,aUn,outA,resA,mapO,Aq,Ar,w1,w2,w3,bots,cond_true,cond_false,if_true,if_false,ite_true,ite_false,reduceIte,reduceCtorEq,implies_true,Nat.reduceAdd,Nat.reduceSub,AV.int,AV.bool,AV.str,Nat.reduceBEq,Nat.reduceEqDiff,Nat.reduceMul,Nat.reduceLT,Nat.reduceLeDiff,Int.reduceNeg,BEq.rfl,beq_self_eq_true,tabl,cellsOf,fldA,ldA,stA,Bd,Bc,A2,A1,Ae,Af,Ac,List.take_left,List.take_length,Ao,Am,over,Ag,Value.oneCell',idxA,nilA,Aa,Ap,Ah,pure1,pure2,reps,chkA,tys,Tryz.results85,evt,Av,Au,Al,e0,e3,e8,e9,c1]
  rw [hΦ,hR,hfin]
  exact ⟨S',n',tk',cp,rfl,hLn,hT,hfr⟩
set_option maxHeartbeats 8000000 in
set_option maxRecDepth 100000 in
theorem Ma (I:TI) (t:Tb) (cc:Cap) (hT0:Bi S iq eq I t cc) (hv:t.real+t.rows.length<t.cost.length) :
  ∃ r,cL Tryz.prog 84 [.ref I.it I.et 0] S tk k=some r∧Ac5 S iq eq I { t with fl:=Bool.or t.fl (Kg qF t).2 } cc (Kg qF t).1 r:=by
 obtain ⟨Φ,hΦ⟩:∃ Φ,Φ=Ac5 S iq eq I { t with fl:=Bool.or t.fl (Kg qF t).2 } cc (Kg qF t).1:=⟨_,rfl⟩
 rw [← hΦ]
 have htop:=hT0.top
 have hW:=hT0.bigW
 have hM:=hT0.bigM
 have hreal:=hT0.real
 have hlow:=hT0.low
 obtain ⟨one,hone⟩:∃ one,one=qF.whole 1:=⟨_,rfl⟩
 obtain ⟨z0,hz0⟩:∃ z0,z0=qF.whole 0:=⟨_,rfl⟩
 have o1:qF.ok one.1:=by rw [hone]; exact Du 1 (by unfold i64; omega)
 have o0:qF.ok z0.1:=by rw [hz0]; exact Du 0 (by unfold i64; omega)
 have hw1:=Hl S tk k iq eq t.fl 1 (by unfold i64; omega) hT0.fa
 rw [← hone] at hw1
 have hf1:=hT0.fa.fS (c:=one.2)
 obtain ⟨S1,hS1⟩:∃ S1,S1=flS S iq eq one.2:=⟨_,rfl⟩
 have hT1:=hT0.flag (S':=flS S iq eq one.2) (fun j hj=>Bg hj) hf1
 have hl1:(flS S iq eq one.2).length=S.length:=Bo
 have hn1:∀ v,v≠iq→nth (flS S iq eq one.2) v=nth S v:=fun v hv=>Bg hv
 rw [← hS1] at hw1 hf1 hT1 hl1 hn1
 obtain ⟨h,hh⟩:∃ h,h=hd0 I.ir I.er 1 t.rows.length:=⟨_,rfl⟩
 have hlen:lenV false true h=some (.int (t.rows.length:Nat)):=by
  rw [hh]
  cases t.rows.length with
  | zero=>rfl
  | succ n=>rfl
 rw [← hh] at htop
 have ht1:Ak (S1++[⟨k+1,ceQ one.1⟩]) I.it I.et=_:=Ax hT1.top
 simp only at ht1
 rw [← hh] at ht1
 refine Bv Tryz.func84 rfl rfl (by decide +kernel) Tryz.ntmps84 rfl ?_; rw [Bs]
 simp (maxSteps:=1000000) +contextual (disch:=first|with_reducible assumption|exact ⟨rfl⟩|exact ⟨rfl,rfl⟩|exact ⟨rfl,rfl,rfl⟩|(refine _root_.id ?_; kernel_rfl)|omega) only [evs,Ad,nth,put,putT,getT,Ai,Aj,Ab,aUn,outA,resA,mapO,Aq,Ar,w1,w2,w3,bots,cond_true,cond_false,if_true,if_false,ite_true,ite_false,reduceIte,reduceCtorEq,implies_true,Nat.reduceAdd,Nat.reduceSub,AV.int,AV.bool,AV.str,Nat.reduceBEq,Nat.reduceEqDiff,Nat.reduceMul,Nat.reduceLT,Nat.reduceLeDiff,Int.reduceNeg,BEq.rfl,beq_self_eq_true,tabl,cellsOf,fldA,ldA,stA,Bd,Bc,A2,A1,Ae,Af,Ac,List.take_left,List.take_length,Ao,Am,over,Ag,Value.oneCell',idxA,nilA,Aa,Ap,Ah,pure1,pure2,reps,chkA,tys,Tryz.results84,evt,Av,Au,Al,w2,w1,htop,hw1,ht1,hlen,Dx,xfs,puQ,Ba,Bq,ovQ]
 rw [hl1]
 refine Hs (P:=Tryz.prog) (fun x st=>st.T.length=71∧(x.2.2.2.2.1≤t.rows.length)∧(H1 (mulF qF t) t.rows.length 0=(x.2.2.2.2.2.1++(H1 (mulF qF t) (t.rows.length - x.2.2.2.2.1) x.2.2.2.2.1).1,Bool.or x.2.2.2.2.2.2 (H1 (mulF qF t) (t.rows.length - x.2.2.2.2.1) x.2.2.2.2.1).2))∧(x.2.2.2.2.2.1.length=x.2.2.2.2.1)∧(Bx x.2.2.1 x.2.2.2.1 4=true)∧(Bi x.1 iq eq I { t with fl:=Bool.or (Bool.or t.fl one.2) x.2.2.2.2.2.2 } cc)∧(x.1.length=S.length+1)∧(∀ v,v<S.length→OutQ I iq v→nth x.1 v=nth S v)∧(Ak x.1 S.length (k+1)=some (ceQ one.1))∧getT st.T 0=.ref I.it I.et 0∧getT st.T 3=.frz (Hf x.2.2.2.2.2.1) x.2.2.2.1∧getT st.T 4=.ref S.length (k+1) 0∧getT st.T 16=.int (t.rows.length:Nat)∧getT st.T 17=.int (x.2.2.2.2.1:Nat)∧st.S=x.1∧st.tk=x.2.2.1∧st.n=x.2.1) (fun x=>t.rows.length - x.2.2.2.2.1) ((S1++[⟨k+1,ceQ one.1⟩]),(k+1+1),tk,Cap.nilc,0,([]:List Q),false) ?_ ?_
 case refine_2=>exact ⟨rfl,Nat.zero_le _,by simp,rfl,rfl,by simp only [Bool.or_false]; exact hT1.app _,by simp [hl1],fun v hv ho=>by rw [Da (by omega)]; exact hn1 v ho.1,Be hl1,rfl,rfl,rfl,rfl,rfl,rfl,rfl,rfl⟩
 rintro ⟨SS,n1,tk1,cp,j,out,fq⟩ ⟨T,S',tk',n'⟩ ⟨hl,hj,hR,hol,hok,hT,hLn,hfr,hoE,e0,e3,e4,e16,e17,eS,eT,eN⟩ IH
 simp only at hj hR hol hok hT hLn hfr hoE e0 e3 e4 e16 e17 eS eT eN
 subst eS eT eN
 obtain ⟨g,hg,hT⟩:=Bp hl
 rw [hg] at e0 e3 e4 e16 e17
 subst hT
 clear hg hl
 by_cases hjm:j<t.rows.length
 ·have c1:decide ((j:Int)<(t.rows.length:Int))=true:=by simpa using hjm
  have hw:IntKind.i64.wrap ((j:Int)+1)=((j+1:Nat):Int):=by rw [A0 (by unfold i64; omega)]; rfl
  have hwr:IntKind.i64.wrap ((t.real:Int)+(j:Int))=((t.real+j:Nat):Int):=by rw [A0 (by unfold i64; omega)]; rfl
  have hrc:t.real+j<t.cost.length:=by omega
  have htj:=hT.top
  simp only [intA] at htj
  have hcE:=hT.costE
  obtain ⟨x,hx⟩:=A6 hrc
  have ox:=hT0.okc x (Bj hx)
  have hxt:=Bu (ce:=ceQ) Ba hx
  obtain ⟨y,hy⟩:∃ y,y=qF.minus x one.1:=⟨_,rfl⟩
  have oy:qF.ok y.1:=by rw [hy]; exact B7.minus _ _ ox o1
  have hm1:=Jk S' tk' n' iq eq (Bool.or (Bool.or t.fl one.2) fq) x one.1 ox o1 hT.fa
  rw [← hy] at hm1
  have hg1:=D1 (c:=y.2) hT.fa
  have hf2:=hT.fa.fS (c:=y.2)
  obtain ⟨S2,hS2⟩:∃ S2,S2=flS S' iq eq y.2:=⟨_,rfl⟩
  have hT2:=hT.flag (S':=flS S' iq eq y.2) (fun j hj=>Bg hj) hf2
  have hl2:(flS S' iq eq y.2).length=S'.length:=Bo
  have hn2:∀ v,v≠iq→nth (flS S' iq eq y.2) v=nth S' v:=fun v hv=>Bg hv
  have hn2S:nth S2 S.length=nth S' S.length:=by rw [hS2]; exact Bg (by have:=hlow.iq; omega)
  rw [← hS2] at hm1 hg1 hf2 hT2 hl2 hn2
  obtain ⟨n2,hn2e⟩:∃ n2,n2=n'+4:=⟨_,rfl⟩
  rw [← hn2e] at hm1
  have hE1:Ak (S2++[⟨n2,ceQ y.1⟩]) S2.length n2=some (ceQ y.1):=Ae
  obtain ⟨bf,hbf⟩:=A6 (show j<t.flip.length by rw [hT0.nf]; exact hjm)
  have hbf2:nth (t.flip.map Hq) j=some [.prim (.bool bf)]:=by rw [Az] at hbf ⊢; rw [List.getElem?_map,hbf]; rfl
  have hT2a:=hT2.app [⟨n2,ceQ y.1⟩]
  have ht2:=hT2a.top
  simp only [intA] at ht2
  have hmul:∀ v,mulF qF t j=v→H1 (mulF qF t) (t.rows.length - j) j=(v.1 :: (H1 (mulF qF t) (t.rows.length - (j+1)) (j+1)).1,Bool.or v.2 (H1 (mulF qF t) (t.rows.length - (j+1)) (j+1)).2):=by
   intro v hv
   rw [show t.rows.length - j=(t.rows.length - (j+1))+1 by omega]
   simp only [H1,hv]
  have hrl:=W2 out
  have hll:(Hf out).length+1≤1048576:=by unfold Hf; rw [List.length_map]; omega
  have hok2:=Es hok
  cases bf with
  | false =>
   have hme:mulF qF t j=y:=by
    unfold mulF
    rw [Db hx,Db hbf,← hone,← hy]; rfl
   have hr:=Lb (S2++[⟨n2,ceQ y.1⟩]) tk' (n2+1) iq eq _ y.1 oy hT2a.fa
   have hap:=apB_one (y:=ceW (qF.rat y.1)) hok hrl rfl hll
   have hcut:List.take S'.length (S2++[⟨n2,ceQ y.1⟩])=S2:=by rw [← hl2]; simp
   simp (maxSteps:=1000000) +contextual (disch:=first|with_reducible assumption|exact ⟨rfl⟩|exact ⟨rfl,rfl⟩|exact ⟨rfl,rfl,rfl⟩|(refine _root_.id ?_; kernel_rfl)|omega) only [evs,Ad,nth,put,putT,getT,Ai,Aj,Ab,aUn,outA,resA,mapO,Aq,Ar,w1,w2,w3,bots,cond_true,cond_false,if_true,if_false,ite_true,ite_false,reduceIte,reduceCtorEq,implies_true,Nat.reduceAdd,Nat.reduceSub,AV.int,AV.bool,AV.str,Nat.reduceBEq,Nat.reduceEqDiff,Nat.reduceMul,Nat.reduceLT,Nat.reduceLeDiff,Int.reduceNeg,BEq.rfl,beq_self_eq_true,tabl,cellsOf,fldA,ldA,stA,Bd,Bc,A2,A1,Ae,Af,Ac,List.take_left,List.take_length,Ao,Am,over,Ag,Value.oneCell',idxA,nilA,Aa,Ap,Ah,pure1,pure2,reps,chkA,tys,Tryz.results84,evt,Av,Au,Al,e0,e3,e4,e16,e17,c1,hw,hwr,htj,hcE,hxt,hrc,hoE,hm1,hg1,hE1,ht2,hbf2,hr,hap,hcut,Dx,xfs,puQ,tkQ,Ba,Bq,ovQ,L0,J5,V9,Abb]
   exact IH (S2,n2+1+3,Hi tk' cp,D3 tk' cp 4,j+1,out++[y.1],Bool.or fq y.2) _ (by first|omega|(simp only; omega)) ⟨rfl,by first|omega|(dsimp only; omega),by rw [hR,hmul y hme]; simp only [List.append_assoc,List.cons_append,List.nil_append,Bool.or_assoc],by simp [hol],hok2,by simpa only [Bool.or_assoc] using hT2,by first|omega|(dsimp only; omega),fun v hv ho=>by rw [hn2 v ho.1]; exact hfr v hv ho,by rw [Ay hn2S]; exact hoE,by and_intros <;> first|rfl|simp only [getT,Hf,List.map_append,List.map_cons,List.map_nil]⟩
  | true =>
   obtain ⟨d,hd⟩:∃ d,d=qF.minus z0.1 y.1:=⟨_,rfl⟩
   have od:qF.ok d.1:=by rw [hd]; exact B7.minus _ _ o0 oy
   have hme:mulF qF t j=(d.1,Bool.or y.2 (Bool.or z0.2 d.2)):=by
    unfold mulF
    rw [Db hx,Db hbf,← hone,← hy,← hz0,hd]; rfl
   have hwz:=Hl (S2++[⟨n2,ceQ y.1⟩]) tk' (n2+1) iq eq _ 0 (by unfold i64; omega) hT2a.fa
   have hg2:=D1 (c:=z0.2) hT2a.fa
   rw [← hz0] at hwz
   rw [Gg hf2] at hwz hg2
   have hf3:=hf2.fS (c:=z0.2)
   obtain ⟨S3,hS3⟩:∃ S3,S3=flS S2 iq eq z0.2:=⟨_,rfl⟩
   have hT3:=hT2.flag (S':=flS S2 iq eq z0.2) (fun j hj=>Bg hj) hf3
   have hl3:(flS S2 iq eq z0.2).length=S2.length:=Bo
   have hn3:∀ v,v≠iq→nth (flS S2 iq eq z0.2) v=nth S2 v:=fun v hv=>Bg hv
   have hn3S:nth S3 S.length=nth S2 S.length:=by rw [hS3]; exact Bg (by have:=hlow.iq; omega)
   rw [← hS3] at hwz hg2 hf3 hT3 hl3 hn3
   have hf3a:=hf3.app (L:=[⟨n2,ceQ y.1⟩])
   have hm2:=Jk (S3++[⟨n2,ceQ y.1⟩]) tk' (n2+1+1) iq eq _ z0.1 y.1 o0 oy hf3a
   have hg3:=D1 (c:=d.2) hf3a
   rw [← hd] at hm2
   rw [Gg hf3] at hm2 hg3
   have hf4:=hf3.fS (c:=d.2)
   obtain ⟨S4,hS4⟩:∃ S4,S4=flS S3 iq eq d.2:=⟨_,rfl⟩
   have hT4:=hT3.flag (S':=flS S3 iq eq d.2) (fun j hj=>Bg hj) hf4
   have hl4:(flS S3 iq eq d.2).length=S3.length:=Bo
   have hn4:∀ v,v≠iq→nth (flS S3 iq eq d.2) v=nth S3 v:=fun v hv=>Bg hv
   have hn4S:nth S4 S.length=nth S3 S.length:=by rw [hS4]; exact Bg (by have:=hlow.iq; omega)
   rw [← hS4] at hm2 hg3 hf4 hT4 hl4 hn4
   have hE3:Ak (S3++[⟨n2,ceQ y.1⟩]) S2.length n2=some (ceQ y.1):=Be hl3
   have hl42:S4.length=S2.length:=by omega
   have hE4:Ak (S4++[⟨n2,ceQ y.1⟩]) S2.length n2=some (ceQ y.1):=Be hl42
   have hE5:Ak (S4++[⟨n2,ceQ d.1⟩]) S2.length n2=some (ceQ d.1):=Be hl42
   have hP4:=fun e e'=>Ez (e:=e) (e':=e') hl42
   have hT4a:=hT4.app [⟨n2,ceQ d.1⟩]
   have ht4:=hT4a.top
   simp only [intA] at ht4
   have hr:=Lb (S4++[⟨n2,ceQ d.1⟩]) tk' (n2+1+1+4) iq eq _ d.1 od hT4a.fa
   have hap:=apB_one (y:=ceW (qF.rat d.1)) hok hrl rfl hll
   have hcut:List.take S'.length (S4++[⟨n2,ceQ d.1⟩])=S4:=by rw [← hl2,← hl42]; simp
   simp (maxSteps:=1000000) +contextual (disch:=first|with_reducible assumption|exact ⟨rfl⟩|exact ⟨rfl,rfl⟩|exact ⟨rfl,rfl,rfl⟩|(refine _root_.id ?_; kernel_rfl)|omega) only [evs,Ad,nth,put,putT,getT,Ai,Aj,Ab,aUn,outA,resA,mapO,Aq,Ar,w1,w2,w3,bots,cond_true,cond_false,if_true,if_false,ite_true,ite_false,reduceIte,reduceCtorEq,implies_true,Nat.reduceAdd,Nat.reduceSub,AV.int,AV.bool,AV.str,Nat.reduceBEq,Nat.reduceEqDiff,Nat.reduceMul,Nat.reduceLT,Nat.reduceLeDiff,Int.reduceNeg,BEq.rfl,beq_self_eq_true,tabl,cellsOf,fldA,ldA,stA,Bd,Bc,A2,A1,Ae,Af,Ac,List.take_left,List.take_length,Ao,Am,over,Ag,Value.oneCell',idxA,nilA,Aa,Ap,Ah,pure1,pure2,reps,chkA,tys,Tryz.results84,evt,Av,Au,Al,e0,e3,e4,e16,e17,c1,hw,hwr,htj,hcE,hxt,hrc,hoE,hm1,hg1,hE1,ht2,hbf2,hwz,hg2,hE3,hm2,hg3,hE4,hP4,hE5,ht4,hr,hap,hcut,Dx,xfs,puQ,tkQ,Ba,Bq,ovQ,ovQ2,L0,J5,V9,Abb]
   exact IH (S4,n2+1+1+4+3,Hi tk' cp,D3 tk' cp 4,j+1,out++[d.1],Bool.or fq (Bool.or y.2 (Bool.or z0.2 d.2))) _ (by first|omega|(simp only; omega)) ⟨rfl,by first|omega|(dsimp only; omega),by rw [hR,hmul _ hme]; simp only [List.append_assoc,List.cons_append,List.nil_append,Bool.or_assoc],by simp [hol],hok2,by simpa only [Bool.or_assoc] using hT4,by first|omega|(dsimp only; omega),fun v hv ho=>by rw [hn4 v ho.1,hn3 v ho.1,hn2 v ho.1]; exact hfr v hv ho,by rw [Ay hn4S,Ay hn3S,Ay hn2S]; exact hoE,by and_intros <;> first|rfl|simp only [getT,Hf,List.map_append,List.map_cons,List.map_nil]⟩
 ·have c1:decide ((j:Int)<(t.rows.length:Int))=false:=by simpa using hjm
  have hj2:t.rows.length - j=0:=by omega
  rw [hj2] at hR
  simp only [H1,List.append_nil,Bool.or_false] at hR
  have hmf:Kg qF t=(out,Bool.or one.2 fq):=by unfold Kg; rw [hR,← hone]
  simp (maxSteps:=1000000) +contextual (disch:=first|with_reducible assumption|exact ⟨rfl⟩|exact ⟨rfl,rfl⟩|exact ⟨rfl,rfl,rfl⟩|(refine _root_.id ?_; kernel_rfl)|omega) only [evs,Ad,nth,put,putT,getT,Ai,Aj,Ab,aUn,outA,resA,mapO,Aq,Ar,w1,w2,w3,bots,cond_true,cond_false,if_true,if_false,ite_true,ite_false,reduceIte,reduceCtorEq,implies_true,Nat.reduceAdd,Nat.reduceSub,AV.int,AV.bool,AV.str,Nat.reduceBEq,Nat.reduceEqDiff,Nat.reduceMul,Nat.reduceLT,Nat.reduceLeDiff,Int.reduceNeg,BEq.rfl,beq_self_eq_true,tabl,cellsOf,fldA,ldA,stA,Bd,Bc,A2,A1,Ae,Af,Ac,List.take_left,List.take_length,Ao,Am,over,Ag,Value.oneCell',idxA,nilA,Aa,Ap,Ah,pure1,pure2,reps,chkA,tys,Tryz.results84,evt,Av,Au,Al,e0,e3,e4,e16,e17,c1]
  rw [hΦ,hmf]
  have hT5:=hT.take (n:=S.length) (hlow.of fun h=>h)
  exact ⟨_,n',tk',cp,rfl,by rw [List.length_take]; omega,by simpa only [Bool.or_assoc] using hT5,fun v hv=>by
   by_cases hjl:v<S.length
   ·rw [Ew hjl]; exact hfr v hjl hv
   ·rw [Az,Az,List.getElem?_eq_none (by rw [List.length_take]; omega),List.getElem?_eq_none (by omega)]⟩
end
end Go.Proofs.YtcjffhadclngmaaGreat
namespace Go.Proofs.YtcjffhadclngmaaGreat
open Go
theorem Bi.add {S S':List Ent} {iq eq:Nat} {I:TI} {t:Tb} {c c':Cap} {ir er ib eb id nr b:Nat} {f fl':Bool} {row:List Q} (h:Bi S iq eq I t c)
  (htop:Ak S' I.it I.et=some [.ifc 95 (.ref iq eq 0),intA t.vars,intA t.real,.sref ir er 0 (t.rows.length+1) 1,.sref I.ic I.ec 0 t.cost.length 2,.sref ib eb 0 (t.rows.length+1) 1,.frz ((t.flip++[f]).map Hq) c'])
  (hrows:Ak S' ir er=some ((I.ids++[(id,nr)]).map (hdr t.cost.length 2))) (hbas:Ak S' ib eb=some ((t.basis++[b]).map intA)) (hrow:Ak S' id nr=some (flat ceQ row)) (hrl:row.length=t.cost.length) (hro:okL qF row)
  (hids:∀ p ∈ I.ids,nth S' p.1=nth S p.1) (hcost:nth S' I.ic=nth S I.ic) (hfa:FAq S' iq eq fl') (hap:Apart ⟨I.it,I.et,ir,er,I.ic,I.ec,ib,eb,I.ids++[(id,nr)]⟩ iq) (hm:t.rows.length+1≤1000000) (hb:b<t.cost.length) :
  Bi S' iq eq ⟨I.it,I.et,ir,er,I.ic,I.ec,ib,eb,I.ids++[(id,nr)]⟩ { t with rows:=t.rows++[row],basis:=t.basis++[b],flip:=t.flip++[f],fl:=fl' } c':=by
 have hlen:(t.rows++[row]).length=t.rows.length+1:=by simp
 refine ⟨?_,by simp [h.nids],fun _=>hrows,fun i p r hp hr=>?_,fun r hr=>?_,?_,fun _=>hbas,by simp [h.nb],by simp [h.nf],hfa,hap,fun r hr=>?_,h.okc,h.bigW,by rw [hlen]; exact hm,h.real,fun x hx=>?_⟩
 ·rw [htop]; simp only [hlen,hd0]
 ·rw [Az] at hp hr
  by_cases hi:i<I.ids.length
  ·rw [List.getElem?_append_left hi,← Az] at hp
   rw [List.getElem?_append_left (by rw [← h.nids]; exact hi),← Az] at hr
   rw [Ay (hids p (Bj hp))]
   exact h.rowE i p r hp hr
  ·have hi2:i=I.ids.length:=by
    have:=(List.getElem?_eq_some_iff.1 hp).1
    simp at this; omega
   rw [hi2,List.getElem?_append_right (Nat.le_refl _),Nat.sub_self] at hp
   rw [hi2,h.nids,List.getElem?_append_right (Nat.le_refl _),Nat.sub_self] at hr
   simp only [List.getElem?_cons_zero,Option.some.injEq] at hp hr
   subst hp; subst hr
   exact hrow
 ·rcases List.mem_append.1 hr with hr|hr
  ·exact h.rowW r hr
  ·simp only [List.mem_singleton] at hr; subst hr; exact hrl
 ·rw [Ay hcost]; exact h.costE
 ·rcases List.mem_append.1 hr with hr|hr
  ·exact h.okr r hr
  ·simp only [List.mem_singleton] at hr; subst hr; exact hro
 ·rcases List.mem_append.1 hx with hx|hx
  ·exact h.bB x hx
  ·simp only [List.mem_singleton] at hx; subst hx; exact hb
structure Ga (S SS:List Ent) (iq eq:Nat) (I:TI) (t:Tb) (cp:Cap) (L nz n15 n16 n19:Nat) (z:Q) (r:RowT) (row:List Q) (u:Q):Prop where
 T:Bi SS iq eq I t cp
 low:LowQ I iq L t
 Z:Ak SS (S.length+1) nz=some (ceQ z)
 E15:Ak SS L n15=some (rowC r)
 E16:Ak SS (L+1) n16=some (flat ceQ row)
 E19:Ak SS (L+2) n19=some (ceQ u)
 len:SS.length=L+3
 fr:∀ j,j<S.length→j≠iq→nth SS j=nth S j
 qL:iq<S.length
 SL:S.length+3≤L
 ic:I.ic=S.length+2
section
variable {S SS S':List Ent} {iq eq:Nat} {I:TI} {t:Tb} {cp:Cap} {L nz n15 n16 n19:Nat} {z u:Q} {r:RowT} {row:List Q}
theorem Ga.flag {fl':Bool} (h:Ga S SS iq eq I t cp L nz n15 n16 n19 z r row u) (hS:∀ j,j≠iq→nth S' j=nth SS j) (hl:S'.length=SS.length) (hf:FAq S' iq eq fl') :
  Ga S S' iq eq I { t with fl:=fl' } cp L nz n15 n16 n19 z r row u:=by
 have hq:=h.qL
 have hL:=h.SL
 exact ⟨h.T.flag hS hf,h.low.of fun h=>h,by rw [Ay (hS _ (by omega))]; exact h.Z,by rw [Ay (hS _ (by omega))]; exact h.E15,by rw [Ay (hS _ (by omega))]; exact h.E16,by rw [Ay (hS _ (by omega))]; exact h.E19,by rw [hl]; exact h.len,fun j h1 h2=>by rw [hS j h2]; exact h.fr j h1 h2,hq,hL,h.ic⟩
theorem Ga.put (h:Ga S SS iq eq I t cp L nz n15 n16 n19 z r row u) (row':List Q):Ga S (put SS (L+1) ⟨n16,flat ceQ row'⟩) iq eq I t cp L nz n15 n16 n19 z r row' u:=by
 have hq:=h.qL
 have hL:=h.SL
 have hl:=h.len
 have key:∀ j,j≠L+1→nth (Go.Proofs.YtcjffhadclngmaaGreat.put SS (L+1) ⟨n16,flat ceQ row'⟩) j=nth SS j:=fun j hj=>Aw (Ne.symm hj)
 have hT:=h.T.frame (S':=Go.Proofs.YtcjffhadclngmaaGreat.put SS (L+1) ⟨n16,flat ceQ row'⟩) (fl':=t.fl) h.low (fun j h1 h2=>key j (by omega)) (h.T.fa.put (by omega))
 exact ⟨hT,h.low,by rw [Ay (key _ (by omega))]; exact h.Z,by rw [Ay (key _ (by omega))]; exact h.E15,A4 (by omega),by rw [Ay (key _ (by omega))]; exact h.E19,by rw [A7]; exact hl,fun j h1 h2=>by rw [key j (by omega)]; exact h.fr j h1 h2,hq,hL,h.ic⟩
theorem Ga.unit (h:Ga S SS iq eq I t cp L nz n15 n16 n19 z r row u) (u':Q):Ga S (Go.Proofs.YtcjffhadclngmaaGreat.put SS (L+2) ⟨n19,ceQ u'⟩) iq eq I t cp L nz n15 n16 n19 z r row u':=by
 have hq:=h.qL
 have hL:=h.SL
 have hl:=h.len
 have key:∀ j,j≠L+2→nth (Go.Proofs.YtcjffhadclngmaaGreat.put SS (L+2) ⟨n19,ceQ u'⟩) j=nth SS j:=fun j hj=>Aw (Ne.symm hj)
 have hT:=h.T.frame (S':=Go.Proofs.YtcjffhadclngmaaGreat.put SS (L+2) ⟨n19,ceQ u'⟩) (fl':=t.fl) h.low (fun j h1 h2=>key j (by omega)) (h.T.fa.put (by omega))
 exact ⟨hT,h.low,by rw [Ay (key _ (by omega))]; exact h.Z,by rw [Ay (key _ (by omega))]; exact h.E15,by rw [Ay (key _ (by omega))]; exact h.E16,A4 (by omega),by rw [A7]; exact hl,fun j h1 h2=>by rw [key j (by omega)]; exact h.fr j h1 h2,hq,hL,h.ic⟩
theorem Ga.cost {k':List Q} (h:Ga S SS iq eq I t cp L nz n15 n16 n19 z r row u) (hk:k'.length=t.cost.length) (ho:okL qF k'):Ga S (Go.Proofs.YtcjffhadclngmaaGreat.put SS I.ic ⟨I.ec,flat ceQ k'⟩) iq eq I { t with cost:=k' } cp L nz n15 n16 n19 z r row u:=by
 have hq:=h.qL
 have hL:=h.SL
 have hl:=h.len
 have hic:=h.ic
 have key:∀ j,j≠I.ic→nth (Go.Proofs.YtcjffhadclngmaaGreat.put SS I.ic ⟨I.ec,flat ceQ k'⟩) j=nth SS j:=fun j hj=>Aw (Ne.symm hj)
 have hT:=h.T.setCost (S':=Go.Proofs.YtcjffhadclngmaaGreat.put SS I.ic ⟨I.ec,flat ceQ k'⟩) (fl':=t.fl) hk ho (fun j h1 h2=>key j h1) (A4 (by omega)) (h.T.fa.put (by omega))
 exact ⟨hT,h.low.of fun h=>h,by rw [Ay (key _ (by omega))]; exact h.Z,by rw [Ay (key _ (by omega))]; exact h.E15,by rw [Ay (key _ (by omega))]; exact h.E16,by rw [Ay (key _ (by omega))]; exact h.E19,by rw [A7]; exact hl,fun j h1 h2=>by rw [key j (by omega)]; exact h.fr j h1 h2,hq,hL,h.ic⟩
end
end Go.Proofs.YtcjffhadclngmaaGreat
namespace Go.Proofs.YtcjffhadclngmaaGreat
open Go
def Yl (S:List Ent) (l:List RowT) (vars:List ByteArray) (fl:Bool) (k iq eq c W nz:Nat) (z:Q) (i:Nat) (st:St):Prop :=
 ∃ sl t1 I cp,i≤l.length∧Gv qF l vars fl=begS qF z vars c W (l.drop i) i sl t1∧Bi st.S iq eq I t1 cp∧t1.rows.length=i∧t1.cost.length=W∧t1.real=c∧t1.vars=vars.length∧sl+neqs (l.drop i)=c∧Bx st.tk cp 1=true∧Ak st.S (S.length+1) nz=some (ceQ z)∧S.length+3≤st.S.length∧(∀ j,j<S.length→j≠iq→nth st.S j=nth S j)∧(I.it=S.length∧I.et=k∧I.ic=S.length+2)∧(S.length+2<I.ir∧S.length+2<I.ib∧∀ p ∈ I.ids,S.length+2<p.1) ∧
  st.T.length=270∧getT st.T 0=.ifc 95 (.ref iq eq 0)∧getT st.T 1=.frz (l.map rowC) .unk∧getT st.T 2=.frz (vars.map strC) .unk∧getT st.T 7=.ref S.length k 0∧getT st.T 10=.int (sl:Nat)∧getT st.T 11=.int (W:Nat)∧getT st.T 12=.ref (S.length+1) nz 0∧getT st.T 83=.frz (l.map rowC) .unk∧getT st.T 84=.int (l.length:Nat)∧getT st.T 85=.int (i:Nat)
end Go.Proofs.YtcjffhadclngmaaGreat
namespace Go.Proofs.YtcjffhadclngmaaGreat
open Go
section
variable (S:List Ent) (l:List RowT) (vars:List ByteArray) (fl:Bool) (k iq eq c W nz:Nat) (z:Q)
set_option maxHeartbeats 20000000 in
set_option maxRecDepth 100000 in
theorem Afy (hB:BegC S l vars iq c W) (Φ:Rs→Prop) (i:Nat) (hil:i<l.length) (r:RowT) (hr:nth l i=some r) (sl2:Nat) (hsn2:sl2+neqs (l.drop (i+1))=c) (t1:Tb) (I:TI) (cp:Cap) (tk:List Nat)
  (hrq:t1.rows.length=i) (hcl:t1.cost.length=W) (hre:t1.real=c) (hva:t1.vars=vars.length) (hok:Bx tk cp 1=true) (hIt:I.it=S.length∧I.et=k∧I.ic=S.length+2) (hIf:S.length+2<I.ir∧S.length+2<I.ib∧∀ p ∈ I.ids,S.length+2<p.1)
  (rowZ:List Q) (fr:Bool) (hrwZ:rowZ.length=W) (orowZ:okL qF rowZ) (L m0 nu:Nat) (u:Q × Bool) (fb:Bool) (hfb:fb=Ki r) (SZ:List Ent) (n7 lv:Nat) (hRZ2:Ga S SZ iq eq I { t1 with fl:=Bool.or t1.fl fr } cp L nz m0 (m0+1) nu z r rowZ u.1)
  (hR:Gv qF l vars fl=begS qF z vars c W (l.drop (i+1)) (i+1) sl2 { t1 with rows:=t1.rows++[rowZ],cost:=(Jc qF c W 0 t1.cost rowZ).1,basis:=t1.basis++[c+i],flip:=t1.flip++[fb],fl:=Bool.or (Bool.or t1.fl fr) (Jc qF c W 0 t1.cost rowZ).2 })
  (back:∀ st,Yl S l vars fl k iq eq c W nz z (i+1) st→Gd finM Φ (KA Tryz.prog Tryz.f81 18 [] st))
  (T:List AV) (hT:T.length=270) (e0:getT T 0=.ifc 95 (.ref iq eq 0)) (e1:getT T 1=.frz (l.map rowC) .unk) (e2:getT T 2=.frz (vars.map strC) .unk) (e7:getT T 7=.ref S.length k 0) (e10:getT T 10=.int (sl2:Nat)) (e11:getT T 11=.int (W:Nat)) (e12:getT T 12=.ref (S.length+1) nz 0) (e14:getT T 14=.int (i:Nat)) (e15:getT T 15=.ref L m0 0) (e16:getT T 16=.sref (L+1) (m0+1) 0 W 2) (e18:getT T 18=.prim (.bool fb)) (e19:getT T 19=.ref (L+2) nu 0) (e83:getT T 83=.frz (l.map rowC) .unk) (e84:getT T 84=.int (l.length:Nat)) (e85:getT T 85=.int (i:Nat)) (e194:getT T 194=.int (W:Nat)) (e195:getT T 195=.int ((0:Nat):Int)) :
  Gd finM Φ (KA Tryz.prog Tryz.f81 43 [lv] ⟨T,SZ,tk,n7⟩):=by
 obtain ⟨hl,hv0,hv,hc,hfew,hiq,hcr,hWe⟩:=hB
 have hnl:=Rf l
 have hwW:IntKind.i64.wrap ((W:Int) - 1)=((W - 1:Nat):Int):=by rw [A0 (by unfold i64; omega)]; omega
 have hW1:W - 1<W:=by omega
 have hwci:IntKind.i64.wrap ((c:Int)+(i:Int))=((c+i:Nat):Int):=by rw [A0 (by unfold i64; omega)]; rfl
 have hwi:IntKind.i64.wrap ((i:Int)+1)=((i+1:Nat):Int):=by rw [A0 (by unfold i64; omega)]; rfl
 have hci:c+i<W:=by omega
 refine Afe rfl (t:=.mk) ?_
 refine Hs (P:=Tryz.prog) (fun x st=>st.T.length=270∧(Jc qF c W 0 t1.cost rowZ=(x.2.2.1++(Jc qF c W x.2.2.1.length x.2.2.2.1 (rowZ.drop x.2.2.1.length)).1,Bool.or x.2.2.2.2 (Jc qF c W x.2.2.1.length x.2.2.2.1 (rowZ.drop x.2.2.1.length)).2))∧(x.2.2.1.length+x.2.2.2.1.length=W)∧(Ga S x.1 iq eq I { t1 with cost:=x.2.2.1++x.2.2.2.1,fl:=Bool.or (Bool.or t1.fl fr) x.2.2.2.2 } cp L nz m0 (m0+1) nu z r rowZ u.1)∧getT st.T 0=.ifc 95 (.ref iq eq 0)∧getT st.T 1=.frz (l.map rowC) .unk∧getT st.T 2=.frz (vars.map strC) .unk∧getT st.T 7=.ref S.length k 0∧getT st.T 10=.int (sl2:Nat)∧getT st.T 11=.int (W:Nat)∧getT st.T 12=.ref (S.length+1) nz 0∧getT st.T 14=.int (i:Nat)∧getT st.T 15=.ref L m0 0∧getT st.T 16=.sref (L+1) (m0+1) 0 W 2∧getT st.T 18=.prim (.bool fb)∧getT st.T 19=.ref (L+2) nu 0∧getT st.T 83=.frz (l.map rowC) .unk∧getT st.T 84=.int (l.length:Nat)∧getT st.T 85=.int (i:Nat)∧getT st.T 194=.int (W:Nat)∧getT st.T 195=.int (x.2.2.1.length:Nat)∧st.S=x.1∧st.tk=tk∧st.n=x.2.1) (fun x=>x.2.2.2.1.length) (SZ,n7,([]:List Q),t1.cost,false) ?_ ?_
 case refine_2=>exact ⟨(by first|rfl|assumption),rfl,by simpa using hcl,by simp only [List.nil_append,Bool.or_false]; exact hRZ2,(by first|rfl|assumption),(by first|rfl|assumption),(by first|rfl|assumption),(by first|rfl|assumption),(by first|rfl|assumption),(by first|rfl|assumption),(by first|rfl|assumption),(by first|rfl|assumption),(by first|rfl|assumption),(by first|rfl|assumption),(by first|rfl|assumption),(by first|rfl|assumption),(by first|rfl|assumption),(by first|rfl|assumption),(by first|rfl|assumption),(by first|rfl|assumption),(by first|rfl|assumption),(by first|rfl|assumption),(by first|rfl|assumption),(by first|rfl|assumption)⟩
 rintro ⟨SS,n1,p,v,fq⟩ ⟨T,S',tk',n'⟩ ⟨hl,hRk,hpv,hRY,e0,e1,e2,e7,e10,e11,e12,e14,e15,e16,e18,e19,e83,e84,e85,e194,e195,eS,eT,eN⟩ IH
 simp only at hRk hpv hRY e0 e1 e2 e7 e10 e11 e12 e14 e15 e16 e18 e19 e83 e84 e85 e194 e195 eS eT eN
 subst eS eT eN
 obtain ⟨g,hg,hT⟩:=Bp hl
 rw [hg] at e0 e1 e2 e7 e10 e11 e12 e14 e15 e16 e18 e19 e83 e84 e85 e194 e195
 subst hT
 clear hg hl
 have hpvl:(p++v).length=W:=by simpa using hpv
 have htc:=hRY.T.top
 simp only [hIt.1,hIt.2.1,hIt.2.2,hpvl,hre,hva,hrq,intA] at htc
 by_cases hpW:p.length<W
 ·have c2:decide ((p.length:Int)<(W:Int))=true:=by simpa using hpW
  obtain ⟨a0,v,rfl⟩:∃ a0 v',v=a0 :: v':=by
   cases v with
   | nil=>simp at hpv; omega
   | cons x v=>exact ⟨x,v,rfl⟩
  obtain ⟨r0,hr0⟩:=A6 (show p.length<rowZ.length by omega)
  have hdr:=Bw hr0
  have oa0:qF.ok a0:=hRY.T.okc a0 (by simp)
  have or0:qF.ok r0:=orowZ r0 (Bj hr0)
  have hw:IntKind.i64.wrap ((p.length:Int)+1)=(((p++[a0]).length:Nat):Int):=by rw [A0 (by unfold i64; omega)]; simp
  have hmu:v.length<(a0 :: v).length:=by simp
  have hlp:∀ a:Q,(p++[a]).length=p.length+1:=fun a=>by simp
  rw [hdr] at hRk
  simp only [Jc] at hRk
  by_cases hk1:p.length<c
  ·have c6:decide ((p.length:Int)<(c:Int))=true:=by simpa using hk1
   have hst:Rl qF c W p.length a0 r0=qF.minus a0 r0:=by unfold Rl; rw [if_pos (Or.inl hk1)]
   have c7:=c6
   have c7b:=c6
   obtain ⟨y,hy⟩:∃ y,y=qF.minus a0 r0:=⟨_,rfl⟩
   have oy:qF.ok y.1:=by rw [hy]; exact B7.minus _ _ oa0 or0
   rw [hst,← hy] at hRk
   have hwy:IntKind.i64.wrap ((p.length:Int)+1)=(((p++[y.1]).length:Nat):Int):=by rw [A0 (by unfold i64; omega)]; simp
   have hfa:=hRY.T.fa
   have hcE:=hRY.T.costE
   have hcE1:Ak S' (S.length+2) I.ec=some (flat ceQ (p++a0 :: v)):=by have h:=hcE; rw [hIt.2.2] at h; exact h
   have hat:=Bu (ce:=ceQ) Ba (H9 (p:=p) (u:=v) (x:=a0))
   have hrt:=Bu (ce:=ceQ) Ba hr0
   have hE16a:=hRY.E16
   have hmm:=Jk S' tk' n' iq eq _ a0 r0 oa0 or0 hfa
   have hg1:=D1 (c:=y.2) hfa
   rw [← hy] at hmm
   obtain ⟨S1a,hS1a⟩:∃ S1a,S1a=flS S' iq eq y.2:=⟨_,rfl⟩
   have hR1:=hRY.flag (S':=flS S' iq eq y.2) (fun j hj=>Bg hj) Bo hfa.fS
   rw [← hS1a] at hmm hg1 hR1
   have hcE2:Ak S1a (S.length+2) I.ec=some (flat ceQ (p++a0 :: v)):=by have h:=hR1.T.costE; rw [hIt.2.2] at h; exact h
   have ho:=De (ce:=ceQ) Ba (l:=p++a0 :: v) (k:=p.length) (q':=y.1) (by simp)
   rw [Jv] at ho
   have hR2:=hR1.cost (k':=p++y.1 :: v) (by simp) (fun q hq=>by
    rcases List.mem_append.1 hq with h|h
    ·exact hRY.T.okc q (by simp [h])
    ·rcases List.mem_cons.1 h with rfl|h
     ·exact oy
     ·exact hRY.T.okc q (by simp [h]))
   rw [hIt.2.2] at hR2
   have htk:∀ x,List.take S'.length (put S1a (S.length+2) x)=put S1a (S.length+2) x:=fun x=>List.take_of_length_le (by rw [A7,hR1.len,hRY.len]; exact Nat.le_refl _)
   simp (maxSteps:=1000000) +contextual (disch:=first|with_reducible assumption|exact ⟨rfl⟩|exact ⟨rfl,rfl⟩|exact ⟨rfl,rfl,rfl⟩|(refine _root_.id ?_; kernel_rfl)|omega) only [evs,Ad,nth,put,putT,getT,Ai,Aj,Ab,aUn,outA,resA,mapO,Aq,Ar,w1,w2,w3,bots,cond_true,cond_false,if_true,if_false,ite_true,ite_false,reduceIte,reduceCtorEq,implies_true,Nat.reduceAdd,Nat.reduceSub,AV.int,AV.bool,AV.str,Nat.reduceBEq,Nat.reduceEqDiff,Nat.reduceMul,Nat.reduceLT,Nat.reduceLeDiff,Int.reduceNeg,BEq.rfl,beq_self_eq_true,tabl,cellsOf,fldA,ldA,stA,Bd,Bc,A2,A1,Ae,Af,Ac,List.take_left,List.take_length,Ao,Am,over,Ag,Value.oneCell',idxA,nilA,Aa,Ap,Ah,pure1,pure2,reps,chkA,tys,Tryz.results81,evt,Av,Au,Al,e0,e1,e2,e7,e10,e11,e12,e14,e15,e16,e18,e19,e83,e84,e85,e194,e195,c2,c6,c7,c7b,hwy,hwW,htc,hcE1,hat,hrt,hE16a,hpW,hmm,hg1,hcE2,ho,htk,Dx,xfs,puQ,tkQ,Ba,Bq]
   exact IH (put S1a (S.length+2) ⟨I.ec,flat ceQ (p++y.1 :: v)⟩,n'+4,p++[y.1],v,Bool.or fq y.2) _ (by first|omega|(simp only; omega)) ⟨rfl,by rw [hRk,hlp]; simp only [List.append_assoc,List.cons_append,List.nil_append,Bool.or_assoc],by show (p++[y.1]).length+v.length=W; simp only [List.length_append,List.length_cons,List.length_nil] at hpv ⊢; omega,by simpa only [List.append_assoc,List.cons_append,List.nil_append,Bool.or_assoc] using hR2,by and_intros <;> first|rfl|simp only [getT,List.map_append,List.map_cons,List.map_nil]⟩
  ·have c6:decide ((p.length:Int)<(c:Int))=false:=by simpa using hk1
   by_cases hk2:p.length=W - 1
   ·have c7:decide ((p.length:Int)=((W - 1:Nat):Int))=true:=by exact decide_eq_true (by omega)
    have c7b:((p.length:Int) == ((W - 1:Nat):Int))=true:=by exact decide_eq_true (by omega)
    have hst:Rl qF c W p.length a0 r0=qF.minus a0 r0:=by unfold Rl; rw [if_pos (Or.inr hk2)]
    obtain ⟨y,hy⟩:∃ y,y=qF.minus a0 r0:=⟨_,rfl⟩
    have oy:qF.ok y.1:=by rw [hy]; exact B7.minus _ _ oa0 or0
    rw [hst,← hy] at hRk
    have hwy:IntKind.i64.wrap ((p.length:Int)+1)=(((p++[y.1]).length:Nat):Int):=by rw [A0 (by unfold i64; omega)]; simp
    have hfa:=hRY.T.fa
    have hcE:=hRY.T.costE
    have hcE1:Ak S' (S.length+2) I.ec=some (flat ceQ (p++a0 :: v)):=by have h:=hcE; rw [hIt.2.2] at h; exact h
    have hat:=Bu (ce:=ceQ) Ba (H9 (p:=p) (u:=v) (x:=a0))
    have hrt:=Bu (ce:=ceQ) Ba hr0
    have hE16a:=hRY.E16
    have hmm:=Jk S' tk' n' iq eq _ a0 r0 oa0 or0 hfa
    have hg1:=D1 (c:=y.2) hfa
    rw [← hy] at hmm
    obtain ⟨S1a,hS1a⟩:∃ S1a,S1a=flS S' iq eq y.2:=⟨_,rfl⟩
    have hR1:=hRY.flag (S':=flS S' iq eq y.2) (fun j hj=>Bg hj) Bo hfa.fS
    rw [← hS1a] at hmm hg1 hR1
    have hcE2:Ak S1a (S.length+2) I.ec=some (flat ceQ (p++a0 :: v)):=by have h:=hR1.T.costE; rw [hIt.2.2] at h; exact h
    have ho:=De (ce:=ceQ) Ba (l:=p++a0 :: v) (k:=p.length) (q':=y.1) (by simp)
    rw [Jv] at ho
    have hR2:=hR1.cost (k':=p++y.1 :: v) (by simp) (fun q hq=>by
     rcases List.mem_append.1 hq with h|h
     ·exact hRY.T.okc q (by simp [h])
     ·rcases List.mem_cons.1 h with rfl|h
      ·exact oy
      ·exact hRY.T.okc q (by simp [h]))
    rw [hIt.2.2] at hR2
    have htk:∀ x,List.take S'.length (put S1a (S.length+2) x)=put S1a (S.length+2) x:=fun x=>List.take_of_length_le (by rw [A7,hR1.len,hRY.len]; exact Nat.le_refl _)
    simp (maxSteps:=1000000) +contextual (disch:=first|with_reducible assumption|exact ⟨rfl⟩|exact ⟨rfl,rfl⟩|exact ⟨rfl,rfl,rfl⟩|(refine _root_.id ?_; kernel_rfl)|omega) only [evs,Ad,nth,put,putT,getT,Ai,Aj,Ab,aUn,outA,resA,mapO,Aq,Ar,w1,w2,w3,bots,cond_true,cond_false,if_true,if_false,ite_true,ite_false,reduceIte,reduceCtorEq,implies_true,Nat.reduceAdd,Nat.reduceSub,AV.int,AV.bool,AV.str,Nat.reduceBEq,Nat.reduceEqDiff,Nat.reduceMul,Nat.reduceLT,Nat.reduceLeDiff,Int.reduceNeg,BEq.rfl,beq_self_eq_true,tabl,cellsOf,fldA,ldA,stA,Bd,Bc,A2,A1,Ae,Af,Ac,List.take_left,List.take_length,Ao,Am,over,Ag,Value.oneCell',idxA,nilA,Aa,Ap,Ah,pure1,pure2,reps,chkA,tys,Tryz.results81,evt,Av,Au,Al,e0,e1,e2,e7,e10,e11,e12,e14,e15,e16,e18,e19,e83,e84,e85,e194,e195,c2,c6,c7,c7b,hwy,hwW,htc,hcE1,hat,hrt,hE16a,hpW,hmm,hg1,hcE2,ho,htk,Dx,xfs,puQ,tkQ,Ba,Bq]
    exact IH (put S1a (S.length+2) ⟨I.ec,flat ceQ (p++y.1 :: v)⟩,n'+4,p++[y.1],v,Bool.or fq y.2) _ (by first|omega|(simp only; omega)) ⟨rfl,by rw [hRk,hlp]; simp only [List.append_assoc,List.cons_append,List.nil_append,Bool.or_assoc],by show (p++[y.1]).length+v.length=W; simp only [List.length_append,List.length_cons,List.length_nil] at hpv ⊢; omega,by simpa only [List.append_assoc,List.cons_append,List.nil_append,Bool.or_assoc] using hR2,by and_intros <;> first|rfl|simp only [getT,List.map_append,List.map_cons,List.map_nil]⟩
   ·have hk2i:¬ ((p.length:Int)=((W - 1:Nat):Int)):=fun h=>hk2 (by omega)
    have c7:decide ((p.length:Int)=((W - 1:Nat):Int))=false:=by simpa using hk2i
    have c7b:((p.length:Int) == ((W - 1:Nat):Int))=false:=by simpa using hk2i
    have hst:Rl qF c W p.length a0 r0=(a0,false):=by unfold Rl; rw [if_neg (by omega)]
    rw [hst] at hRk
    simp (maxSteps:=1000000) +contextual (disch:=first|with_reducible assumption|exact ⟨rfl⟩|exact ⟨rfl,rfl⟩|exact ⟨rfl,rfl,rfl⟩|(refine _root_.id ?_; kernel_rfl)|omega) only [evs,Ad,nth,put,putT,getT,Ai,Aj,Ab,aUn,outA,resA,mapO,Aq,Ar,w1,w2,w3,bots,cond_true,cond_false,if_true,if_false,ite_true,ite_false,reduceIte,reduceCtorEq,implies_true,Nat.reduceAdd,Nat.reduceSub,AV.int,AV.bool,AV.str,Nat.reduceBEq,Nat.reduceEqDiff,Nat.reduceMul,Nat.reduceLT,Nat.reduceLeDiff,Int.reduceNeg,BEq.rfl,beq_self_eq_true,tabl,cellsOf,fldA,ldA,stA,Bd,Bc,A2,A1,Ae,Af,Ac,List.take_left,List.take_length,Ao,Am,over,Ag,Value.oneCell',idxA,nilA,Aa,Ap,Ah,pure1,pure2,reps,chkA,tys,Tryz.results81,evt,Av,Au,Al,e0,e1,e2,e7,e10,e11,e12,e14,e15,e16,e18,e19,e83,e84,e85,e194,e195,c2,c6,c7,c7b,hw,hwW,htc]
    exact IH (S',n',p++[a0],v,fq) _ (by first|omega|(simp only; omega)) ⟨rfl,by rw [hRk,hlp]; simp only [List.append_assoc,List.cons_append,List.nil_append,Bool.false_or],by show (p++[a0]).length+v.length=W; simp only [List.length_append,List.length_cons,List.length_nil] at hpv ⊢; omega,by simpa using hRY,by and_intros <;> first|rfl|simp only [getT,List.map_append,List.map_cons,List.map_nil]⟩
 ·have c2:decide ((p.length:Int)<(W:Int))=false:=by simpa using hpW
  have hv00:v=[]:=List.length_eq_zero_iff.1 (by omega)
  subst hv00
  simp only [Jc,List.append_nil,Bool.or_false] at hRk hRY hpvl htc
  rw [hRk] at hR
  simp only at hR
  clear IH hRk
  obtain ⟨m7,hm7⟩:∃ m7,m7=n':=⟨_,rfl⟩
  subst hm7
  obtain ⟨SW,hSW⟩:∃ SW,SW=S':=⟨_,rfl⟩
  subst hSW
  have hlW:=hRY.len
  have hSL:=hRY.SL
  have hqL:=hRY.qL
  have hll:(t1.flip.map Hq).length+1≤1048576:=by rw [List.length_map,hRY.T.nf]; simp only; omega
  have hfo:D2 1 (t1.flip.map Hq)=true:=by
   unfold D2
   rw [List.all_eq_true]
   intro e he
   obtain ⟨b,-,rfl⟩:=List.mem_map.1 he
   rfl
  have hap:=apB_one (y:=[.prim (.bool fb)]) hok hfo rfl hll
  have hok2:=Es hok
  have hfle:(t1.flip++[fb]).map Hq=t1.flip.map Hq++[[.prim (.bool fb)]]:=by simp [Hq]
  rcases Nat.eq_zero_or_pos i with hi0|hi0
  ·rw [hi0] at htc
   simp only [hd0] at htc
   have hlS:S.length<SW.length:=by omega
   have hP:∀ e x:Ent,put (SW++[e]) S.length x=put SW S.length x++[e]:=fun e x=>Em hlS
   have hQ:∀ y e x:Ent,put (put SW S.length y++[e]) S.length x=put SW S.length x++[e]:=fun y e x=>by rw [Em (by rw [A7]; exact hlS),Rm]
   have hQ2:∀ y e e' x:Ent,put (put SW S.length y++[e]++[e']) S.length x=put SW S.length x++[e]++[e']:=fun y e e' x=>by rw [Em (by rw [List.length_append,A7]; omega),hQ]
   have hE:∀ cs,Ak (put SW S.length ⟨k,cs⟩) S.length k=some cs:=fun cs=>A4 hlS
   have hEa:∀ cs e,Ak (put SW S.length ⟨k,cs⟩++[e]) S.length k=some cs:=fun cs e=>Ax (hE cs)
   have hEb:∀ cs e e',Ak (put SW S.length ⟨k,cs⟩++[e]++[e']) S.length k=some cs:=fun cs e e'=>Ax (hEa cs e)
   have hE0:∀ e,Ak (SW++[e]) S.length k=_:=fun e=>Ax htc
   have hLa:∀ y e:Ent,(put SW S.length y++[e]).length=L+4:=fun y e=>by rw [List.length_append,A7,hlW]; rfl
   have hap1:∀ S n,apO Tryz.prog 137 (.frz [] .nilc) (.lit 1 [.sref (L+1) (m0+1) 0 W 2]) S n=some (.sref S.length n 0 1 1,S++[⟨n,[.sref (L+1) (m0+1) 0 W 2]⟩],n+1):=fun S n=>Afl (by kernel_rfl) rfl
   have hap2:∀ (c:Cap) x S n,apO Tryz.prog 37 (.frz [] .nilc) (.frz [[.prim (.int .i64 x)]] c) S n=some (.sref S.length n 0 1 1,S++[⟨n,[.prim (.int .i64 x)]⟩],n+1):=fun c x S n=>Aea (by kernel_rfl) rfl
   simp (maxSteps:=1000000) +contextual (disch:=first|with_reducible assumption|exact ⟨rfl⟩|exact ⟨rfl,rfl⟩|exact ⟨rfl,rfl,rfl⟩|(refine _root_.id ?_; kernel_rfl)|omega) only [evs,Ad,nth,put,putT,getT,Ai,Aj,Ab,aUn,outA,resA,mapO,Aq,Ar,w1,w2,w3,bots,cond_true,cond_false,if_true,if_false,ite_true,ite_false,reduceIte,reduceCtorEq,implies_true,Nat.reduceAdd,Nat.reduceSub,AV.int,AV.bool,AV.str,Nat.reduceBEq,Nat.reduceEqDiff,Nat.reduceMul,Nat.reduceLT,Nat.reduceLeDiff,Int.reduceNeg,BEq.rfl,beq_self_eq_true,tabl,cellsOf,fldA,ldA,stA,Bd,Bc,A2,A1,Ae,Af,Ac,List.take_left,List.take_length,Ao,Am,over,Ag,Value.oneCell',idxA,nilA,Aa,Ap,Ah,pure1,pure2,reps,chkA,tys,Tryz.results81,evt,Av,Au,Al,e0,e1,e2,e7,e10,e11,e12,e14,e15,e16,e18,e19,e83,e84,e85,e194,e195,c2,htc,hE0,hwci,hwi,hap,hap1,hap2,V1,hP,hQ,hQ2,hE,hEa,hEb,hLa,hlW]
   have hne:0<i→t1.rows≠[]:=fun h=>by omega
   have hids:I.ids=[]:=List.length_eq_zero_iff.1 (by rw [hRY.T.nids]; simp only; omega)
   have hbas:t1.basis=[]:=List.length_eq_zero_iff.1 (by have:=hRY.T.nb; simp only at this; omega)
   obtain ⟨SF,hSF⟩:∃ SF,SF=put SW S.length ⟨k,[.ifc 95 (.ref iq eq 0),.int (vars.length:Nat),.int (c:Nat),.sref (L+3) m7 0 1 1,.sref (S.length+2) I.ec 0 W 2,.sref (L+4) (m7+1) 0 1 1,.frz (t1.flip.map Hq++[[.prim (.bool fb)]]) (D3 tk' cp 1)]⟩++[⟨m7,[.sref (L+1) (m0+1) 0 W 2]⟩]++[⟨m7+1,[.prim (.int .i64 ((c+i:Nat):Int))]⟩]:=⟨_,rfl⟩
   rw [← hSF]
   have hp0:(put SW S.length ⟨k,[.ifc 95 (.ref iq eq 0),.int (vars.length:Nat),.int (c:Nat),.sref (L+3) m7 0 1 1,.sref (S.length+2) I.ec 0 W 2,.sref (L+4) (m7+1) 0 1 1,.frz (t1.flip.map Hq++[[.prim (.bool fb)]]) (D3 tk' cp 1)]⟩).length=L+3:=by rw [A7,hlW]
   have htF:Ak SF S.length k=some [.ifc 95 (.ref iq eq 0),.int (vars.length:Nat),.int (c:Nat),.sref (L+3) m7 0 (i+1) 1,.sref (S.length+2) I.ec 0 W 2,.sref (L+4) (m7+1) 0 (i+1) 1,.frz (t1.flip.map Hq++[[.prim (.bool fb)]]) (D3 tk' cp 1)]:=by rw [hSF,hEb,hi0]
   have hrF:Ak SF (L+3) m7=some ((I.ids++[(L+1,m0+1)]).map (hdr W 2)):=by rw [hSF,hids]; exact Ax (Be hp0)
   have hbF:Ak SF (L+4) (m7+1)=some ((t1.basis++[c+i]).map intA):=by rw [hSF,hbas]; exact Be (by rw [List.length_append,hp0]; rfl)
   have hoF:∀ j,j<L+3→j≠S.length→(0<i→j≠I.ir∧j≠I.ib)→nth SF j=nth SW j:=fun j h1 h2 _=>by
    rw [hSF,Da (by rw [List.length_append,hp0]; omega),Da (by rw [hp0]; exact h1),Aw (Ne.symm h2)]
   have hlF:SF.length=L+5:=by rw [hSF,List.length_append,List.length_append,hp0]; rfl
   have hIR:S.length+2<L+3:=by omega
   have hIB:S.length+2<L+4:=by omega
   have hAp:Apart ⟨I.it,I.et,L+3,m7,I.ic,I.ec,L+4,m7+1,I.ids++[(L+1,m0+1)]⟩ iq:=by
    rw [hids]
    constructor <;> first|(simp only; omega)|skip
    ·intro q hq
     simp only [List.nil_append,List.mem_singleton] at hq
     subst hq
     simp only
     exact ⟨by omega,by omega,by omega,by omega,by omega⟩
    ·intro a b x y hx hy hab
     have h1:=B5 hx
     have h2:=B5 hy
     simp only [List.nil_append,List.length_cons,List.length_nil] at h1 h2
     omega
   have hRA:Bi SF iq eq ⟨I.it,I.et,(L+3),m7,I.ic,I.ec,(L+4),(m7+1),I.ids++[(L+1,m0+1)]⟩ { t1 with rows:=t1.rows++[rowZ],cost:=p,basis:=t1.basis++[c+i],flip:=t1.flip++[fb],fl:=Bool.or (Bool.or t1.fl fr) fq } (D3 tk' cp 1):=by
    have hpl:p.length=W:=hpvl
    refine hRY.T.add (b:=c+i) (f:=fb) ?_ ?_ hbF ?_ (by show rowZ.length=p.length; omega) orowZ (fun q hq=>?_) ?_ (hRY.T.fa.of (hoF iq (by omega) (by omega) (fun _=>⟨by omega,by omega⟩))) hAp (by show t1.rows.length+1≤1000000; omega) (by show c+i<p.length; omega)
    ·rw [hIt.1,hIt.2.1,htF,hfle]; simp only [hIt.2.2,hpl,hre,hva,hrq,intA]
    ·rw [hrF]; simp only [hpl]
    ·rw [Ay (hoF (L+1) (by omega) (by omega) (fun h=>⟨by have:=hRY.low.ir (hne h); omega,by have:=hRY.low.ib (hne h); omega⟩))]; exact hRY.E16
    ·have hq1:=hRY.T.ap.row q hq
     have hq2:=hRY.low.row q hq
     exact hoF q.1 (by omega) (by have:=hIf.2.2 q hq; omega) (fun _=>⟨hq1.2.1,hq1.2.2.2.1⟩)
    ·exact hoF _ (by have:=hRY.low.ic; omega) (by omega) (fun _=>⟨hRY.T.ap.rc.symm,hRY.T.ap.cb⟩)
   refine X0 rfl (back _ ⟨sl2,_,_,D3 tk' cp 1,by omega,hR,hRA,by simp [hrq],hpvl,hre,hva,hsn2,hok2,?_,?_,fun j h1 h2=>?_,⟨hIt.1,hIt.2.1,hIt.2.2⟩,⟨hIR,hIB,fun q hq=>?_⟩,rfl,rfl,rfl,rfl,rfl,rfl,rfl,rfl,rfl,rfl,rfl⟩)
   ·show Ak SF _ _=_
    rw [Ay (hoF _ (by omega) (by omega) (fun _=>⟨by omega,by omega⟩))]; exact hRY.Z
   ·show _≤SF.length
    omega
   ·show nth SF j=_
    rw [hoF j (by omega) (by omega) (fun _=>⟨by omega,by omega⟩)]; exact hRY.fr j h1 h2
   ·rcases List.mem_append.1 hq with hq|hq
    ·exact hIf.2.2 q hq
    ·simp only [List.mem_singleton] at hq; subst hq; simp only; omega
  ·rw [Dj hi0,Dj hi0] at htc
   have hne:0<i→t1.rows≠[]:=fun h h0=>by rw [h0] at hrq; simp only [List.length_nil] at hrq; omega
   have hlS:S.length<SW.length:=by omega
   have hap:=hRY.T.ap
   have hirL:I.ir<L:=hRY.low.ir (hne hi0)
   have hibL:I.ib<L:=hRY.low.ib (hne hi0)
   have hrb:=hap.rb
   have hrE:Ak SW I.ir I.er=some (I.ids.map (hdr W 2)):=by have h:=hRY.T.rowsE (hne hi0); simp only [hpvl] at h; exact h
   have hbE:Ak SW I.ib I.eb=some (t1.basis.map intA):=hRY.T.basisE (hne hi0)
   have hrl:(I.ids.map (hdr W 2)).length=i:=by rw [List.length_map,hRY.T.nids]; exact hrq
   have hbl:(t1.basis.map intA).length=i:=by rw [List.length_map]; have:=hRY.T.nb; simp only at this; omega
   obtain ⟨U1,hU1⟩:∃ U1,U1=put SW I.ir ⟨m7,I.ids.map (hdr W 2)++[.sref (L+1) (m0+1) 0 W 2]⟩:=⟨_,rfl⟩
   have hl1:U1.length=L+3:=by rw [hU1,A7]; exact hlW
   have ht1:Ak U1 S.length k=some [.ifc 95 (.ref iq eq 0),.int (vars.length:Nat),.int (c:Nat),.sref I.ir I.er 0 i 1,.sref (S.length+2) I.ec 0 W 2,.sref I.ib I.eb 0 i 1,.frz (t1.flip.map Hq) cp]:=by rw [hU1,Bf (by omega)]; exact htc
   obtain ⟨U2,hU2⟩:∃ U2,U2=put U1 S.length ⟨k,[.ifc 95 (.ref iq eq 0),.int (vars.length:Nat),.int (c:Nat),.sref I.ir m7 0 (i+1) 1,.sref (S.length+2) I.ec 0 W 2,.sref I.ib I.eb 0 i 1,.frz (t1.flip.map Hq) cp]⟩:=⟨_,rfl⟩
   have hl2:U2.length=L+3:=by rw [hU2,A7]; exact hl1
   have ht2:Ak U2 S.length k=some [.ifc 95 (.ref iq eq 0),.int (vars.length:Nat),.int (c:Nat),.sref I.ir m7 0 (i+1) 1,.sref (S.length+2) I.ec 0 W 2,.sref I.ib I.eb 0 i 1,.frz (t1.flip.map Hq) cp]:=by rw [hU2]; exact A4 (by omega)
   have hb2:Ak U2 I.ib I.eb=some (t1.basis.map intA):=by rw [hU2,Bf (by omega),hU1,Bf hrb]; exact hbE
   obtain ⟨U3,hU3⟩:∃ U3,U3=put U2 I.ib ⟨m7+1,t1.basis.map intA++[.prim (.int .i64 ((c+i:Nat):Int))]⟩:=⟨_,rfl⟩
   have hl3:U3.length=L+3:=by rw [hU3,A7]; exact hl2
   have ht3:Ak U3 S.length k=some [.ifc 95 (.ref iq eq 0),.int (vars.length:Nat),.int (c:Nat),.sref I.ir m7 0 (i+1) 1,.sref (S.length+2) I.ec 0 W 2,.sref I.ib I.eb 0 i 1,.frz (t1.flip.map Hq) cp]:=by rw [hU3,Bf (by omega)]; exact ht2
   obtain ⟨U4,hU4⟩:∃ U4,U4=put U3 S.length ⟨k,[.ifc 95 (.ref iq eq 0),.int (vars.length:Nat),.int (c:Nat),.sref I.ir m7 0 (i+1) 1,.sref (S.length+2) I.ec 0 W 2,.sref I.ib (m7+1) 0 (i+1) 1,.frz (t1.flip.map Hq) cp]⟩:=⟨_,rfl⟩
   have hl4:U4.length=L+3:=by rw [hU4,A7]; exact hl3
   have ht4:Ak U4 S.length k=some [.ifc 95 (.ref iq eq 0),.int (vars.length:Nat),.int (c:Nat),.sref I.ir m7 0 (i+1) 1,.sref (S.length+2) I.ec 0 W 2,.sref I.ib (m7+1) 0 (i+1) 1,.frz (t1.flip.map Hq) cp]:=by rw [hU4]; exact A4 (by omega)
   obtain ⟨SF,hSF⟩:∃ SF,SF=put U4 S.length ⟨k,[.ifc 95 (.ref iq eq 0),.int (vars.length:Nat),.int (c:Nat),.sref I.ir m7 0 (i+1) 1,.sref (S.length+2) I.ec 0 W 2,.sref I.ib (m7+1) 0 (i+1) 1,.frz (t1.flip.map Hq++[[.prim (.bool fb)]]) (D3 tk' cp 1)]⟩:=⟨_,rfl⟩
   have hlF:SF.length=L+3:=by rw [hSF,A7]; exact hl4
   have hapF:=apB_one (y:=[.prim (.bool fb)]) hok hfo rfl hll
   have hap1:apO Tryz.prog 137 (.sref I.ir I.er 0 i 1) (.lit 1 [.sref (L+1) (m0+1) 0 W 2]) SW m7=some (.sref I.ir m7 0 (i+1) 1,U1,m7+1):=by rw [hU1]; exact Acn (by kernel_rfl) rfl hrE hrl hi0 (by omega)
   have hap2:∀ cc:Cap,apO Tryz.prog 37 (.sref I.ib I.eb 0 i 1) (.frz [[.prim (.int .i64 ((c+i:Nat):Int))]] cc) U2 (m7+1)=some (.sref I.ib (m7+1) 0 (i+1) 1,U3,m7+1+1):=fun cc=>by rw [hU3]; exact Acw (by kernel_rfl) rfl hb2 hbl hi0 (by omega)
   have hs2:=hU2.symm
   have hs4:=hU4.symm
   have hs5:=hSF.symm
   simp (maxSteps:=1000000) +contextual (disch:=first|with_reducible assumption|exact ⟨rfl⟩|exact ⟨rfl,rfl⟩|exact ⟨rfl,rfl,rfl⟩|(refine _root_.id ?_; kernel_rfl)|omega) only [evs,Ad,nth,put,putT,getT,Ai,Aj,Ab,aUn,outA,resA,mapO,Aq,Ar,w1,w2,w3,bots,cond_true,cond_false,if_true,if_false,ite_true,ite_false,reduceIte,reduceCtorEq,implies_true,Nat.reduceAdd,Nat.reduceSub,AV.int,AV.bool,AV.str,Nat.reduceBEq,Nat.reduceEqDiff,Nat.reduceMul,Nat.reduceLT,Nat.reduceLeDiff,Int.reduceNeg,BEq.rfl,beq_self_eq_true,tabl,cellsOf,fldA,ldA,stA,Bd,Bc,A2,A1,Ae,Af,Ac,List.take_left,List.take_length,Ao,Am,over,Ag,Value.oneCell',idxA,nilA,Aa,Ap,Ah,pure1,pure2,reps,chkA,tys,Tryz.results81,evt,Av,Au,Al,e0,e1,e2,e7,e10,e11,e12,e14,e15,e16,e18,e19,e83,e84,e85,e194,e195,c2,htc,hwci,hwi,hapF,hap1,hap2,V1,ht1,ht2,ht3,ht4,hs2,hs4,hs5]
   have htF:Ak SF S.length k=some [.ifc 95 (.ref iq eq 0),.int (vars.length:Nat),.int (c:Nat),.sref I.ir m7 0 (i+1) 1,.sref (S.length+2) I.ec 0 W 2,.sref I.ib (m7+1) 0 (i+1) 1,.frz (t1.flip.map Hq++[[.prim (.bool fb)]]) (D3 tk' cp 1)]:=by rw [hSF]; exact A4 (by omega)
   have hrF:Ak SF I.ir m7=some ((I.ids++[(L+1,m0+1)]).map (hdr W 2)):=by
    rw [hSF,Bf (by omega),hU4,Bf (by omega),hU3,Bf (Ne.symm hrb),hU2,Bf (by omega),hU1,A4 (by omega)]
    simp [hdr]
   have hbF:Ak SF I.ib (m7+1)=some ((t1.basis++[c+i]).map intA):=by
    rw [hSF,Bf (by omega),hU4,Bf (by omega),hU3,A4 (by omega)]
    simp [intA]
   have hoF:∀ j,j<L+3→j≠S.length→(0<i→j≠I.ir∧j≠I.ib)→nth SF j=nth SW j:=fun j h1 h2 h3=>by
    have h4:=h3 hi0
    rw [hSF,Aw (Ne.symm h2),hU4,Aw (Ne.symm h2),hU3,Aw (Ne.symm h4.2),hU2,Aw (Ne.symm h2),hU1,Aw (Ne.symm h4.1)]
   have hIR:S.length+2<I.ir:=hIf.1
   have hIB:S.length+2<I.ib:=hIf.2.1
   have hAp:Apart ⟨I.it,I.et,I.ir,m7,I.ic,I.ec,I.ib,m7+1,I.ids++[(L+1,m0+1)]⟩ iq:=by
    refine ⟨hap.tr,hap.tc,hap.tb,hap.rc,hap.rb,hap.cb,hap.qt,hap.qr,hap.qc,hap.qb,fun q hq=>?_,fun a b x y hx hy hab=>?_⟩
    ·rcases List.mem_append.1 hq with hq|hq
     ·exact hap.row q hq
     ·simp only [List.mem_singleton] at hq
      subst hq
      simp only
      exact ⟨by omega,by omega,by omega,by omega,by omega⟩
    ·have h1:=B5 hx
     have h2:=B5 hy
     rw [List.length_append] at h1 h2
     simp only [List.length_cons,List.length_nil] at h1 h2
     rw [Az] at hx hy
     by_cases ha:a<I.ids.length
     ·rw [List.getElem?_append_left ha,← Az] at hx
      by_cases hb:b<I.ids.length
      ·rw [List.getElem?_append_left hb,← Az] at hy
       exact hap.rows a b x y hx hy hab
      ·have hb2:b=I.ids.length:=by omega
       rw [hb2,List.getElem?_append_right (Nat.le_refl _),Nat.sub_self] at hy
       simp only [List.getElem?_cons_zero,Option.some.injEq] at hy
       subst hy
       have:=hRY.low.row x (Bj hx)
       simp only; omega
     ·have ha2:a=I.ids.length:=by omega
      have hb:b<I.ids.length:=by omega
      rw [ha2,List.getElem?_append_right (Nat.le_refl _),Nat.sub_self] at hx
      simp only [List.getElem?_cons_zero,Option.some.injEq] at hx
      subst hx
      rw [List.getElem?_append_left hb,← Az] at hy
      have:=hRY.low.row y (Bj hy)
      simp only; omega
   have hRA:Bi SF iq eq ⟨I.it,I.et,I.ir,m7,I.ic,I.ec,I.ib,(m7+1),I.ids++[(L+1,m0+1)]⟩ { t1 with rows:=t1.rows++[rowZ],cost:=p,basis:=t1.basis++[c+i],flip:=t1.flip++[fb],fl:=Bool.or (Bool.or t1.fl fr) fq } (D3 tk' cp 1):=by
    have hpl:p.length=W:=hpvl
    refine hRY.T.add (b:=c+i) (f:=fb) ?_ ?_ hbF ?_ (by show rowZ.length=p.length; omega) orowZ (fun q hq=>?_) ?_ (hRY.T.fa.of (hoF iq (by omega) (by omega) (fun _=>⟨by omega,by omega⟩))) hAp (by show t1.rows.length+1≤1000000; omega) (by show c+i<p.length; omega)
    ·rw [hIt.1,hIt.2.1,htF,hfle]; simp only [hIt.2.2,hpl,hre,hva,hrq,intA]
    ·rw [hrF]; simp only [hpl]
    ·rw [Ay (hoF (L+1) (by omega) (by omega) (fun h=>⟨by have:=hRY.low.ir (hne h); omega,by have:=hRY.low.ib (hne h); omega⟩))]; exact hRY.E16
    ·have hq1:=hRY.T.ap.row q hq
     have hq2:=hRY.low.row q hq
     exact hoF q.1 (by omega) (by have:=hIf.2.2 q hq; omega) (fun _=>⟨hq1.2.1,hq1.2.2.2.1⟩)
    ·exact hoF _ (by have:=hRY.low.ic; omega) (by omega) (fun _=>⟨hRY.T.ap.rc.symm,hRY.T.ap.cb⟩)
   refine X0 rfl (back _ ⟨sl2,_,_,D3 tk' cp 1,by omega,hR,hRA,by simp [hrq],hpvl,hre,hva,hsn2,hok2,?_,?_,fun j h1 h2=>?_,⟨hIt.1,hIt.2.1,hIt.2.2⟩,⟨hIR,hIB,fun q hq=>?_⟩,rfl,rfl,rfl,rfl,rfl,rfl,rfl,rfl,rfl,rfl,rfl⟩)
   ·show Ak SF _ _=_
    rw [Ay (hoF _ (by omega) (by omega) (fun _=>⟨by omega,by omega⟩))]; exact hRY.Z
   ·show _≤SF.length
    omega
   ·show nth SF j=_
    rw [hoF j (by omega) (by omega) (fun _=>⟨by omega,by omega⟩)]; exact hRY.fr j h1 h2
   ·rcases List.mem_append.1 hq with hq|hq
    ·exact hIf.2.2 q hq
    ·simp only [List.mem_singleton] at hq; subst hq; simp only; omega
end
end Go.Proofs.YtcjffhadclngmaaGreat
