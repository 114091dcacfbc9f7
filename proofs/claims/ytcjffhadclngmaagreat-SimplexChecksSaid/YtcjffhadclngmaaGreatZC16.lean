/- Q2 W1 V0 V1 V2 V3 V35 FCheck FVars FVars2 N1 Pos N2 N3 N4 V17a QV2 QV4 -/
import Derived.Test.YtcjffhadclngmaaGreatZC15
import Derived.Test.YtcjffhadclngmaaGreatZC9
namespace Go.Proofs.YtcjffhadclngmaaGreat
open Go
theorem Kt {a b:Int} (ha:a.natAbs<2147483648) (hb:b.natAbs<2147483648):(a*b).natAbs<4611686018427387904:=by
 rw [Int.natAbs_mul]
 exact Nat.mul_lt_mul'' ha hb
theorem Ky {a:Q} (h:okS a):a.1.natAbs<2147483648∧a.2.natAbs<2147483648:=by
 obtain ⟨h1,h2,h3,h4⟩:=h
 omega
theorem new3a {S:List Ent} {e2 e3:Ent} {k:Nat} {c:List AV} : Ak (S++[⟨k,c⟩]++[e2]++[e3]) S.length k=some c:=Ax (Ax Ae)
theorem new3b {S:List Ent} {e1 e3:Ent} {k:Nat} {c:List AV} : Ak (S++[e1]++[⟨k,c⟩]++[e3]) (S++[e1]).length k=some c:=Ax Ae
theorem new3c {S S':List Ent} {e1 e2 x1 x2:Ent} {k:Nat} {c:List AV} (h:S'.length=S.length):Ak (S'++[e1]++[e2]++[⟨k,c⟩]) (S++[x1]++[x2]).length k=some c:=Be (by simp [h])
theorem put3c {S S':List Ent} {e1 e2 x1 x2 e e':Ent} (h:S'.length=S.length):put (S'++[e1]++[e2]++[e]) (S++[x1]++[x2]).length e'=S'++[e1]++[e2]++[e']:=Ez (by simp [h])
theorem take3 {S S':List Ent} {e1 e2 e3:Ent} (h:S'.length=S.length):(S'++[e1]++[e2]++[e3]).take S.length=S':=by rw [← h]; simp
theorem flS3 {S:List Ent} {e1 e2 e3:Ent} {iq eq:Nat} {b:Bool} (h:iq<S.length):flS (S++[e1]++[e2]++[e3]) iq eq b=flS S iq eq b++[e1]++[e2]++[e3]:=by
 rw [Qe (by simp; omega),Qe (by simp; omega),Qe h]
theorem new1a {S:List Ent} {k:Nat} {c:List AV} : Ak (S++[⟨k,c⟩]) S.length k=some c:=Ae
section
variable (S:List Ent) (tk:List Nat) (k iq eq:Nat) (fl:Bool)
theorem Vs (a b:Q) (ha:okS a) (hb:okS b) (hq:Ak S iq eq=some [.prim (.bool fl)]):cL Tryz.prog 158 [.ref iq eq 0,frA a,frA b] S tk k=some (frA (qF.minus a b).1,flS S iq eq (qF.minus a b).2,tk,k+4):=by
 obtain ⟨ha1,ha2⟩:=Ky ha
 obtain ⟨hb1,hb2⟩:=Ky hb
 obtain ⟨an,ad⟩:=a
 obtain ⟨bn,bd⟩:=b
 simp only at ha1 ha2 hb1 hb2
 have p1:=Kt ha1 hb2
 have p2:=Kt hb1 ha2
 have p3:=Kt ha2 hb2
 have p4:=Kt ha1 hb1
 have p5:=Kt ha2 hb1
 have v1:IntKind.i64.wrap (an*bd)=an*bd:=A0 (by unfold i64; omega)
 have v2:IntKind.i64.wrap (bn*ad)=bn*ad:=A0 (by unfold i64; omega)
 have v3:IntKind.i64.wrap (ad*bd)=ad*bd:=A0 (by unfold i64; omega)
 have v4:IntKind.i64.wrap (an*bn)=an*bn:=A0 (by unfold i64; omega)
 have v5:IntKind.i64.wrap (ad*bn)=ad*bn:=A0 (by unfold i64; omega)
 have v6:IntKind.i64.wrap (an*bd - bn*ad)=an*bd - bn*ad:=A0 (by unfold i64; omega)
 have hil:=B1 hq
 have hq3:Ak (S++[⟨k,[.int an,.int ad]⟩]++[⟨k+1,[.int bn,.int bd]⟩]++[⟨k+1+1,[.int 0,.int 0]⟩]) iq eq=some [.prim (.bool fl)]:=Ax (Ax (Ax hq))
 refine Dz Tryz.func158 rfl rfl (by decide +kernel) Tryz.ntmps158 rfl ?_; rw [Bs]
 have hN:=Js _ tk (k+1+1+1) iq eq fl (an*bd - bn*ad) (ad*bd) (by omega) (by omega) hq3
 rw [flS3 hil] at hN
 have hpl:=Bo (S:=S) (iq:=iq) (eq:=eq) (b:=(qn (an*bd - bn*ad) (ad*bd)).2)
 simp only [frA] at hN
 simp (maxSteps:=1000000) +contextual (disch:=first|with_reducible assumption|exact ⟨rfl⟩|exact ⟨rfl,rfl⟩|exact ⟨rfl,rfl,rfl⟩|(refine _root_.id ?_; kernel_rfl)|omega) only [evs,Ad,nth,put,putT,getT,Ai,Aj,Ab,aUn,outA,resA,mapO,Aq,Ar,w1,w2,w3,bots,cond_true,cond_false,if_true,if_false,ite_true,ite_false,reduceIte,reduceCtorEq,implies_true,Nat.reduceAdd,Nat.reduceSub,AV.int,AV.bool,AV.str,Nat.reduceBEq,Nat.reduceEqDiff,Nat.reduceMul,Nat.reduceLT,Nat.reduceLeDiff,Int.reduceNeg,BEq.rfl,beq_self_eq_true,tabl,cellsOf,fldA,ldA,stA,Ae,Af,Ac,List.take_left,List.take_length,Ao,Am,over,Ag,Value.oneCell',idxA,nilA,Aa,Ap,Ah,pure1,pure2,reps,chkA,tys,Tryz.results158,evt,Av,Au,Ad,w2,w1,frA,v1,v2,v3,v6,hN,new3a,new3b,new3c hpl,put3c hpl,take3 hpl,qF]
theorem Vn (a b:Q) (ha:okS a) (hb:okS b) (hq:Ak S iq eq=some [.prim (.bool fl)]):cL Tryz.prog 162 [.ref iq eq 0,frA a,frA b] S tk k=some (frA (qF.times a b).1,flS S iq eq (qF.times a b).2,tk,k+4):=by
 obtain ⟨ha1,ha2⟩:=Ky ha
 obtain ⟨hb1,hb2⟩:=Ky hb
 obtain ⟨an,ad⟩:=a
 obtain ⟨bn,bd⟩:=b
 simp only at ha1 ha2 hb1 hb2
 have p1:=Kt ha1 hb2
 have p2:=Kt hb1 ha2
 have p3:=Kt ha2 hb2
 have p4:=Kt ha1 hb1
 have p5:=Kt ha2 hb1
 have v1:IntKind.i64.wrap (an*bd)=an*bd:=A0 (by unfold i64; omega)
 have v2:IntKind.i64.wrap (bn*ad)=bn*ad:=A0 (by unfold i64; omega)
 have v3:IntKind.i64.wrap (ad*bd)=ad*bd:=A0 (by unfold i64; omega)
 have v4:IntKind.i64.wrap (an*bn)=an*bn:=A0 (by unfold i64; omega)
 have v5:IntKind.i64.wrap (ad*bn)=ad*bn:=A0 (by unfold i64; omega)
 have v6:IntKind.i64.wrap (an*bd - bn*ad)=an*bd - bn*ad:=A0 (by unfold i64; omega)
 have hil:=B1 hq
 have hq3:Ak (S++[⟨k,[.int an,.int ad]⟩]++[⟨k+1,[.int bn,.int bd]⟩]++[⟨k+1+1,[.int 0,.int 0]⟩]) iq eq=some [.prim (.bool fl)]:=Ax (Ax (Ax hq))
 refine Dz Tryz.func162 rfl rfl (by decide +kernel) Tryz.ntmps162 rfl ?_; rw [Bs]
 have hN:=Js _ tk (k+1+1+1) iq eq fl (an*bn) (ad*bd) (by omega) (by omega) hq3
 rw [flS3 hil] at hN
 have hpl:=Bo (S:=S) (iq:=iq) (eq:=eq) (b:=(qn (an*bn) (ad*bd)).2)
 simp only [frA] at hN
 simp (maxSteps:=1000000) +contextual (disch:=first|with_reducible assumption|exact ⟨rfl⟩|exact ⟨rfl,rfl⟩|exact ⟨rfl,rfl,rfl⟩|(refine _root_.id ?_; kernel_rfl)|omega) only [evs,Ad,nth,put,putT,getT,Ai,Aj,Ab,aUn,outA,resA,mapO,Aq,Ar,w1,w2,w3,bots,cond_true,cond_false,if_true,if_false,ite_true,ite_false,reduceIte,reduceCtorEq,implies_true,Nat.reduceAdd,Nat.reduceSub,AV.int,AV.bool,AV.str,Nat.reduceBEq,Nat.reduceEqDiff,Nat.reduceMul,Nat.reduceLT,Nat.reduceLeDiff,Int.reduceNeg,BEq.rfl,beq_self_eq_true,tabl,cellsOf,fldA,ldA,stA,Ae,Af,Ac,List.take_left,List.take_length,Ao,Am,over,Ag,Value.oneCell',idxA,nilA,Aa,Ap,Ah,pure1,pure2,reps,chkA,tys,Tryz.results162,evt,Av,Au,Ad,w2,w1,frA,v3,v4,hN,new3a,new3b,new3c hpl,put3c hpl,take3 hpl,qF]
def Rh (b:Q):Nat:=if b.1=0 then 3 else 4
theorem Xw (a b:Q) (ha:okS a) (hb:okS b) (hq:Ak S iq eq=some [.prim (.bool fl)]):cL Tryz.prog 159 [.ref iq eq 0,frA a,frA b] S tk k=some (frA (qF.over a b).1,flS S iq eq (qF.over a b).2,tk,k+Rh b):=by
 obtain ⟨ha1,ha2⟩:=Ky ha
 obtain ⟨hb1,hb2⟩:=Ky hb
 obtain ⟨an,ad⟩:=a
 obtain ⟨bn,bd⟩:=b
 simp only at ha1 ha2 hb1 hb2
 have p1:=Kt ha1 hb2
 have p2:=Kt hb1 ha2
 have p3:=Kt ha2 hb2
 have p4:=Kt ha1 hb1
 have p5:=Kt ha2 hb1
 have v1:IntKind.i64.wrap (an*bd)=an*bd:=A0 (by unfold i64; omega)
 have v2:IntKind.i64.wrap (bn*ad)=bn*ad:=A0 (by unfold i64; omega)
 have v3:IntKind.i64.wrap (ad*bd)=ad*bd:=A0 (by unfold i64; omega)
 have v4:IntKind.i64.wrap (an*bn)=an*bn:=A0 (by unfold i64; omega)
 have v5:IntKind.i64.wrap (ad*bn)=ad*bn:=A0 (by unfold i64; omega)
 have v6:IntKind.i64.wrap (an*bd - bn*ad)=an*bd - bn*ad:=A0 (by unfold i64; omega)
 have hil:=B1 hq
 have hq3:Ak (S++[⟨k,[.int an,.int ad]⟩]++[⟨k+1,[.int bn,.int bd]⟩]++[⟨k+1+1,[.int 0,.int 0]⟩]) iq eq=some [.prim (.bool fl)]:=Ax (Ax (Ax hq))
 refine Dz Tryz.func159 rfl rfl (by decide +kernel) Tryz.ntmps159 rfl ?_; rw [Bs]
 by_cases hz:bn=0
 ·have d1:(bn == 0)=true:=by simpa using hz
  have hov:qF.over (an,ad) (bn,bd)=((0,1),true):=by simp [qF,hz]
  have hko:Rh (bn,bd)=3:=by simp [Rh,hz]
  have hf3:∀ e1 e2 e3,put (S++[e1]++[e2]++[e3]) iq ⟨eq,[.prim (.bool true)]⟩=flS S iq eq true++[e1]++[e2]++[e3]:=fun e1 e2 e3=>flS3 (b:=true) hil
  have hpl:=Bo (S:=S) (iq:=iq) (eq:=eq) (b:=true)
  rw [hov,hko]
  simp (maxSteps:=1000000) +contextual (disch:=first|with_reducible assumption|exact ⟨rfl⟩|exact ⟨rfl,rfl⟩|exact ⟨rfl,rfl,rfl⟩|(refine _root_.id ?_; kernel_rfl)|omega) only [evs,Ad,nth,put,putT,getT,Ai,Aj,Ab,aUn,outA,resA,mapO,Aq,Ar,w1,w2,w3,bots,cond_true,cond_false,if_true,if_false,ite_true,ite_false,reduceIte,reduceCtorEq,implies_true,Nat.reduceAdd,Nat.reduceSub,AV.int,AV.bool,AV.str,Nat.reduceBEq,Nat.reduceEqDiff,Nat.reduceMul,Nat.reduceLT,Nat.reduceLeDiff,Int.reduceNeg,BEq.rfl,beq_self_eq_true,tabl,cellsOf,fldA,ldA,stA,Ae,Af,Ac,List.take_left,List.take_length,Ao,Am,over,Ag,Value.oneCell',idxA,nilA,Aa,Ap,Ah,pure1,pure2,reps,chkA,tys,Tryz.results159,evt,Av,Au,Ad,w2,w1,frA,d1,hq3,hf3,new3a,new3b,new3c hpl,put3c hpl,take3 hpl]
 ·have d1:(bn == 0)=false:=by simpa using hz
  have hov:qF.over (an,ad) (bn,bd)=qn (an*bd) (ad*bn):=by simp [qF,hz]
  have hko:Rh (bn,bd)=4:=by simp [Rh,hz]
  have hN:=Js _ tk (k+1+1+1) iq eq fl (an*bd) (ad*bn) (by omega) (by omega) hq3
  rw [flS3 hil] at hN
  have hpl:=Bo (S:=S) (iq:=iq) (eq:=eq) (b:=(qn (an*bd) (ad*bn)).2)
  simp only [frA] at hN
  rw [hov,hko]
  simp (maxSteps:=1000000) +contextual (disch:=first|with_reducible assumption|exact ⟨rfl⟩|exact ⟨rfl,rfl⟩|exact ⟨rfl,rfl,rfl⟩|(refine _root_.id ?_; kernel_rfl)|omega) only [evs,Ad,nth,put,putT,getT,Ai,Aj,Ab,aUn,outA,resA,mapO,Aq,Ar,w1,w2,w3,bots,cond_true,cond_false,if_true,if_false,ite_true,ite_false,reduceIte,reduceCtorEq,implies_true,Nat.reduceAdd,Nat.reduceSub,AV.int,AV.bool,AV.str,Nat.reduceBEq,Nat.reduceEqDiff,Nat.reduceMul,Nat.reduceLT,Nat.reduceLeDiff,Int.reduceNeg,BEq.rfl,beq_self_eq_true,tabl,cellsOf,fldA,ldA,stA,Ae,Af,Ac,List.take_left,List.take_length,Ao,Am,over,Ag,Value.oneCell',idxA,nilA,Aa,Ap,Ah,pure1,pure2,reps,chkA,tys,Tryz.results159,evt,Av,Au,Ad,w2,w1,frA,d1,v1,v5,hN,new3a,new3b,new3c hpl,put3c hpl,take3 hpl]
theorem Vh (n:Int) (hq:Ak S iq eq=some [.prim (.bool fl)]):cL Tryz.prog 163 [.ref iq eq 0,.int n] S tk k=some (frA (qF.whole n).1,flS S iq eq (qF.whole n).2,tk,k+1):=by
 have hil:=B1 hq
 have hq1:Ak (S++[⟨k,[.int 0,.int 0]⟩]) iq eq=some [.prim (.bool fl)]:=Ax hq
 have hpl:(put S iq ⟨eq,[.prim (.bool true)]⟩).length=S.length:=A7
 have hE:=fun cs=>Be (k:=k) (cs:=cs) hpl
 have hP:=fun e e'=>Ez (e:=e) (e':=e') hpl
 have hT:=fun L=>Lc (L:=L) hpl
 have hA:=fun L x=>Em (L:=L) (x:=x) hil
 refine Dz Tryz.func163 rfl rfl (by decide +kernel) Tryz.ntmps163 rfl ?_; rw [Bs]
 by_cases b1:n≤-2147483648
 ·have k1:decide (n≤-2147483648)=true:=by simpa using b1
  have hr:qF.whole n=((0,1),true):=by simp [qF,b1]
  rw [hr]
  simp (maxSteps:=1000000) +contextual (disch:=first|with_reducible assumption|exact ⟨rfl⟩|exact ⟨rfl,rfl⟩|exact ⟨rfl,rfl,rfl⟩|(refine _root_.id ?_; kernel_rfl)|omega) only [evs,Ad,nth,put,putT,getT,Ai,Aj,Ab,aUn,outA,resA,mapO,Aq,Ar,w1,w2,w3,bots,cond_true,cond_false,if_true,if_false,ite_true,ite_false,reduceIte,reduceCtorEq,implies_true,Nat.reduceAdd,Nat.reduceSub,AV.int,AV.bool,AV.str,Nat.reduceBEq,Nat.reduceEqDiff,Nat.reduceMul,Nat.reduceLT,Nat.reduceLeDiff,Int.reduceNeg,BEq.rfl,beq_self_eq_true,tabl,cellsOf,fldA,ldA,stA,Ae,Af,Ac,List.take_left,List.take_length,Ao,Am,over,Ag,Value.oneCell',idxA,nilA,Aa,Ap,Ah,pure1,pure2,reps,chkA,tys,Tryz.results163,evt,Av,Au,Ad,w2,w1,frA,Bl,k1,hq1,hE,hP,hT,hA]
 have k1:decide (n≤-2147483648)=false:=by simpa using b1
 by_cases b2:n ≥ 2147483648
 ·have k2:decide (n ≥ 2147483648)=true:=by simpa using b2
  have hr:qF.whole n=((0,1),true):=by simp only [qF]; rw [if_pos (.inr b2)]
  rw [hr]
  simp (maxSteps:=1000000) +contextual (disch:=first|with_reducible assumption|exact ⟨rfl⟩|exact ⟨rfl,rfl⟩|exact ⟨rfl,rfl,rfl⟩|(refine _root_.id ?_; kernel_rfl)|omega) only [evs,Ad,nth,put,putT,getT,Ai,Aj,Ab,aUn,outA,resA,mapO,Aq,Ar,w1,w2,w3,bots,cond_true,cond_false,if_true,if_false,ite_true,ite_false,reduceIte,reduceCtorEq,implies_true,Nat.reduceAdd,Nat.reduceSub,AV.int,AV.bool,AV.str,Nat.reduceBEq,Nat.reduceEqDiff,Nat.reduceMul,Nat.reduceLT,Nat.reduceLeDiff,Int.reduceNeg,BEq.rfl,beq_self_eq_true,tabl,cellsOf,fldA,ldA,stA,Ae,Af,Ac,List.take_left,List.take_length,Ao,Am,over,Ag,Value.oneCell',idxA,nilA,Aa,Ap,Ah,pure1,pure2,reps,chkA,tys,Tryz.results163,evt,Av,Au,Ad,w2,w1,frA,Bl,k1,k2,hq1,hE,hP,hT,hA]
 have k2:decide (n ≥ 2147483648)=false:=by simpa using b2
 have hr:qF.whole n=((n,1),false):=by simp only [qF]; rw [if_neg (by omega)]
 rw [hr]
 simp (maxSteps:=1000000) +contextual (disch:=first|with_reducible assumption|exact ⟨rfl⟩|exact ⟨rfl,rfl⟩|exact ⟨rfl,rfl,rfl⟩|(refine _root_.id ?_; kernel_rfl)|omega) only [evs,Ad,nth,put,putT,getT,Ai,Aj,Ab,aUn,outA,resA,mapO,Aq,Ar,w1,w2,w3,bots,cond_true,cond_false,if_true,if_false,ite_true,ite_false,reduceIte,reduceCtorEq,implies_true,Nat.reduceAdd,Nat.reduceSub,AV.int,AV.bool,AV.str,Nat.reduceBEq,Nat.reduceEqDiff,Nat.reduceMul,Nat.reduceLT,Nat.reduceLeDiff,Int.reduceNeg,BEq.rfl,beq_self_eq_true,tabl,cellsOf,fldA,ldA,stA,Ae,Af,Ac,List.take_left,List.take_length,Ao,Am,over,Ag,Value.oneCell',idxA,nilA,Aa,Ap,Ah,pure1,pure2,reps,chkA,tys,Tryz.results163,evt,Av,Au,Ad,w2,w1,frA,En,k1,k2,hq1]
theorem Xy (a:Q) (hq:Ak S iq eq=some [.prim (.bool fl)]):cL Tryz.prog 161 [.ref iq eq 0,frA a] S tk k=some (.int (sgn a),S,tk,k+1):=by
 obtain ⟨an,ad⟩:=a
 refine Dz Tryz.func161 rfl rfl (by decide +kernel) Tryz.ntmps161 rfl ?_; rw [Bs]
 by_cases h1:an<0
 ·have k1:decide (an<0)=true:=by simpa using h1
  have hr:sgn (an,ad)=-1:=by simp [sgn,h1]
  rw [hr]
  simp (maxSteps:=1000000) +contextual (disch:=first|with_reducible assumption|exact ⟨rfl⟩|exact ⟨rfl,rfl⟩|exact ⟨rfl,rfl,rfl⟩|(refine _root_.id ?_; kernel_rfl)|omega) only [evs,Ad,nth,put,putT,getT,Ai,Aj,Ab,aUn,outA,resA,mapO,Aq,Ar,w1,w2,w3,bots,cond_true,cond_false,if_true,if_false,ite_true,ite_false,reduceIte,reduceCtorEq,implies_true,Nat.reduceAdd,Nat.reduceSub,AV.int,AV.bool,AV.str,Nat.reduceBEq,Nat.reduceEqDiff,Nat.reduceMul,Nat.reduceLT,Nat.reduceLeDiff,Int.reduceNeg,BEq.rfl,beq_self_eq_true,tabl,cellsOf,fldA,ldA,stA,Ae,Af,Ac,List.take_left,List.take_length,Ao,Am,over,Ag,Value.oneCell',idxA,nilA,Aa,Ap,Ah,pure1,pure2,reps,chkA,tys,Tryz.results161,evt,Av,Au,Ad,w2,w1,frA,k1,new1a,Ja]
 have k1:decide (an<0)=false:=by simpa using h1
 by_cases h2:an > 0
 ·have k2:decide (an > 0)=true:=by simpa using h2
  have hr:sgn (an,ad)=1:=by simp only [sgn]; rw [if_neg h1,if_pos h2]
  rw [hr]
  simp (maxSteps:=1000000) +contextual (disch:=first|with_reducible assumption|exact ⟨rfl⟩|exact ⟨rfl,rfl⟩|exact ⟨rfl,rfl,rfl⟩|(refine _root_.id ?_; kernel_rfl)|omega) only [evs,Ad,nth,put,putT,getT,Ai,Aj,Ab,aUn,outA,resA,mapO,Aq,Ar,w1,w2,w3,bots,cond_true,cond_false,if_true,if_false,ite_true,ite_false,reduceIte,reduceCtorEq,implies_true,Nat.reduceAdd,Nat.reduceSub,AV.int,AV.bool,AV.str,Nat.reduceBEq,Nat.reduceEqDiff,Nat.reduceMul,Nat.reduceLT,Nat.reduceLeDiff,Int.reduceNeg,BEq.rfl,beq_self_eq_true,tabl,cellsOf,fldA,ldA,stA,Ae,Af,Ac,List.take_left,List.take_length,Ao,Am,over,Ag,Value.oneCell',idxA,nilA,Aa,Ap,Ah,pure1,pure2,reps,chkA,tys,Tryz.results161,evt,Av,Au,Ad,w2,w1,frA,k1,k2,new1a,Ja]
 have k2:decide (an > 0)=false:=by simpa using h2
 have hr:sgn (an,ad)=0:=by simp only [sgn]; rw [if_neg h1,if_neg h2]
 rw [hr]
 simp (maxSteps:=1000000) +contextual (disch:=first|with_reducible assumption|exact ⟨rfl⟩|exact ⟨rfl,rfl⟩|exact ⟨rfl,rfl,rfl⟩|(refine _root_.id ?_; kernel_rfl)|omega) only [evs,Ad,nth,put,putT,getT,Ai,Aj,Ab,aUn,outA,resA,mapO,Aq,Ar,w1,w2,w3,bots,cond_true,cond_false,if_true,if_false,ite_true,ite_false,reduceIte,reduceCtorEq,implies_true,Nat.reduceAdd,Nat.reduceSub,AV.int,AV.bool,AV.str,Nat.reduceBEq,Nat.reduceEqDiff,Nat.reduceMul,Nat.reduceLT,Nat.reduceLeDiff,Int.reduceNeg,BEq.rfl,beq_self_eq_true,tabl,cellsOf,fldA,ldA,stA,Ae,Af,Ac,List.take_left,List.take_length,Ao,Am,over,Ag,Value.oneCell',idxA,nilA,Aa,Ap,Ah,pure1,pure2,reps,chkA,tys,Tryz.results161,evt,Av,Au,Ad,w2,w1,frA,k1,k2,new1a,Ja]
theorem U9 (hq:Ak S iq eq=some [.prim (.bool fl)]):cL Tryz.prog 157 [.ref iq eq 0] S tk k=some (.bool (!fl),S,tk,k):=by
 refine Dz Tryz.func157 rfl rfl (by decide +kernel) Tryz.ntmps157 rfl ?_; rw [Bs]
 simp (maxSteps:=1000000) +contextual (disch:=first|with_reducible assumption|exact ⟨rfl⟩|exact ⟨rfl,rfl⟩|exact ⟨rfl,rfl,rfl⟩|(refine _root_.id ?_; kernel_rfl)|omega) only [evs,Ad,nth,put,putT,getT,Ai,Aj,Ab,aUn,outA,resA,mapO,Aq,Ar,w1,w2,w3,bots,cond_true,cond_false,if_true,if_false,ite_true,ite_false,reduceIte,reduceCtorEq,implies_true,Nat.reduceAdd,Nat.reduceSub,AV.int,AV.bool,AV.str,Nat.reduceBEq,Nat.reduceEqDiff,Nat.reduceMul,Nat.reduceLT,Nat.reduceLeDiff,Int.reduceNeg,BEq.rfl,beq_self_eq_true,tabl,cellsOf,fldA,ldA,stA,Ae,Af,Ac,List.take_left,List.take_length,Ao,Am,over,Ag,Value.oneCell',idxA,nilA,Aa,Ap,Ah,pure1,pure2,reps,chkA,tys,Tryz.results157,evt,Av,Au,Ad,w2,w1,hq]
theorem Of_z (n d:Int) (hn:(dig n.natAbs).length≤200) (hd:(dig d.natAbs).length≤200):cL Tryz.prog 165 [zA n,zA d] S tk k=some (resQ n d,S,tk,k):=by
 have h:=Agj S tk k (decide (n<0)) (dig n.natAbs) (decide (d<0)) (dig d.natAbs) (by omega) (by omega)
 unfold ofQ at h
 rw [V_of _ hn,V_of _ hd] at h
 by_cases h0:Gl (decide (n<0)) (dig n.natAbs)=true
 ·rw [if_pos h0] at h; exact h
 ·exact absurd (Wi n hn) h0
theorem digS {n:Int} (h:n.natAbs<2147483648):(dig n.natAbs).length≤200:=by
 refine D4.2 ?_
 have:n.natAbs<10000 ^ 5:=by omega
 exact Nat.lt_of_lt_of_le this (Nat.pow_le_pow_right (by omega) (by omega))
theorem Pl (a:Q) (ha:okS a) (_:Ak S iq eq=some [.prim (.bool fl)]):cL Tryz.prog 160 [.ref iq eq 0,frA a] S tk k=some (qA (resN a.1 a.2) (resD a.1 a.2),S,tk,k+3):=by
 obtain ⟨ha1,ha2⟩:=Ky ha
 obtain ⟨an,ad⟩:=a
 simp only at ha1 ha2
 have h1:=fun S tk k=>V2 S tk k an (by unfold i64; omega)
 have h2:=fun S tk k=>V2 S tk k ad (by unfold i64; omega)
 have h3:=fun S tk k=>Of_z S tk k an ad (digS ha1) (digS ha2)
 simp only [zA,bigA,digA] at h1 h2 h3
 simp only [resQ,qA,ratA,digA] at h3 ⊢
 refine Dz Tryz.func160 rfl rfl (by decide +kernel) Tryz.ntmps160 rfl ?_; rw [Bs]
 simp (maxSteps:=1000000) +contextual (disch:=first|with_reducible assumption|exact ⟨rfl⟩|exact ⟨rfl,rfl⟩|exact ⟨rfl,rfl,rfl⟩|(refine _root_.id ?_; kernel_rfl)|omega) only [evs,Ad,nth,put,putT,getT,Ai,Aj,Ab,aUn,outA,resA,mapO,Aq,Ar,w1,w2,w3,bots,cond_true,cond_false,if_true,if_false,ite_true,ite_false,reduceIte,reduceCtorEq,implies_true,Nat.reduceAdd,Nat.reduceSub,AV.int,AV.bool,AV.str,Nat.reduceBEq,Nat.reduceEqDiff,Nat.reduceMul,Nat.reduceLT,Nat.reduceLeDiff,Int.reduceNeg,BEq.rfl,beq_self_eq_true,tabl,cellsOf,fldA,ldA,stA,Ae,Af,Ac,List.take_left,List.take_length,Ao,Am,over,Ag,Value.oneCell',idxA,nilA,Aa,Ap,Ah,pure1,pure2,reps,chkA,tys,Tryz.results160,evt,Av,Au,Al,w2,w1,frA,digA,h1,h2,h3,new1a,Ja]
 rw [take3 rfl]
end
end Go.Proofs.YtcjffhadclngmaaGreat
namespace Go.Proofs.YtcjffhadclngmaaGreat
open Go
end Go.Proofs.YtcjffhadclngmaaGreat
namespace Go.Proofs.YtcjffhadclngmaaGreat
open Go
section
variable {P:Program} {fn:Func} {k:List Kont}
abbrev Rs:=AV × List Ent × List Nat × Nat
def Gd (fin:Option (AV × St)→Option Rs) (Φ:Rs→Prop) (x:Option (AV × St)):Prop:=∃ r,fin x=some r∧Φ r
theorem Bd {m:Nat} {Φ:Rs→Prop} {t:Bool} {a b:Option (AV × St)} {tg:Tag (a,b)} : Gd (finS m) Φ (BR (some t) a b tg)↔(t=true→Gd (finS m) Φ a)∧(t=false→Gd (finS m) Φ b):=by
 cases t <;> simp [BR,br]
theorem Bc {Φ:Rs→Prop} {t:Bool} {a b:Option (AV × St)} {tg:Tag (a,b)} : Gd finM Φ (BR (some t) a b tg)↔(t=true→Gd finM Φ a)∧(t=false→Gd finM Φ b):=by
 cases t <;> simp [BR,br]
theorem A2 {m:Nat} {Φ:Rs→Prop} {r:AV} {s:St} : Gd (finS m) Φ (some (r,s))↔Φ (fz3 m s.S r,s.S.take m,s.tk,s.n):=by simp [Gd,finS]
theorem A1 {Φ:Rs→Prop} {r:AV} {s:St} : Gd finM Φ (some (r,s))↔Φ (r,s.S,s.tk,s.n):=by simp [Gd,finM]
theorem Hs [Globs] [Ext P] {ι:Type} {c:Code} {fin:Option (AV × St)→Option Rs} {Φ:Rs→Prop} {tg:Tag (Code.loop c,k)} (I:ι→St→Prop) (μ:ι→Nat) (x:ι)
  (h:∀ x st,I x st→(∀ y st',μ y<μ x→I y st'→Gd fin Φ (KX P fn (.loop c) st' k .mk))→Gd fin Φ (KX P fn c st (.loop c st.S.length :: k) .mk)) {st:St} (h0:I x st):Gd fin Φ (KX P fn (.loop c) st k tg):=by
 have key:∀ n x st,μ x=n→I x st→Gd fin Φ (KX P fn (.loop c) st k .mk):=by
  intro n
  induction n using Nat.strongRecOn with
  | _ n ih =>
   intro x st hn hI
   show Gd fin Φ (RK P fn (.loop c) st k)
   rw [U7]
   exact h x st hI fun y st' hlt hy=>ih (μ y) (hn ▸ hlt) y st' rfl hy
 exact key _ x st rfl h0
theorem Bv [Globs] [Ext P] {f : FuncId} {c : Code} (hf : P.funcs[f]? = some fn) (hx : (Ext.on P f || Ext.mv P f) = false) (hb : fn.body = some c) (hname : (fn.name == "runtime.NumGoroutine") = false) {args : List AV} {nt : Nat} (hnt : fn.ntmps = nt) (hp : (args.map w2).all pure2 = false) {S : List Ent} {tk : List Nat} {n : Nat} {Φ : Rs → Prop}
  (h:Gd (finS S.length) Φ (RK P fn c ⟨args++bots (nt - args.length),S,tk,n⟩ [])):∃ r,cL P f args S tk n=some r∧Φ r:=by
 obtain ⟨r,h1,h2⟩:=h
 exact ⟨r,Dz hf hx hb hname hnt hp h1,h2⟩
theorem Ab4 [Globs] [Ext P] {f : FuncId} {c : Code} (hf : P.funcs[f]? = some fn) (hx : (!Ext.on P f && Ext.mv P f) = true) (hb : fn.body = some c) (hname : (fn.name == "runtime.NumGoroutine") = false) {args : List AV} {nt : Nat} (hnt : fn.ntmps = nt) {S : List Ent} {tk : List Nat} {n : Nat} {Φ : Rs → Prop}
  (h:Gd finM Φ (RK P fn c ⟨args++bots (nt - args.length),S,tk,n⟩ [])):∃ r,cL P f args S tk n=some r∧Φ r:=by
 obtain ⟨r,h1,h2⟩:=h
 exact ⟨r,Aet hf hx hb hname hnt h1,h2⟩
end
/- rows of cells -/
theorem N0 {sz:Nat} : ∀ {e r:List AV},e.length=sz→Am sz (e++r)=some e:=by
 induction sz with
 | zero=>intro e r h; rw [List.length_eq_zero_iff.1 h]; rfl
 | succ n ih =>
  intro e r h
  cases e with
  | nil=>simp at h
  | cons x e=>simp only [List.cons_append,Am,ih (by simpa using h),Option.map_some]
theorem Re {e':List AV} : ∀ {e r:List AV},e.length=e'.length→over (e++r) 0 e'=some (e'++r):=by
 induction e' with
 | nil=>intro e r h; rw [List.length_eq_zero_iff.1 h]; simp [over]
 | cons x e' ih =>
  intro e r h
  cases e with
  | nil=>simp at h
  | cons y e=>simp only [List.cons_append,over,ih (by simpa using h),Option.map_some]
section
variable {sz:Nat}
theorem R9:∀ {es:List (List AV)} {k:Nat} {e:List AV},(∀ e ∈ es,e.length=sz)→nth es k=some e→Am sz (es.flatten.drop (k*sz))=some e
 | x :: es,0,e,h,hk=>by
  simp only [nth,Option.some.injEq] at hk
  subst hk
  simp only [Nat.zero_mul,List.drop_zero,List.flatten_cons]
  exact N0 (h _ (by simp))
 | x :: es,k+1,e,h,hk=>by
  have hx:=h x (by simp)
  have e1:(k+1)*sz=x.length+k*sz:=by rw [hx,Nat.succ_mul,Nat.add_comm]
  rw [e1,List.flatten_cons,List.drop_append]
  simp only [Nat.add_sub_cancel_left]
  rw [List.drop_eq_nil_of_le (by omega),List.nil_append]
  exact R9 (fun e he=>h e (by simp [he])) hk
 | [],_,_,_,hk=>by simp [nth] at hk
theorem No:∀ {es:List (List AV)} {k:Nat} {e e':List AV},(∀ e ∈ es,e.length=sz)→nth es k=some e→e'.length=sz→over es.flatten (k*sz) e'=some (put es k e').flatten
 | x :: es,0,e,e',h,_,he=>by
  simp only [Nat.zero_mul,List.flatten_cons,put]
  exact Re (by rw [h x (by simp),he])
 | x :: es,k+1,e,e',h,hk,he=>by
  have hx:=h x (by simp)
  have e1:(k+1)*sz=x.length+k*sz:=by rw [hx,Nat.succ_mul,Nat.add_comm]
  have ih:=No (es:=es) (k:=k) (fun e he=>h e (by simp [he])) hk he
  have gen:∀ (p cs:List AV) (o:Nat) (r:List AV),over cs o e'=some r→over (p++cs) (p.length+o) e'=some (p++r):=by
   intro p
   induction p with
   | nil=>intro cs o r h; simpa using h
   | cons y p ih =>
    intro cs o r h
    have:=ih cs o r h
    have e2:(y :: p).length+o=(p.length+o)+1:=by simp; omega
    rw [e2]
    cases e' <;> simp only [List.cons_append,over,this,Option.map_some]
  rw [e1,List.flatten_cons]
  simp only [put,List.flatten_cons]
  exact gen x _ _ _ ih
 | [],_,_,_,_,hk,_=>by simp [nth] at hk
end
def flat (ce:Q→List AV) (l:List Q):List AV:=(l.map ce).flatten
section
variable {ce:Q→List AV} {sz:Nat} (hce:∀ q,(ce q).length=sz)
include hce
theorem Bu {l:List Q} {k:Nat} {q:Q} (h:nth l k=some q):Am sz ((flat ce l).drop (k*sz))=some (ce q):=by
 unfold flat
 refine R9 (fun e he=>?_) ?_
 ·obtain ⟨x,-,rfl⟩:=List.mem_map.1 he
  exact hce x
 ·rw [Az] at h ⊢; rw [List.getElem?_map,h]; rfl
theorem De {l:List Q} {k:Nat} {q':Q} (h:k<l.length):over (flat ce l) (k*sz) (ce q')=some (flat ce (put l k q')):=by
 unfold flat
 rw [← Q2]
 refine No (e:=ce l[k]) (fun e he=>?_) ?_ (hce q')
 ·obtain ⟨x,-,rfl⟩:=List.mem_map.1 he
  exact hce x
 ·rw [Az,List.getElem?_map,List.getElem?_eq_getElem h]; rfl
end
end Go.Proofs.YtcjffhadclngmaaGreat
namespace Go.Proofs.YtcjffhadclngmaaGreat
open Go
def ceQ (a:Q):List AV:=[.int a.1,.int a.2]
def ceW (a:Q):List AV:=[.prim (.bool (decide (a.1<0))),digA (dig a.1.natAbs),.prim (.bool (decide (a.2<0))),digA (dig a.2.natAbs)]
theorem Ba (a:Q):(ceQ a).length=2:=rfl
theorem L0 (a:Q):(ceW a).length=4:=rfl
theorem Bq (a:Q):(ceQ a).all Ag=true:=rfl
theorem J5 (a:Q):(ceW a).all Ag=true:=rfl
theorem Adp (m:Nat) (S:List Ent) (a:Q):(ceQ a).map (fz1 m S)=ceQ a:=rfl
theorem Af8 (m:Nat) (S:List Ent) (a:Q):(ceW a).map (fz1 m S)=ceW a:=rfl
theorem ovQ (a:Q):over [.int 0,.int 0] 0 (ceQ a)=some (ceQ a):=rfl
theorem ovQ2 (a b:Q):over (ceQ b) 0 (ceQ a)=some (ceQ a):=rfl
theorem ovW (a:Q):over [.prim (.bool false),.frz [] .nilc,.prim (.bool false),.frz [] .nilc] 0 (ceW a)=some (ceW a):=rfl
theorem tkQ (a:Q):Am 2 (ceQ a)=some (ceQ a):=rfl
theorem tkW (a:Q):Am 4 (ceW a)=some (ceW a):=rfl
theorem puQ (a:Q):((ceQ a).map w1).all pure1=true:=rfl
theorem puW (a:Q):((ceW a).map w1).all pure1=true:=rfl
theorem V9 (a:Q):(ceW a).all pure1=true:=rfl
theorem Abb (a:Q):(ceW a).map w1=ceW a:=rfl
def FAq (S:List Ent) (iq eq:Nat) (b:Bool):Prop:=Ak S iq eq=some [.prim (.bool b)]
structure FAw (_:List Ent) (_ _:Nat) (_:Bool):Prop where
def flW (S:List Ent) (_ _:Nat) (_:Bool):List Ent:=S
theorem D1 {S:List Ent} {iq eq:Nat} {b c:Bool} (h:FAq S iq eq b):gO S (flS S iq eq c)=some ():=Agg h
theorem FAq.fS {S:List Ent} {iq eq:Nat} {b c:Bool} (h:FAq S iq eq b):FAq (flS S iq eq c) iq eq (b || c):=Aan h
theorem FAw.fS {S:List Ent} {iq eq:Nat} {b c:Bool} (_:FAw S iq eq b):FAw (flW S iq eq c) iq eq (b || c):=⟨⟩
theorem FAq.app {S L:List Ent} {iq eq:Nat} {b:Bool} (h:FAq S iq eq b):FAq (S++L) iq eq b:=Ax h
theorem FAw.app {S L:List Ent} {iq eq:Nat} {b:Bool} (_:FAw S iq eq b):FAw (S++L) iq eq b:=⟨⟩
theorem Gg {S L:List Ent} {iq eq:Nat} {b c:Bool} (h:FAq S iq eq c):flS (S++L) iq eq b=flS S iq eq b++L:=Qe (B1 h)
theorem FAq.put {S:List Ent} {iq eq i:Nat} {b:Bool} {x:Ent} (h:FAq S iq eq b) (hne:i≠iq):FAq (put S i x) iq eq b:=by unfold FAq; rw [Bf hne]; exact h
theorem FAw.put {S:List Ent} {iq eq i:Nat} {b:Bool} {x:Ent} (_:FAw S iq eq b) (_:i≠iq):FAw (put S i x) iq eq b:=⟨⟩
theorem FAq.of {S S':List Ent} {iq eq:Nat} {b:Bool} (h:FAq S iq eq b) (hne:nth S' iq=nth S iq):FAq S' iq eq b:=by unfold FAq; rw [Ay hne]; exact h
theorem FAw.of {S S':List Ent} {iq eq:Nat} {b:Bool} (_:FAw S iq eq b) (_:nth S' iq=nth S iq):FAw S' iq eq b:=⟨⟩
section
variable (S:List Ent) (tk:List Nat) (k iq eq:Nat) (fl:Bool)
theorem Jk (a b:Q) (ha:qF.ok a) (hb:qF.ok b) (hq:FAq S iq eq fl):cL Tryz.prog 158 [.ref iq eq 0,.agg (ceQ a),.agg (ceQ b)] S tk k=some (.agg (ceQ (qF.minus a b).1),flS S iq eq (qF.minus a b).2,tk,k+4):=Vs S tk k iq eq fl a b ha hb hq
theorem Xe (a b:Q) (ha:qF.ok a) (hb:qF.ok b) (hq:FAq S iq eq fl):cL Tryz.prog 162 [.ref iq eq 0,.agg (ceQ a),.agg (ceQ b)] S tk k=some (.agg (ceQ (qF.times a b).1),flS S iq eq (qF.times a b).2,tk,k+4):=Vn S tk k iq eq fl a b ha hb hq
theorem Af2 (a b:Q) (ha:qF.ok a) (hb:qF.ok b) (hq:FAq S iq eq fl):cL Tryz.prog 159 [.ref iq eq 0,.agg (ceQ a),.agg (ceQ b)] S tk k=some (.agg (ceQ (qF.over a b).1),flS S iq eq (qF.over a b).2,tk,k+Rh b):=Xw S tk k iq eq fl a b ha hb hq
theorem Hl (n:Int) (_:i64 n) (hq:FAq S iq eq fl):cL Tryz.prog 163 [.ref iq eq 0,.int n] S tk k=some (.agg (ceQ (qF.whole n).1),flS S iq eq (qF.whole n).2,tk,k+1):=Vh S tk k iq eq fl n hq
theorem Ud (a:Q) (_:qF.ok a) (hq:FAq S iq eq fl):cL Tryz.prog 161 [.ref iq eq 0,.agg (ceQ a)] S tk k=some (.int (sgn a),S,tk,k+1):=Xy S tk k iq eq fl a hq
theorem Nh (hq:FAq S iq eq fl):cL Tryz.prog 157 [.ref iq eq 0] S tk k=some (.bool (!(qF.stop && fl)),S,tk,k):=U9 S tk k iq eq fl hq
theorem Lb (a:Q) (ha:qF.ok a) (hq:FAq S iq eq fl):cL Tryz.prog 160 [.ref iq eq 0,.agg (ceQ a)] S tk k=some (.agg (ceW (qF.rat a)),S,tk,k+3):=Pl S tk k iq eq fl a ha hq
end
/- the algorithm -/
def Tc (F:Fld) (b a r:Q):Q × Bool:=if sgn r=0 then (a,false) else ((F.minus a (F.times b r).1).1,(F.times b r).2 || (F.minus a (F.times b r).1).2)
def Kh (F:Fld) (b:Q):List Q→List Q→List Q × Bool
 | a :: l,r :: m=>((Tc F b a r).1 :: (Kh F b l m).1,(Tc F b a r).2 || (Kh F b l m).2)
 | l,_=>(l,false)
def Gz (F:Fld) (a r:List Q) (c:Nat):List Q × Bool:=match nth a c with|some b=>if sgn b=0 then (a,false) else Kh F b a r|none=>(a,false)
theorem H9 {α:Type} {p u:List α} {x:α} : nth (p++x :: u) p.length=some x:=by
 rw [Az,List.getElem?_append_right (Nat.le_refl _),Nat.sub_self]; rfl
theorem Jv {α:Type} {p u:List α} {x y:α} : put (p++x :: u) p.length y=p++y :: u:=by
 rw [M6,List.set_append_right _ _ (Nat.le_refl _),Nat.sub_self]; rfl
def okL (F:Fld) (l:List Q):Prop:=∀ q ∈ l,F.ok q
theorem Acq {F:Fld} (hF:F.Keeps) {b a r:Q} (hb:F.ok b) (ha:F.ok a) (hr:F.ok r):F.ok (Tc F b a r).1:=by
 unfold Tc
 split
 ·exact ha
 ·exact hF.minus _ _ ha (hF.times _ _ hb hr)
theorem Nc {F:Fld} {b:Q} : ∀ {l m:List Q},(Kh F b l m).1.length=l.length
 | [],_=>by simp [Kh]
 | a :: l,[]=>rfl
 | a :: l,r :: m=>by simp only [Kh,List.length_cons,Nc]
theorem Wn {F:Fld} (hF:F.Keeps) {b:Q} (hb:F.ok b):∀ {l m:List Q},okL F l→okL F m→okL F (Kh F b l m).1
 | [],_,h,_=>by simpa [Kh] using h
 | a :: l,[],h,_=>h
 | a :: l,r :: m,h,h'=>by
  intro q hq
  simp only [Kh,List.mem_cons] at hq
  rcases hq with rfl|hq
  ·exact Acq hF hb (h _ (by simp)) (h' _ (by simp))
  ·exact Wn hF hb (fun q hq=>h q (by simp [hq])) (fun q hq=>h' q (by simp [hq])) q hq
end Go.Proofs.YtcjffhadclngmaaGreat
namespace Go.Proofs.YtcjffhadclngmaaGreat
open Go
theorem Dx : mRow Tryz.prog 95 "liquidcheck/simplex.whole" = some 163 ∧ mRow Tryz.prog 95 "liquidcheck/simplex.minus" = some 158 ∧
  mRow Tryz.prog 95 "liquidcheck/simplex.times" = some 162 ∧ mRow Tryz.prog 95 "liquidcheck/simplex.over" = some 159 ∧
  mRow Tryz.prog 95 "liquidcheck/simplex.sign" = some 161 ∧ mRow Tryz.prog 95 "liquidcheck/simplex.rational" = some 160 ∧
  mRow Tryz.prog 95 "liquidcheck/simplex.exact" = some 157 := by decide +kernel
theorem xfs:xF 157=true∧xF 158=true∧xF 159=true∧xF 160=true∧xF 161=true∧xF 162=true∧xF 163=true∧xF 110=true∧xF 115=true∧xF 37=true∧xF 60=true∧xF 39=true∧xF 63=true∧xF 40=true∧xF 36=true∧xF 112=true∧xF 117=true:=⟨rfl,rfl,rfl,rfl,rfl,rfl,rfl,rfl,rfl,rfl,rfl,rfl,rfl,rfl,rfl,rfl,rfl⟩
end Go.Proofs.YtcjffhadclngmaaGreat
namespace Go.Proofs.YtcjffhadclngmaaGreat
open Go
structure Tb where
 vars:Nat
 real:Nat
 rows:List (List Q)
 cost:List Q
 basis:List Nat
 flip:List Bool
 fl:Bool
def dvS (F:Fld) (b x:Q):Q × Bool:=if sgn x=0 then (x,false) else F.over x b
def divL (F:Fld) (b:Q):List Q→List Q × Bool
 | []=>([],false)
 | x :: l=>((dvS F b x).1 :: (divL F b l).1,(dvS F b x).2 || (divL F b l).2)
def X7 (F:Fld) (row:List Q) (c i k:Nat) (r:List Q):List Q × Bool:=if k=i then (r,false) else Gz F r row c
def D6 (F:Fld) (row:List Q) (c i:Nat):Nat→List (List Q)→List (List Q) × Bool
 | _,[]=>([],false)
 | k,r :: l=>((X7 F row c i k r).1 :: (D6 F row c i (k+1) l).1,(X7 F row c i k r).2 || (D6 F row c i (k+1) l).2)
def at_ {α:Type} (d:α) (l:List α) (k:Nat):α:=(nth l k).getD d
def q0:Q:=(0,1)
def Uf (t:Tb) (i:Nat):List Q:=at_ [] t.rows i
def Hk (F:Fld) (t:Tb) (i c:Nat):Tb :=
 let d:=divL F (at_ q0 (Uf t i) c) (Uf t i)
 let rs:=D6 F d.1 c i 0 (put t.rows i d.1)
 let k:=Gz F t.cost d.1 c
 { t with rows:=rs.1,cost:=k.1,basis:=put t.basis i c,fl:=((t.fl || d.2) || rs.2) || k.2 }
def worse (basis:List Nat) (s:Int) (k bi:Nat):Bool:=decide (0<s) || (s == 0 && decide (at_ 0 basis bi<at_ 0 basis k))
def Gh (F:Fld) (basis:List Nat) (c W:Nat):Nat→List (List Q)→Option (Nat × Q)→Option (Nat × Q) × Bool
 | _,[],b=>(b,false)
 | k,r :: l,b =>
  if sgn (at_ q0 r c)≤0 then Gh F basis c W (k+1) l b else
   let q:=F.over (at_ q0 r (W - 1)) (at_ q0 r c)
   match b with
   | none=>((Gh F basis c W (k+1) l (some (k,q.1))).1,q.2 || (Gh F basis c W (k+1) l (some (k,q.1))).2)
   | some (bi,least) =>
    let d:=F.minus q.1 least
    let b':=if worse basis (sgn d.1) k bi=true then some (bi,least) else some (k,q.1)
    ((Gh F basis c W (k+1) l b').1,(q.2 || d.2) || (Gh F basis c W (k+1) l b').2)
def Et (F:Fld) (t:Tb) (c:Nat):Option (Nat × Q) × Bool:=Gh F t.basis c t.cost.length 0 t.rows none
def colF (cost:List Q):Nat→Nat→Option Nat
 | 0,_=>none
 | n+1,k=>if sgn (at_ q0 cost k)<0 then some k else colF cost n (k+1)
def Ku (F:Fld):Nat→Tb→Option (Bool × Tb)
 | 0,_=>none
 | n+1,t=>if (F.stop && t.fl)=true then some (true,t) else
  match colF t.cost t.real 0 with
  | none=>some (true,t)
  | some c=>match Et F t c with
   | (none,f)=>some (false,{ t with fl:=t.fl || f })
   | (some (i,_),f)=>Ku F n (Hk F { t with fl:=t.fl || f } i c)
def Vq (t:Tb):Bool:=sgn (at_ q0 t.cost (t.cost.length - 1)) == 0
def Pe (basis:List Nat) (k:Nat):Nat→List (List Q)→Option Nat
 | _,[]=>none
 | i,_ :: l=>if at_ 0 basis i=k then some i else Pe basis k (i+1) l
def Gb (F:Fld) (t:Tb) (k:Nat):Q × Bool:=match Pe t.basis k 0 t.rows with|some i=>(at_ q0 (Uf t i) (t.cost.length - 1),false)|none=>F.whole 0
def ptF (F:Fld) (t:Tb) (k:Nat):Q × Bool :=
 let a:=Gb F t (2*k)
 let b:=Gb F t (2*k+1)
 let d:=F.minus a.1 b.1
 (d.1,(a.2 || b.2) || d.2)
def H1 (f:Nat→Q × Bool):Nat→Nat→List Q × Bool
 | 0,_=>([],false)
 | n+1,k=>((f k).1 :: (H1 f n (k+1)).1,(f k).2 || (H1 f n (k+1)).2)
def Eb (F:Fld) (t:Tb):List Q × Bool:=H1 (ptF F t) t.vars 0
def mulF (F:Fld) (t:Tb) (i:Nat):Q × Bool :=
 let y:=F.minus (at_ q0 t.cost (t.real+i)) (F.whole 1).1
 if at_ false t.flip i=true then
  let z:=F.minus (F.whole 0).1 y.1
  (z.1,y.2 || ((F.whole 0).2 || z.2))
 else y
def Kg (F:Fld) (t:Tb):List Q × Bool:=((H1 (mulF F t) t.rows.length 0).1,(F.whole 1).2 || (H1 (mulF F t) t.rows.length 0).2)
def nzF (row:List Q):Nat→Nat→Option Nat
 | 0,_=>none
 | n+1,k=>if sgn (at_ q0 row k)=0 then nzF row n (k+1) else some k
def Gy (F:Fld) (t:Tb) (i:Nat):Tb:=if at_ 0 t.basis i<t.real then t else match nzF (Uf t i) t.real 0 with|some k=>Hk F t i k|none=>t
def E3 (F:Fld):Nat→Nat→Tb→Tb
 | 0,_,t=>t
 | n+1,i,t=>E3 F n (i+1) (Gy F t i)
end Go.Proofs.YtcjffhadclngmaaGreat
namespace Go.Proofs.YtcjffhadclngmaaGreat
open Go
structure TI where
 it:Nat
 et:Nat
 ir:Nat
 er:Nat
 ic:Nat
 ec:Nat
 ib:Nat
 eb:Nat
 ids:List (Nat × Nat)
structure Apart (I:TI) (iq:Nat):Prop where
 tr:I.it≠I.ir
 tc:I.it≠I.ic
 tb:I.it≠I.ib
 rc:I.ir≠I.ic
 rb:I.ir≠I.ib
 cb:I.ic≠I.ib
 qt:iq≠I.it
 qr:iq≠I.ir
 qc:iq≠I.ic
 qb:iq≠I.ib
 row:∀ p ∈ I.ids,p.1≠I.it∧p.1≠I.ir∧p.1≠I.ic∧p.1≠I.ib∧p.1≠iq
 rows:∀ i j p q,nth I.ids i=some p→nth I.ids j=some q→i≠j→p.1≠q.1
def hdr (W sz:Nat) (x:Nat × Nat):AV:=.sref x.1 x.2 0 W sz
def hd0 (id ep sz:Nat):Nat→AV
 | 0=>.frz [] .nilc
 | n+1=>.sref id ep 0 (n+1) sz
def Hq (b:Bool):List AV:=[.bool b]
def intA (n:Nat):AV:=.int (n:Int)
theorem Bj {α:Type} {l:List α} {i:Nat} {x:α} (h:nth l i=some x):x ∈ l:=by rw [Az] at h; exact List.mem_of_getElem? h
theorem Db {α:Type} {d:α} {l:List α} {k:Nat} {x:α} (h:nth l k=some x):at_ d l k=x:=by unfold at_; rw [h]; rfl
theorem Aba {α:Type} {l:List α} {i j:Nat} {x:α} (h:i<l.length):nth (put l i x) j=if j=i then some x else nth l j:=by
 by_cases e:j=i
 ·subst e; rw [if_pos rfl,E9 h]
 ·rw [if_neg e,Aw (Ne.symm e)]
theorem Bm {α:Type} {l:List α} {i:Nat} {x:α} : (put l i x).length=l.length:=A7
theorem Rm {α:Type} {l:List α} {i:Nat} {x y:α} : put (put l i x) i y=put l i y:=by
 induction l generalizing i with
 | nil=>rfl
 | cons z l ih=>cases i with
  | zero=>rfl
  | succ i=>simp only [put,ih]
theorem Yv {α:Type} {l:List α} {i:Nat} {x:α} (h:nth l i=some x):put l i x=l:=by
 induction l generalizing i with
 | nil=>rfl
 | cons z l ih=>cases i with
  | zero=>simp only [nth,Option.some.injEq] at h; subst h; rfl
  | succ i=>simp only [nth] at h; simp only [put,ih h]
theorem Ek {α:Type} {l:List α} {i:Nat} {x y:α} (h:y ∈ put l i x):y=x∨y ∈ l:=by
 rw [M6] at h
 rcases List.mem_or_eq_of_mem_set h with h|h
 ·exact .inr h
 ·exact .inl h
theorem Dj {id ep sz n:Nat} (h:0<n):hd0 id ep sz n=.sref id ep 0 n sz:=by
 cases n with
 | zero=>omega
 | succ n=>rfl
theorem G3 {S:List Ent} {n i e:Nat} (h:i<n):Ak (S.take n) i e=Ak S i e:=by
 unfold Ak
 rw [Az,Az,List.getElem?_take]; simp [h]
theorem FAq.take {S:List Ent} {n iq eq:Nat} {b:Bool} (h:FAq S iq eq b) (hi:iq<n):FAq (S.take n) iq eq b:=by unfold FAq; rw [G3 hi]; exact h
theorem FAw.take {S:List Ent} {n iq eq:Nat} {b:Bool} (_:FAw S iq eq b) (_:True):FAw (S.take n) iq eq b:=⟨⟩
theorem Ew {α:Type} {l:List α} {n j:Nat} (h:j<n):nth (l.take n) j=nth l j:=by
 rw [Az,Az,List.getElem?_take]; simp [h]
theorem Da {α:Type} {l m:List α} {j:Nat} (h:j<l.length):nth (l++m) j=nth l j:=by
 rw [Az,Az,List.getElem?_append_left h]
theorem Afn {α:Type} {l:List α} {i:Nat} {x:α} : put l i x=[]↔l=[]:=by
 cases l with
 | nil=>simp [put]
 | cons y l=>cases i <;> simp [put]
end Go.Proofs.YtcjffhadclngmaaGreat
namespace Go.Proofs.YtcjffhadclngmaaGreat
open Go
def Gc (c:ByteArray × Int):List AV:=[.prim (.string c.1),.prim (.int .i64 c.2)]
def Bn (cs:List (ByteArray × Int)):AV:=.frz (cs.map Gc) .unk
def linA (cs:List (ByteArray × Int)) (n:Int):AV:=.agg [Bn cs,.prim (.int .i64 n)]
def Dp (s:ByteArray):Bool:=sEq s ⟨#[]⟩ || decide ((s.size:Int) > 400)
def H8:Option ByteArray→ByteArray→Bool
 | none,_=>false
 | some p,s=>sLt s p || sEq s p
def Bz (n:Int):Option ByteArray→List (ByteArray × Int)→Int
 | _,[]=>if inB n then 0 else 2
 | p,c :: cs=>if Dp c.1 then 3 else if c.2 == 0 || !inB c.2 then 2 else if H8 p c.1 then 9 else Bz n (some c.1) cs
def Eo (cs:List (ByteArray × Int)) (n:Int):Int:=if 24<cs.length then 7 else Bz n none cs
def Eu (cs:List (ByteArray × Int)):Nat→Option ByteArray
 | 0=>none
 | j+1=>(nth cs j).map (·.1)
section
variable (S:List Ent) (tk:List Nat) (k:Nat)
theorem Uv (n:Int):cL Tryz.prog 54 [.int n] S tk k=some (.bool (inB n),S,tk,k):=by
 refine A9 Tryz.func54 rfl rfl (by decide +kernel) (by decide +kernel) Tryz.ntmps54 rfl rfl _ _ _ rfl ?_; rw [Bs]
 simp +contextual only [evs,Ad,nth,put,putT,getT,Ai,Aj,Ab,aUn,outA,resA,mapO,Aq,Ar,w1,w2,w3,bots,cond_true,cond_false,if_true,if_false,ite_true,ite_false,reduceIte,reduceCtorEq,implies_true,Nat.reduceAdd,Nat.reduceSub,AV.int,AV.bool,AV.str,Nat.reduceBEq,Nat.reduceEqDiff,Nat.reduceMul,Nat.reduceLT,Nat.reduceLeDiff,Int.reduceNeg,BEq.rfl,beq_self_eq_true,tabl,cellsOf,fldA,ldA,stA,Ak,Ao,Am,over,Ag,Value.oneCell',idxA,nilA,Aa,Ap,Ah,pure1,pure2,reps,chkA,tys,Tryz.results54]
 unfold inB
 exact ⟨fun h=>by simp at h ⊢; omega,fun h=>by simp at h ⊢; omega⟩
theorem Abf (n:Int):cL Tryz.prog 56 [.int n] S tk k=some (.bool (inB n),S,tk,k):=by
 refine A9 Tryz.func56 rfl rfl (by decide +kernel) (by decide +kernel) Tryz.ntmps56 rfl rfl _ _ _ rfl ?_; rw [Bs]
 simp +contextual only [evs,Ad,nth,put,putT,getT,Ai,Aj,Ab,aUn,outA,resA,mapO,Aq,Ar,w1,w2,w3,bots,cond_true,cond_false,if_true,if_false,ite_true,ite_false,reduceIte,reduceCtorEq,implies_true,Nat.reduceAdd,Nat.reduceSub,AV.int,AV.bool,AV.str,Nat.reduceBEq,Nat.reduceEqDiff,Nat.reduceMul,Nat.reduceLT,Nat.reduceLeDiff,Int.reduceNeg,BEq.rfl,beq_self_eq_true,tabl,cellsOf,fldA,ldA,stA,Ak,Ao,Am,over,Ag,Value.oneCell',idxA,nilA,Aa,Ap,Ah,pure1,pure2,reps,chkA,tys,Tryz.results56]
 unfold inB
 exact ⟨fun h=>by simp at h ⊢; omega,fun h=>by simp at h ⊢; omega⟩
theorem Mb (cs:List (ByteArray × Int)) (n:Int) (hlen:cs.length≤1048576):cL Tryz.prog 27 [linA cs n] S tk k=some (.int (Eo cs n),S,tk,k):=by
 refine A9 Tryz.func27 rfl rfl (by decide +kernel) (by decide +kernel) Tryz.ntmps27 rfl rfl _ _ _ rfl ?_; rw [Bs]
 simp (maxSteps:=1000000) +contextual (disch:=first|with_reducible assumption|exact ⟨rfl⟩|exact ⟨rfl,rfl⟩|exact ⟨rfl,rfl,rfl⟩|(refine _root_.id ?_; kernel_rfl)|omega) only [evs,Ad,nth,put,putT,getT,Ai,Aj,Ab,aUn,outA,resA,mapO,Aq,Ar,w1,w2,w3,bots,cond_true,cond_false,if_true,if_false,ite_true,ite_false,reduceIte,reduceCtorEq,implies_true,Nat.reduceAdd,Nat.reduceSub,AV.int,AV.bool,AV.str,Nat.reduceBEq,Nat.reduceEqDiff,Nat.reduceMul,Nat.reduceLT,Nat.reduceLeDiff,Int.reduceNeg,BEq.rfl,beq_self_eq_true,tabl,cellsOf,fldA,ldA,stA,Ak,Ao,Am,over,Ag,Value.oneCell',idxA,nilA,Aa,Ap,Ah,pure1,pure2,reps,chkA,tys,Tryz.results27,evt,Av,Au,Al,linA,Bn]
 refine ⟨fun h=>?_,fun h=>?_⟩
 ·unfold Eo; rw [if_pos (by simp at h; omega)]
 have hc:Eo cs n=Bz n none cs:=by unfold Eo; rw [if_neg (by simp at h; omega)]
 rw [hc]
 refine loop1 (fun i st=>st.T.length=57∧i≤cs.length∧getT st.T 1=.ref 0 0 0∧getT st.T 10=Bn cs∧getT st.T 11=.int cs.length∧getT st.T 12=.int (i:Nat)∧st.S=[⟨0,[Bn cs,.int n]⟩]) (fun i=>cs.length - i) (fun i=>.int (Bz n (Eu cs i) (cs.drop i))) 0 ?_ ?_
 case refine_2=>exact ⟨rfl,Nat.zero_le _,rfl,rfl,rfl,rfl,rfl⟩
 rintro i ⟨T,S',tk',n'⟩ ⟨hl,hi,e1,e10,e11,e12,rfl⟩ IH
 obtain ⟨g,hg,hT⟩:=Bp hl
 rw [hg] at e1 e10 e11 e12
 subst hT
 clear hg hl h hc
 by_cases hlt:i<cs.length
 ·have d1:decide ((i:Int)<(cs.length:Int))=true:=by simpa using hlt
  obtain ⟨c,hc⟩:=A6 hlt
  have hc':nth (cs.map Gc) i=some (Gc c):=by rw [E2,hc]; rfl
  have hw:=D7 (i:=i) (by omega)
  have hp:Eu cs (i+1)=some c.1:=by simp [Eu,hc]
  rw [Bw hc]
  rcases i with _|j
  ·have d2:decide (((0:Nat):Int) > 0)=false:=rfl
   simp (maxSteps:=1000000) +contextual (disch:=first|with_reducible assumption|exact ⟨rfl⟩|exact ⟨rfl,rfl⟩|exact ⟨rfl,rfl,rfl⟩|(refine _root_.id ?_; kernel_rfl)|omega) only [evs,Ad,nth,put,putT,getT,Ai,Aj,Ab,aUn,outA,resA,mapO,Aq,Ar,w1,w2,w3,bots,cond_true,cond_false,if_true,if_false,ite_true,ite_false,reduceIte,reduceCtorEq,implies_true,Nat.reduceAdd,Nat.reduceSub,AV.int,AV.bool,AV.str,Nat.reduceBEq,Nat.reduceEqDiff,Nat.reduceMul,Nat.reduceLT,Nat.reduceLeDiff,Int.reduceNeg,BEq.rfl,beq_self_eq_true,tabl,cellsOf,fldA,ldA,stA,Ak,Ao,Am,over,Ag,Value.oneCell',idxA,nilA,Aa,Ap,Ah,pure1,pure2,reps,chkA,tys,Tryz.results27,evt,Av,Au,Al,e1,e10,e11,e12,d1,d2,Bn,hc',hw,Gc,Uv]
   refine ⟨fun h1=>?_,fun h1=>⟨fun h2=>?_,fun h2=>⟨fun h3=>?_,fun h3=>⟨fun h4=>?_,fun h4=>?_⟩⟩⟩⟩
   ·simp [Bz,Dp,h1]
   ·simp only [Bz,Dp,h1,h2]; rfl
   ·simp only [Bz,Dp,h1,h2,h3]; rfl
   ·rw [IH 1 _ (by omega) ⟨rfl,by omega,rfl,rfl,rfl,rfl,rfl⟩,hp]
    simp only [Bz,Dp,h1,h2,h3,h4,Eu,H8]; rfl
   ·simp only [Bz,Dp,h1,h2,h3,h4]; rfl
  ·have d2:decide (((j+1:Nat):Int) > 0)=true:=decide_eq_true (by omega)
   obtain ⟨p,hpr⟩:=A6 (show j<cs.length by omega)
   have hp':nth (cs.map Gc) j=some (Gc p):=by rw [E2,hpr]; rfl
   have hw':=Tn (j:=j) (by omega)
   have hpp:Eu cs (j+1)=some p.1:=by simp [Eu,hpr]
   simp (maxSteps:=1000000) +contextual (disch:=first|with_reducible assumption|exact ⟨rfl⟩|exact ⟨rfl,rfl⟩|exact ⟨rfl,rfl,rfl⟩|(refine _root_.id ?_; kernel_rfl)|omega) only [evs,Ad,nth,put,putT,getT,Ai,Aj,Ab,aUn,outA,resA,mapO,Aq,Ar,w1,w2,w3,bots,cond_true,cond_false,if_true,if_false,ite_true,ite_false,reduceIte,reduceCtorEq,implies_true,Nat.reduceAdd,Nat.reduceSub,AV.int,AV.bool,AV.str,Nat.reduceBEq,Nat.reduceEqDiff,Nat.reduceMul,Nat.reduceLT,Nat.reduceLeDiff,Int.reduceNeg,BEq.rfl,beq_self_eq_true,tabl,cellsOf,fldA,ldA,stA,Ak,Ao,Am,over,Ag,Value.oneCell',idxA,nilA,Aa,Ap,Ah,pure1,pure2,reps,chkA,tys,Tryz.results27,evt,Av,Au,Al,e1,e10,e11,e12,d1,d2,Bn,hc',hw,Gc,Uv,hp',hw']
   refine ⟨fun h1=>?_,fun h1=>⟨fun h2=>?_,fun h2=>⟨fun h3=>?_,fun h3=>⟨fun h4=>?_,fun h4=>?_⟩⟩⟩⟩
   ·simp [Bz,Dp,h1]
   ·simp only [Bz,Dp,h1,h2]; rfl
   ·simp only [Bz,Dp,h1,h2,h3]; rfl
   ·refine ⟨fun h5=>?_,fun h5=>?_⟩
    ·simp only [Bz,Dp,h1,h2,h3,h4,hpp,H8,h5]; rfl
    ·rw [IH (j+1+1) _ (by omega) ⟨rfl,by omega,rfl,rfl,rfl,rfl,rfl⟩,hp]
     simp only [Bz,Dp,h1,h2,h3,h4,hpp,H8,h5]; rfl
   ·simp only [Bz,Dp,h1,h2,h3,h4]; rfl
 ·have d1:decide ((i:Int)<(cs.length:Int))=false:=by simpa using hlt
  have he:i=cs.length:=by omega
  simp (maxSteps:=1000000) +contextual (disch:=first|with_reducible assumption|exact ⟨rfl⟩|exact ⟨rfl,rfl⟩|exact ⟨rfl,rfl,rfl⟩|(refine _root_.id ?_; kernel_rfl)|omega) only [evs,Ad,nth,put,putT,getT,Ai,Aj,Ab,aUn,outA,resA,mapO,Aq,Ar,w1,w2,w3,bots,cond_true,cond_false,if_true,if_false,ite_true,ite_false,reduceIte,reduceCtorEq,implies_true,Nat.reduceAdd,Nat.reduceSub,AV.int,AV.bool,AV.str,Nat.reduceBEq,Nat.reduceEqDiff,Nat.reduceMul,Nat.reduceLT,Nat.reduceLeDiff,Int.reduceNeg,BEq.rfl,beq_self_eq_true,tabl,cellsOf,fldA,ldA,stA,Ak,Ao,Am,over,Ag,Value.oneCell',idxA,nilA,Aa,Ap,Ah,pure1,pure2,reps,chkA,tys,Tryz.results27,evt,Av,Au,Al,e1,e10,e11,e12,d1,Bn,Uv]
  rw [he,List.drop_length]
  exact ⟨fun h=>by simp [Bz,h],fun h=>by simp [Bz,h]⟩
theorem Zt (cs:List (ByteArray × Int)) (n:Int) (hlen:cs.length≤1048576):cL Tryz.prog 29 [linA cs n] S tk k=some (.int (Eo cs n),S,tk,k):=by
 refine A9 Tryz.func29 rfl rfl (by decide +kernel) (by decide +kernel) Tryz.ntmps29 rfl rfl _ _ _ rfl ?_; rw [Bs]
 simp (maxSteps:=1000000) +contextual (disch:=first|with_reducible assumption|exact ⟨rfl⟩|exact ⟨rfl,rfl⟩|exact ⟨rfl,rfl,rfl⟩|(refine _root_.id ?_; kernel_rfl)|omega) only [evs,Ad,nth,put,putT,getT,Ai,Aj,Ab,aUn,outA,resA,mapO,Aq,Ar,w1,w2,w3,bots,cond_true,cond_false,if_true,if_false,ite_true,ite_false,reduceIte,reduceCtorEq,implies_true,Nat.reduceAdd,Nat.reduceSub,AV.int,AV.bool,AV.str,Nat.reduceBEq,Nat.reduceEqDiff,Nat.reduceMul,Nat.reduceLT,Nat.reduceLeDiff,Int.reduceNeg,BEq.rfl,beq_self_eq_true,tabl,cellsOf,fldA,ldA,stA,Ak,Ao,Am,over,Ag,Value.oneCell',idxA,nilA,Aa,Ap,Ah,pure1,pure2,reps,chkA,tys,Tryz.results29,evt,Av,Au,Al,linA,Bn]
 refine ⟨fun h=>?_,fun h=>?_⟩
 ·unfold Eo; rw [if_pos (by simp at h; omega)]
 have hc:Eo cs n=Bz n none cs:=by unfold Eo; rw [if_neg (by simp at h; omega)]
 rw [hc]
 refine loop1 (fun i st=>st.T.length=60∧i≤cs.length∧getT st.T 1=.ref 0 0 0∧getT st.T 3=.int (i:Nat)∧st.S=[⟨0,[Bn cs,.int n]⟩]) (fun i=>cs.length - i) (fun i=>.int (Bz n (Eu cs i) (cs.drop i))) 0 ?_ ?_
 case refine_2=>exact ⟨rfl,Nat.zero_le _,rfl,rfl,rfl⟩
 rintro i ⟨T,S',tk',n'⟩ ⟨hl,hi,e1,e3,rfl⟩ IH
 obtain ⟨g,hg,hT⟩:=Bp hl
 rw [hg] at e1 e3
 subst hT
 clear hg hl h hc
 by_cases hlt:i<cs.length
 ·have d1:decide ((i:Int)<(cs.length:Int))=true:=by simpa using hlt
  obtain ⟨c,hc⟩:=A6 hlt
  have hc':nth (cs.map Gc) i=some (Gc c):=by rw [E2,hc]; rfl
  have hw:=D7 (i:=i) (by omega)
  have hp:Eu cs (i+1)=some c.1:=by simp [Eu,hc]
  rw [Bw hc]
  rcases i with _|j
  ·have d2:decide (((0:Nat):Int) > 0)=false:=rfl
   simp (maxSteps:=1000000) +contextual (disch:=first|with_reducible assumption|exact ⟨rfl⟩|exact ⟨rfl,rfl⟩|exact ⟨rfl,rfl,rfl⟩|(refine _root_.id ?_; kernel_rfl)|omega) only [evs,Ad,nth,put,putT,getT,Ai,Aj,Ab,aUn,outA,resA,mapO,Aq,Ar,w1,w2,w3,bots,cond_true,cond_false,if_true,if_false,ite_true,ite_false,reduceIte,reduceCtorEq,implies_true,Nat.reduceAdd,Nat.reduceSub,AV.int,AV.bool,AV.str,Nat.reduceBEq,Nat.reduceEqDiff,Nat.reduceMul,Nat.reduceLT,Nat.reduceLeDiff,Int.reduceNeg,BEq.rfl,beq_self_eq_true,tabl,cellsOf,fldA,ldA,stA,Ak,Ao,Am,over,Ag,Value.oneCell',idxA,nilA,Aa,Ap,Ah,pure1,pure2,reps,chkA,tys,Tryz.results29,evt,Av,Au,Al,e1,e3,d1,d2,Bn,hc',hw,Gc,Abf]
   refine ⟨fun h1=>?_,fun h1=>⟨fun h2=>?_,fun h2=>⟨fun h3=>?_,fun h3=>⟨fun h4=>?_,fun h4=>?_⟩⟩⟩⟩
   ·simp [Bz,Dp,h1]
   ·simp only [Bz,Dp,h1,h2]; rfl
   ·simp only [Bz,Dp,h1,h2,h3]; rfl
   ·rw [IH 1 _ (by omega) ⟨rfl,by omega,rfl,rfl,rfl⟩,hp]
    simp only [Bz,Dp,h1,h2,h3,h4,Eu,H8]; rfl
   ·simp only [Bz,Dp,h1,h2,h3,h4]; rfl
  ·have d2:decide (((j+1:Nat):Int) > 0)=true:=decide_eq_true (by omega)
   obtain ⟨p,hpr⟩:=A6 (show j<cs.length by omega)
   have hp':nth (cs.map Gc) j=some (Gc p):=by rw [E2,hpr]; rfl
   have hw':=Tn (j:=j) (by omega)
   have hpp:Eu cs (j+1)=some p.1:=by simp [Eu,hpr]
   simp (maxSteps:=1000000) +contextual (disch:=first|with_reducible assumption|exact ⟨rfl⟩|exact ⟨rfl,rfl⟩|exact ⟨rfl,rfl,rfl⟩|(refine _root_.id ?_; kernel_rfl)|omega) only [evs,Ad,nth,put,putT,getT,Ai,Aj,Ab,aUn,outA,resA,mapO,Aq,Ar,w1,w2,w3,bots,cond_true,cond_false,if_true,if_false,ite_true,ite_false,reduceIte,reduceCtorEq,implies_true,Nat.reduceAdd,Nat.reduceSub,AV.int,AV.bool,AV.str,Nat.reduceBEq,Nat.reduceEqDiff,Nat.reduceMul,Nat.reduceLT,Nat.reduceLeDiff,Int.reduceNeg,BEq.rfl,beq_self_eq_true,tabl,cellsOf,fldA,ldA,stA,Ak,Ao,Am,over,Ag,Value.oneCell',idxA,nilA,Aa,Ap,Ah,pure1,pure2,reps,chkA,tys,Tryz.results29,evt,Av,Au,Al,e1,e3,d1,d2,Bn,hc',hw,Gc,Abf,hp',hw']
   refine ⟨fun h1=>?_,fun h1=>⟨fun h2=>?_,fun h2=>⟨fun h3=>?_,fun h3=>⟨fun h4=>?_,fun h4=>?_⟩⟩⟩⟩
   ·simp [Bz,Dp,h1]
   ·simp only [Bz,Dp,h1,h2]; rfl
   ·simp only [Bz,Dp,h1,h2,h3]; rfl
   ·refine ⟨fun h5=>?_,fun h5=>?_⟩
    ·simp only [Bz,Dp,h1,h2,h3,h4,hpp,H8,h5]; rfl
    ·rw [IH (j+1+1) _ (by omega) ⟨rfl,by omega,rfl,rfl,rfl⟩,hp]
     simp only [Bz,Dp,h1,h2,h3,h4,hpp,H8,h5]; rfl
   ·simp only [Bz,Dp,h1,h2,h3,h4]; rfl
 ·have d1:decide ((i:Int)<(cs.length:Int))=false:=by simpa using hlt
  have he:i=cs.length:=by omega
  simp (maxSteps:=1000000) +contextual (disch:=first|with_reducible assumption|exact ⟨rfl⟩|exact ⟨rfl,rfl⟩|exact ⟨rfl,rfl,rfl⟩|(refine _root_.id ?_; kernel_rfl)|omega) only [evs,Ad,nth,put,putT,getT,Ai,Aj,Ab,aUn,outA,resA,mapO,Aq,Ar,w1,w2,w3,bots,cond_true,cond_false,if_true,if_false,ite_true,ite_false,reduceIte,reduceCtorEq,implies_true,Nat.reduceAdd,Nat.reduceSub,AV.int,AV.bool,AV.str,Nat.reduceBEq,Nat.reduceEqDiff,Nat.reduceMul,Nat.reduceLT,Nat.reduceLeDiff,Int.reduceNeg,BEq.rfl,beq_self_eq_true,tabl,cellsOf,fldA,ldA,stA,Ak,Ao,Am,over,Ag,Value.oneCell',idxA,nilA,Aa,Ap,Ah,pure1,pure2,reps,chkA,tys,Tryz.results29,evt,Av,Au,Al,e1,e3,d1,Bn,Abf]
  rw [he,List.drop_length]
  exact ⟨fun h=>by simp [Bz,h],fun h=>by simp [Bz,h]⟩
end
end Go.Proofs.YtcjffhadclngmaaGreat
namespace Go.Proofs.YtcjffhadclngmaaGreat
open Go
abbrev RowT:=List (ByteArray × Int) × Int × Bool
def rowC (r:RowT):List AV:=[Bn r.1,.prim (.int .i64 r.2.1),.prim (.bool r.2.2)]
def Bh (l:List RowT):AV:=.frz (l.map rowC) .unk
theorem Ks {l:List RowT} {i:Nat} {r:RowT} (h:nth l i=some r):nth (l.map rowC) i=some (rowC r):=by rw [E2,h]; rfl
theorem Wg {l:List (ByteArray × Int)} {i:Nat} {c:ByteArray × Int} (h:nth l i=some c):nth (l.map Gc) i=some (Gc c):=by rw [E2,h]; rfl
theorem Uq {l:List ByteArray} {i:Nat} {s:ByteArray} (h:nth l i=some s):nth (l.map strC) i=some [.prim (.string s)]:=by rw [E2,h]; rfl
theorem Gs (l:List ByteArray):D2 1 (l.map strC)=true:=Hv (f:=strC) (sz:=1) (fun _=>rfl) l
def B9 (l:List RowT):List ByteArray:=(l.map fun r=>r.1.map (·.1)).flatten
def Dr (l:List RowT):List ByteArray:=uniS (B9 l)
theorem Xh (l:List RowT) (r:RowT):B9 (l++[r])=B9 l++r.1.map (·.1):=by simp [B9]
theorem Gp {α:Type} : ∀ {l:List α} {i:Nat} {x:α},nth l i=some x→l.take (i+1)=l.take i++[x]
 | a :: l,0,x,h=>by simp only [nth,Option.some.injEq] at h; subst h; rfl
 | a :: l,i+1,x,h=>by simp only [List.take_succ_cons,List.cons_append,Gp (l:=l) (i:=i) h]
 | [],_,_,h=>by simp [nth] at h
def fewC (l:List RowT):Prop:=∀ r ∈ l,r.1.length≤24
theorem Tl:∀ {l:List RowT},fewC l→(B9 l).length≤24*l.length
 | [],_=>by simp [B9]
 | r :: l,h=>by
  have h1:=h r (by simp)
  have h2:=Tl (l:=l) fun x hx=>h x (by simp [hx])
  simp only [B9,List.map_cons,List.flatten_cons,List.length_append,List.length_map,List.length_cons] at h2 ⊢
  omega
theorem Qv {α:Type} {l:List α} {i:Nat} {x:α} (h:nth l i=some x):x ∈ l:=List.mem_of_getElem? (by rw [Az] at h; exact h)
theorem T6:∀ (l:List ByteArray) (s:ByteArray),∃ i,i≤l.length∧(∀ j x,j<i→nth l j=some x→sLt x s=true)∧(∀ x,nth l i=some x→sLt x s=false) ∧
  putS l s=l.take i++[s]++l.drop (match nth l i with|some x=>if sEq x s=true then i+1 else i|none=>i)
 | [],s=>⟨0,Nat.le_refl _,fun j x h=>by omega,fun x h=>by simp [nth] at h,rfl⟩
 | y :: r,s=>by
  cases h1:sLt y s with
  | true =>
   obtain ⟨i,a,b,c,d⟩:=T6 r s
   refine ⟨i+1,by simp; exact a,fun j x hj hx=>?_,c,?_⟩
   ·cases j with
    | zero=>simp only [nth,Option.some.injEq] at hx; subst hx; exact h1
    | succ j=>exact b j x (by omega) hx
   ·rw [putS,if_pos h1,d]
    simp only [nth]
    cases nth r i with
    | none=>simp
    | some x=>by_cases h:sEq x s=true <;> simp [h]
  | false =>
   refine ⟨0,Nat.zero_le _,fun j x hj=>by omega,fun x hx=>?_,?_⟩
   ·simp only [nth,Option.some.injEq] at hx; subst hx; exact h1
   ·rw [putS,if_neg (by simp [h1])]
    simp only [nth]
    by_cases h:sEq y s=true
    ·have:y=s:=by rw [P8] at h; simpa using h
     rw [if_pos h,if_pos h,this]; simp
    ·rw [if_neg h,if_neg h]; simp
section
variable (S:List Ent) (tk:List Nat) (k:Nat)
set_option maxRecDepth 100000 in
theorem Y7 (l:List ByteArray) (s:ByteArray) (c:Cap) (hl:l.length≤100000):cL Tryz.prog 80 [.frz (l.map strC) c,.str s] S tk k=some (A8 (putS l s),S,tk,k):=by
 obtain ⟨i,hj0,h2,h3,h4⟩:=T6 l s
 rw [h4]
 refine A9 Tryz.func80 rfl rfl (by decide +kernel) (by decide +kernel) Tryz.ntmps80 rfl rfl _ _ _ rfl ?_; rw [Bs]
 simp (maxSteps:=1000000) +contextual (disch:=first|with_reducible assumption|exact ⟨rfl⟩|exact ⟨rfl,rfl⟩|exact ⟨rfl,rfl,rfl⟩|(refine _root_.id ?_; kernel_rfl)|omega) only [evs,Ad,nth,put,putT,getT,Ai,Aj,Ab,aUn,outA,resA,mapO,Aq,Ar,w1,w2,w3,bots,cond_true,cond_false,if_true,if_false,ite_true,ite_false,reduceIte,reduceCtorEq,implies_true,Nat.reduceAdd,Nat.reduceSub,AV.int,AV.bool,AV.str,Nat.reduceBEq,Nat.reduceEqDiff,Nat.reduceMul,Nat.reduceLT,Nat.reduceLeDiff,Int.reduceNeg,BEq.rfl,beq_self_eq_true,tabl,cellsOf,fldA,ldA,stA,Ak,Ao,Am,over,Ag,Value.oneCell',idxA,nilA,Aa,Ap,Ah,pure1,pure2,reps,chkA,tys,Tryz.results80,evt,Av,Au,Al,w2,w1]
 refine loop1 (P:=Tryz.prog) (fun x st=>st.T.length=52∧(x.1≤i)∧(x.2.1=l.take x.1)∧(Bx st.tk x.2.2 1=true)∧getT st.T 0=A8 l∧getT st.T 1=.str s∧getT st.T 5=.frz (x.2.1.map strC) x.2.2∧getT st.T 6=.int (x.1:Nat)∧st.S=[]) (fun x=>i - x.1) (fun x=>A8 (l.take i++[s]++l.drop (match nth l i with|some x=>if sEq x s=true then i+1 else i|none=>i))) (0,[],.nilc) ?_ ?_
 case refine_2=>exact ⟨rfl,Nat.zero_le _,rfl,rfl,rfl,rfl,rfl,rfl,rfl⟩
 rintro ⟨j,out,c⟩ ⟨T,S',tk',n'⟩ ⟨hl,hj,ho,hok,e0,e1,e5,e6,eS⟩ IH
 simp only at hj ho hok e0 e1 e5 e6 eS
 subst eS
 obtain ⟨g,hg,hT⟩:=Bp hl
 rw [hg] at e0 e1 e5 e6
 subst hT
 clear hg hl
 have hol:out.length≤l.length:=by rw [ho]; simp; omega
 have htl:(l.map strC).take l.length=l.map strC:=List.take_of_length_le (by simp)
 have hr:=Gs out
 have hok':=Es hok
 have hn1:(out.map strC).length+1≤1048576:=by simp; omega
 have hjw:=D7 (i:=j) (by omega)
 by_cases hlt:j<i
 ·have d1:decide ((j:Int)<(l.length:Int))=true:=by simp; omega
  obtain ⟨x,hx⟩:=A6 (show j<l.length by omega)
  have hx':=Uq hx
  have d2:=h2 j x hlt hx
  have hts:=Gp hx
  simp (maxSteps:=1000000) +contextual (disch:=first|with_reducible assumption|exact ⟨rfl⟩|exact ⟨rfl,rfl⟩|exact ⟨rfl,rfl,rfl⟩|(refine _root_.id ?_; kernel_rfl)|omega) only [evs,Ad,nth,put,putT,getT,Ai,Aj,Ab,aUn,outA,resA,mapO,Aq,Ar,w1,w2,w3,bots,cond_true,cond_false,if_true,if_false,ite_true,ite_false,reduceIte,reduceCtorEq,implies_true,Nat.reduceAdd,Nat.reduceSub,AV.int,AV.bool,AV.str,Nat.reduceBEq,Nat.reduceEqDiff,Nat.reduceMul,Nat.reduceLT,Nat.reduceLeDiff,Int.reduceNeg,BEq.rfl,beq_self_eq_true,tabl,cellsOf,fldA,ldA,stA,Ak,Ao,Am,over,Ag,Value.oneCell',idxA,nilA,Aa,Ap,Ah,pure1,pure2,reps,chkA,tys,Tryz.results80,evt,Av,Au,Al,e0,e1,e5,e6,d1,d2,A8,hx',hr,hjw]
  exact IH (j+1,out++[x],D3 tk' c 1) _ (by first|omega|(simp only; omega)) ⟨rfl,by first|omega|(dsimp only; omega),by rw [hts,ho],hok',(by first|rfl|simp only [getT,List.map_append,List.map_cons,List.map_nil,strC,A8,and_self]),(by first|rfl|simp only [getT,List.map_append,List.map_cons,List.map_nil,strC,A8,and_self]),(by first|rfl|simp only [getT,List.map_append,List.map_cons,List.map_nil,strC,A8,and_self]),(by first|rfl|simp only [getT,List.map_append,List.map_cons,List.map_nil,strC,A8,and_self]),(by first|rfl|simp only [getT,List.map_append,List.map_cons,List.map_nil,strC,A8,and_self])⟩
 have hje:j=i:=by omega
 subst hje
 subst ho
 have hr2:=Gs (l.take j++[s])
 have hr3:=Gs l
 have hok2:=Es hok'
 simp only [List.map_append,List.map_cons,List.map_nil,strC] at hr2
 by_cases hjl:j<l.length
 case neg =>
  have d1:decide ((j:Int)<(l.length:Int))=false:=by simp; omega
  have hjn:nth l j=none:=by rw [Az]; exact List.getElem?_eq_none (by omega)
  have hr4:D2 1 (((l.map strC).take l.length).drop j)=true:=by rw [← List.map_take,← List.map_drop]; exact Gs _
  have hn2:((l.take j).map strC++[[(.prim (.string s):AV)]]).length+(((l.map strC).take l.length).drop j).length≤1048576:=by simp; omega
  simp (maxSteps:=1000000) +contextual (disch:=first|with_reducible assumption|exact ⟨rfl⟩|exact ⟨rfl,rfl⟩|exact ⟨rfl,rfl,rfl⟩|(refine _root_.id ?_; kernel_rfl)|omega) only [evs,Ad,nth,put,putT,getT,Ai,Aj,Ab,aUn,outA,resA,mapO,Aq,Ar,w1,w2,w3,bots,cond_true,cond_false,if_true,if_false,ite_true,ite_false,reduceIte,reduceCtorEq,implies_true,Nat.reduceAdd,Nat.reduceSub,AV.int,AV.bool,AV.str,Nat.reduceBEq,Nat.reduceEqDiff,Nat.reduceMul,Nat.reduceLT,Nat.reduceLeDiff,Int.reduceNeg,BEq.rfl,beq_self_eq_true,tabl,cellsOf,fldA,ldA,stA,Ak,Ao,Am,over,Ag,Value.oneCell',idxA,nilA,Aa,Ap,Ah,pure1,pure2,reps,chkA,tys,Tryz.results80,evt,Av,Au,Al,e0,e1,e5,e6,d1,A8,hr,Kj,hr3,bound,hj0,Nat.le_refl,Nat.zero_le,hr2,hr4]
  simp [hjn,strC,htl]
 have d1:decide ((j:Int)<(l.length:Int))=true:=by simp; omega
 obtain ⟨x,hx⟩:=A6 hjl
 have hx':=Uq hx
 have d2:=h3 x hx
 have hj1:j+1≤l.length:=hjl
 cases d3:sEq x s with
 | true =>
  have hr4:D2 1 (((l.map strC).take l.length).drop (j+1))=true:=by rw [← List.map_take,← List.map_drop]; exact Gs _
  have hn2:((l.take j).map strC++[[(.prim (.string s):AV)]]).length+(((l.map strC).take l.length).drop (j+1)).length≤1048576:=by simp; omega
  simp (maxSteps:=1000000) +contextual (disch:=first|with_reducible assumption|exact ⟨rfl⟩|exact ⟨rfl,rfl⟩|exact ⟨rfl,rfl,rfl⟩|(refine _root_.id ?_; kernel_rfl)|omega) only [evs,Ad,nth,put,putT,getT,Ai,Aj,Ab,aUn,outA,resA,mapO,Aq,Ar,w1,w2,w3,bots,cond_true,cond_false,if_true,if_false,ite_true,ite_false,reduceIte,reduceCtorEq,implies_true,Nat.reduceAdd,Nat.reduceSub,AV.int,AV.bool,AV.str,Nat.reduceBEq,Nat.reduceEqDiff,Nat.reduceMul,Nat.reduceLT,Nat.reduceLeDiff,Int.reduceNeg,BEq.rfl,beq_self_eq_true,tabl,cellsOf,fldA,ldA,stA,Ak,Ao,Am,over,Ag,Value.oneCell',idxA,nilA,Aa,Ap,Ah,pure1,pure2,reps,chkA,tys,Tryz.results80,evt,Av,Au,Al,e0,e1,e5,e6,d1,d2,d3,hx',hjw,A8,hr,Kj,hr3,bound,hj1,Nat.le_refl,Nat.zero_le,hr2,hr4]
  simp [hx,d3,strC,htl]
 | false =>
  have hr4:D2 1 (((l.map strC).take l.length).drop j)=true:=by rw [← List.map_take,← List.map_drop]; exact Gs _
  have hn2:((l.take j).map strC++[[(.prim (.string s):AV)]]).length+(((l.map strC).take l.length).drop j).length≤1048576:=by simp; omega
  simp (maxSteps:=1000000) +contextual (disch:=first|with_reducible assumption|exact ⟨rfl⟩|exact ⟨rfl,rfl⟩|exact ⟨rfl,rfl,rfl⟩|(refine _root_.id ?_; kernel_rfl)|omega) only [evs,Ad,nth,put,putT,getT,Ai,Aj,Ab,aUn,outA,resA,mapO,Aq,Ar,w1,w2,w3,bots,cond_true,cond_false,if_true,if_false,ite_true,ite_false,reduceIte,reduceCtorEq,implies_true,Nat.reduceAdd,Nat.reduceSub,AV.int,AV.bool,AV.str,Nat.reduceBEq,Nat.reduceEqDiff,Nat.reduceMul,Nat.reduceLT,Nat.reduceLeDiff,Int.reduceNeg,BEq.rfl,beq_self_eq_true,tabl,cellsOf,fldA,ldA,stA,Ak,Ao,Am,over,Ag,Value.oneCell',idxA,nilA,Aa,Ap,Ah,pure1,pure2,reps,chkA,tys,Tryz.results80,evt,Av,Au,Al,e0,e1,e5,e6,d1,d2,d3,hx',hjw,A8,hr,Kj,hr3,bound,hj0,Nat.le_refl,Nat.zero_le,hr2,hr4]
  simp [hx,d3,strC,htl]
set_option maxRecDepth 100000 in
theorem Abc (l:List ByteArray) (s:ByteArray) (c c2:Cap) (hi:Inc l) (hl:l.length≤90000):cL Tryz.prog 57 [.frz (l.map strC) c,.frz [[.prim (.string s)]] c2] S tk k=some (A8 (putS l s),S,tk,k):=by
 refine A9 Tryz.func57 rfl rfl (by decide +kernel) (by decide +kernel) Tryz.ntmps57 rfl rfl _ _ _ rfl ?_; rw [Bs]
 simp (maxSteps:=1000000) +contextual (disch:=first|with_reducible assumption|exact ⟨rfl⟩|exact ⟨rfl,rfl⟩|exact ⟨rfl,rfl,rfl⟩|(refine _root_.id ?_; kernel_rfl)|omega) only [evs,Ad,nth,put,putT,getT,Ai,Aj,Ab,aUn,outA,resA,mapO,Aq,Ar,w1,w2,w3,bots,cond_true,cond_false,if_true,if_false,ite_true,ite_false,reduceIte,reduceCtorEq,implies_true,Nat.reduceAdd,Nat.reduceSub,AV.int,AV.bool,AV.str,Nat.reduceBEq,Nat.reduceEqDiff,Nat.reduceMul,Nat.reduceLT,Nat.reduceLeDiff,Int.reduceNeg,BEq.rfl,beq_self_eq_true,tabl,cellsOf,fldA,ldA,stA,Ak,Ao,Am,over,Ag,Value.oneCell',idxA,nilA,Aa,Ap,Ah,pure1,pure2,reps,chkA,tys,Tryz.results57,evt,Av,Au,Al,w2,w1]
 refine loop1 (P:=Tryz.prog) (fun x st=>st.T.length=33∧(x.1≤l.length)∧(x.2.1=l.take x.1)∧getT st.T 0=A8 l∧getT st.T 1=.frz [[.prim (.string s)]] .unk∧getT st.T 5=.frz (x.2.1.map strC) x.2.2∧getT st.T 8=A8 l∧getT st.T 9=.int l.length∧getT st.T 10=.int (x.1:Nat)∧st.S=[]) (fun x=>l.length - x.1) (fun x=>A8 (putS l s)) (0,[],.nilc) ?_ ?_
 case refine_2=>exact ⟨rfl,Nat.zero_le _,rfl,rfl,rfl,rfl,rfl,rfl,rfl,rfl⟩
 rintro ⟨j,out,c3⟩ ⟨T,S',tk',n'⟩ ⟨hl,hj,ho,e0,e1,e5,e8,e9,e10,eS⟩ IH
 simp only at hj ho e0 e1 e5 e8 e9 e10 eS
 subst eS
 obtain ⟨g,hg,hT⟩:=Bp hl
 rw [hg] at e0 e1 e5 e8 e9 e10
 subst hT
 clear hg hl
 have hjw:=D7 (i:=j) (by omega)
 have hol:out.length≤l.length:=by rw [ho]; simp; omega
 by_cases hlt:j<l.length
 ·have d1:decide ((j:Int)<(l.length:Int))=true:=by simpa using hlt
  obtain ⟨x,hx⟩:=A6 hlt
  have hx':=Uq hx
  have hP:=fun S tk k=>Y7 S tk k out x c3 (by omega)
  have hpe:putS out x=out++[x]:=Wd fun y hy=>by
   rw [ho] at hy
   have h1:Inc (l.take j++l.drop j):=by rw [List.take_append_drop]; exact hi
   exact (List.pairwise_append.1 h1).2.2 y hy x (by rw [Bw hx]; simp)
  rw [hpe] at hP
  simp only [A8] at hP
  have hts:=Gp hx
  simp (maxSteps:=1000000) +contextual (disch:=first|with_reducible assumption|exact ⟨rfl⟩|exact ⟨rfl,rfl⟩|exact ⟨rfl,rfl,rfl⟩|(refine _root_.id ?_; kernel_rfl)|omega) only [evs,Ad,nth,put,putT,getT,Ai,Aj,Ab,aUn,outA,resA,mapO,Aq,Ar,w1,w2,w3,bots,cond_true,cond_false,if_true,if_false,ite_true,ite_false,reduceIte,reduceCtorEq,implies_true,Nat.reduceAdd,Nat.reduceSub,AV.int,AV.bool,AV.str,Nat.reduceBEq,Nat.reduceEqDiff,Nat.reduceMul,Nat.reduceLT,Nat.reduceLeDiff,Int.reduceNeg,BEq.rfl,beq_self_eq_true,tabl,cellsOf,fldA,ldA,stA,Ak,Ao,Am,over,Ag,Value.oneCell',idxA,nilA,Aa,Ap,Ah,pure1,pure2,reps,chkA,tys,Tryz.results57,evt,Av,Au,Al,e0,e1,e5,e8,e9,e10,d1,A8,hx',hjw,hP]
  exact IH (j+1,out++[x],.unk) _ (by first|omega|(simp only; omega)) ⟨rfl,by first|omega|(dsimp only; omega),by rw [hts,ho],(by first|rfl|simp only [getT,List.map_append,List.map_cons,List.map_nil,strC,A8,and_self]),(by first|rfl|simp only [getT,List.map_append,List.map_cons,List.map_nil,strC,A8,and_self]),(by first|rfl|simp only [getT,List.map_append,List.map_cons,List.map_nil,strC,A8,and_self]),(by first|rfl|simp only [getT,List.map_append,List.map_cons,List.map_nil,strC,A8,and_self]),(by first|rfl|simp only [getT,List.map_append,List.map_cons,List.map_nil,strC,A8,and_self]),(by first|rfl|simp only [getT,List.map_append,List.map_cons,List.map_nil,strC,A8,and_self]),(by first|rfl|simp only [getT,List.map_append,List.map_cons,List.map_nil,strC,A8,and_self])⟩
 ·have d1:decide ((j:Int)<(l.length:Int))=false:=by simpa using hlt
  have hje:j=l.length:=by omega
  subst hje
  rw [List.take_length] at ho
  subst ho
  have hP:=fun S tk k=>Y7 S tk k out s c3 (by omega)
  simp only [A8] at hP
  simp (maxSteps:=1000000) +contextual (disch:=first|with_reducible assumption|exact ⟨rfl⟩|exact ⟨rfl,rfl⟩|exact ⟨rfl,rfl,rfl⟩|(refine _root_.id ?_; kernel_rfl)|omega) only [evs,Ad,nth,put,putT,getT,Ai,Aj,Ab,aUn,outA,resA,mapO,Aq,Ar,w1,w2,w3,bots,cond_true,cond_false,if_true,if_false,ite_true,ite_false,reduceIte,reduceCtorEq,implies_true,Nat.reduceAdd,Nat.reduceSub,AV.int,AV.bool,AV.str,Nat.reduceBEq,Nat.reduceEqDiff,Nat.reduceMul,Nat.reduceLT,Nat.reduceLeDiff,Int.reduceNeg,BEq.rfl,beq_self_eq_true,tabl,cellsOf,fldA,ldA,stA,Ak,Ao,Am,over,Ag,Value.oneCell',idxA,nilA,Aa,Ap,Ah,pure1,pure2,reps,chkA,tys,Tryz.results57,evt,Av,Au,Al,e0,e1,e5,e8,e9,e10,d1,A8]
  refine loop1 (P:=Tryz.prog) (fun x st=>st.T.length=33∧(x≤1)∧getT st.T 1=.frz [[.prim (.string s)]] .unk∧getT st.T 5=(if x=0 then .frz (out.map strC) c3 else A8 (putS out s))∧getT st.T 20=.frz [[.prim (.string s)]] .unk∧getT st.T 21=.int ((1:Nat):Int)∧getT st.T 22=.int (x:Nat)∧st.S=[]) (fun x=>1 - x) (fun x=>A8 (putS out s)) (0) ?_ ?_
  case refine_2=>exact ⟨rfl,Nat.zero_le _,rfl,rfl,rfl,rfl,rfl,rfl⟩
  rintro j ⟨T,S',tk',n'⟩ ⟨hl,hj,e1,e5,e20,e21,e22,eS⟩ IH
  subst eS
  obtain ⟨g,hg,hT⟩:=Bp hl
  rw [hg] at e1 e5 e20 e21 e22
  subst hT
  clear hg hl
  by_cases h0:j=0
  ·subst h0
   rw [if_pos rfl] at e5
   have d2:decide (((0:Nat):Int)<((1:Nat):Int))=true:=rfl
   have hjw2:IntKind.i64.wrap (((0:Nat):Int)+1)=((1:Nat):Int):=A0 (by unfold i64; omega)
   simp (maxSteps:=1000000) +contextual (disch:=first|with_reducible assumption|exact ⟨rfl⟩|exact ⟨rfl,rfl⟩|exact ⟨rfl,rfl,rfl⟩|(refine _root_.id ?_; kernel_rfl)|omega) only [evs,Ad,nth,put,putT,getT,Ai,Aj,Ab,aUn,outA,resA,mapO,Aq,Ar,w1,w2,w3,bots,cond_true,cond_false,if_true,if_false,ite_true,ite_false,reduceIte,reduceCtorEq,implies_true,Nat.reduceAdd,Nat.reduceSub,AV.int,AV.bool,AV.str,Nat.reduceBEq,Nat.reduceEqDiff,Nat.reduceMul,Nat.reduceLT,Nat.reduceLeDiff,Int.reduceNeg,BEq.rfl,beq_self_eq_true,tabl,cellsOf,fldA,ldA,stA,Ak,Ao,Am,over,Ag,Value.oneCell',idxA,nilA,Aa,Ap,Ah,pure1,pure2,reps,chkA,tys,Tryz.results57,evt,Av,Au,Al,e1,e5,e20,e21,e22,d2,hjw2,hP]
   exact IH (1) _ (by first|omega|(simp only; omega)) ⟨rfl,by first|omega|(dsimp only; omega),(by first|rfl|simp only [getT,List.map_append,List.map_cons,List.map_nil,strC,A8,and_self]),(by first|rfl|simp only [getT,List.map_append,List.map_cons,List.map_nil,strC,A8,and_self]),(by first|rfl|simp only [getT,List.map_append,List.map_cons,List.map_nil,strC,A8,and_self]),(by first|rfl|simp only [getT,List.map_append,List.map_cons,List.map_nil,strC,A8,and_self]),(by first|rfl|simp only [getT,List.map_append,List.map_cons,List.map_nil,strC,A8,and_self]),(by first|rfl|simp only [getT,List.map_append,List.map_cons,List.map_nil,strC,A8,and_self])⟩
  ·have hj1:j=1:=by omega
   subst hj1
   rw [if_neg (by omega)] at e5
   have d2:decide (((1:Nat):Int)<((1:Nat):Int))=false:=rfl
   simp (maxSteps:=1000000) +contextual (disch:=first|with_reducible assumption|exact ⟨rfl⟩|exact ⟨rfl,rfl⟩|exact ⟨rfl,rfl,rfl⟩|(refine _root_.id ?_; kernel_rfl)|omega) only [evs,Ad,nth,put,putT,getT,Ai,Aj,Ab,aUn,outA,resA,mapO,Aq,Ar,w1,w2,w3,bots,cond_true,cond_false,if_true,if_false,ite_true,ite_false,reduceIte,reduceCtorEq,implies_true,Nat.reduceAdd,Nat.reduceSub,AV.int,AV.bool,AV.str,Nat.reduceBEq,Nat.reduceEqDiff,Nat.reduceMul,Nat.reduceLT,Nat.reduceLeDiff,Int.reduceNeg,BEq.rfl,beq_self_eq_true,tabl,cellsOf,fldA,ldA,stA,Ak,Ao,Am,over,Ag,Value.oneCell',idxA,nilA,Aa,Ap,Ah,pure1,pure2,reps,chkA,tys,Tryz.results57,evt,Av,Au,Al,e1,e5,e20,e21,e22,d2,A8]
end
end Go.Proofs.YtcjffhadclngmaaGreat
namespace Go.Proofs.YtcjffhadclngmaaGreat
open Go
theorem P7 {l:List RowT} {i:Nat} {r:RowT} (h:nth l i=some r):B9 (l.take (i+1))=B9 (l.take i)++r.1.map (·.1):=by
 rw [Gp h,Xh]
theorem Abp {l:List RowT} (h:fewC l) (i:Nat):fewC (l.take i):=fun r hr=>h r (List.mem_of_mem_take hr)
theorem Aai {l:List RowT} (h:fewC l) (hl:l.length≤64) (i:Nat):(B9 (l.take i)).length≤1536:=by
 have h1:=Tl (Abp h i)
 have:(l.take i).length≤64:=by simp; omega
 omega
theorem Ae8 (l:List ByteArray):(uniS l).length≤l.length:=(K8 l).2.2
section
variable (S:List Ent) (tk:List Nat) (k:Nat)
set_option maxRecDepth 100000 in
theorem T7 (l:List RowT) (hf:fewC l) (hl:l.length≤64):cL Tryz.prog 30 [Bh l] S tk k=some (A8 (Dr l),S,tk,k):=by
 refine A9 Tryz.func30 rfl rfl (by decide +kernel) (by decide +kernel) Tryz.ntmps30 rfl rfl _ _ _ rfl ?_; rw [Bs]
 simp (maxSteps:=1000000) +contextual (disch:=first|with_reducible assumption|exact ⟨rfl⟩|exact ⟨rfl,rfl⟩|exact ⟨rfl,rfl,rfl⟩|(refine _root_.id ?_; kernel_rfl)|omega) only [evs,Ad,nth,put,putT,getT,Ai,Aj,Ab,aUn,outA,resA,mapO,Aq,Ar,w1,w2,w3,bots,cond_true,cond_false,if_true,if_false,ite_true,ite_false,reduceIte,reduceCtorEq,implies_true,Nat.reduceAdd,Nat.reduceSub,AV.int,AV.bool,AV.str,Nat.reduceBEq,Nat.reduceEqDiff,Nat.reduceMul,Nat.reduceLT,Nat.reduceLeDiff,Int.reduceNeg,BEq.rfl,beq_self_eq_true,tabl,cellsOf,fldA,ldA,stA,Ak,Ao,Am,over,Ag,Value.oneCell',idxA,nilA,Aa,Ap,Ah,pure1,pure2,reps,chkA,tys,Tryz.results30,evt,Av,Au,Al,Bh]
 refine loop1 (P:=Tryz.prog) (fun x st=>st.T.length=30∧(x.1≤l.length)∧(x.2.1=uniS (B9 (l.take x.1)))∧getT st.T 3=.frz (x.2.1.map strC) x.2.2∧getT st.T 8=Bh l∧getT st.T 9=.int l.length∧getT st.T 10=.int (x.1:Nat)∧st.S=[]) (fun x=>l.length - x.1) (fun x=>A8 (Dr l)) (0,[],.nilc) ?_ ?_
 case refine_2=>exact ⟨rfl,Nat.zero_le _,rfl,rfl,rfl,rfl,rfl,rfl⟩
 rintro ⟨i,out,c⟩ ⟨T,S',tk',n'⟩ ⟨hl,hi,ho,e3,e8,e9,e10,eS⟩ IH
 simp only at hi ho e3 e8 e9 e10 eS
 subst eS
 obtain ⟨g,hg,hT⟩:=Bp hl
 rw [hg] at e3 e8 e9 e10
 subst hT
 clear hg hl
 have OUT:=IH
 clear IH
 have hiw:=D7 (i:=i) (by omega)
 by_cases hlt:i<l.length
 ·have d1:decide ((i:Int)<(l.length:Int))=true:=by simpa using hlt
  obtain ⟨r,hx⟩:=A6 hlt
  have hx':=Ks hx
  have hrl:=hf r (Qv hx)
  have hnl:=Aai hf hl i
  have hnt:=P7 hx
  simp only [rowC,Bn] at hx'
  simp (maxSteps:=1000000) +contextual (disch:=first|with_reducible assumption|exact ⟨rfl⟩|exact ⟨rfl,rfl⟩|exact ⟨rfl,rfl,rfl⟩|(refine _root_.id ?_; kernel_rfl)|omega) only [evs,Ad,nth,put,putT,getT,Ai,Aj,Ab,aUn,outA,resA,mapO,Aq,Ar,w1,w2,w3,bots,cond_true,cond_false,if_true,if_false,ite_true,ite_false,reduceIte,reduceCtorEq,implies_true,Nat.reduceAdd,Nat.reduceSub,AV.int,AV.bool,AV.str,Nat.reduceBEq,Nat.reduceEqDiff,Nat.reduceMul,Nat.reduceLT,Nat.reduceLeDiff,Int.reduceNeg,BEq.rfl,beq_self_eq_true,tabl,cellsOf,fldA,ldA,stA,Ak,Ao,Am,over,Ag,Value.oneCell',idxA,nilA,Aa,Ap,Ah,pure1,pure2,reps,chkA,tys,Tryz.results30,evt,Av,Au,Al,e3,e8,e9,e10,d1,Bh,hx']
  refine loop1 (P:=Tryz.prog) (fun x st=>st.T.length=30∧(x.1≤r.1.length)∧(x.2.1=uniS (B9 (l.take i)++(r.1.take x.1).map (·.1)))∧getT st.T 3=.frz (x.2.1.map strC) x.2.2∧getT st.T 8=Bh l∧getT st.T 9=.int l.length∧getT st.T 10=.int (i:Nat)∧getT st.T 16=.frz (r.1.map Gc) .unk∧getT st.T 17=.int r.1.length∧getT st.T 18=.int (x.1:Nat)∧st.S=[⟨n',[.frz (r.1.map Gc) .unk,.int r.2.1,.bool r.2.2]⟩]) (fun x=>r.1.length - x.1) (fun x=>A8 (Dr l)) (0,out,c) ?_ ?_
  case refine_2=>exact ⟨rfl,Nat.zero_le _,by simp [ho],rfl,rfl,rfl,rfl,rfl,rfl,rfl,rfl⟩
  rintro ⟨j,out2,c2⟩ ⟨T,S',tk',n'⟩ ⟨hl,hj,ho2,e3,e8,e9,e10,e16,e17,e18,eS⟩ IH
  simp only at hj ho2 e3 e8 e9 e10 e16 e17 e18 eS
  subst eS
  obtain ⟨g,hg,hT⟩:=Bp hl
  rw [hg] at e3 e8 e9 e10 e16 e17 e18
  subst hT
  clear hg hl
  have hjw:=D7 (i:=j) (by omega)
  have hml:(B9 (l.take i)++(r.1.take j).map (·.1)).length≤1600:=by simp; omega
  have hul:=Ae8 (B9 (l.take i)++(r.1.take j).map (·.1))
  by_cases hlt2:j<r.1.length
  ·have d2:decide ((j:Int)<(r.1.length:Int))=true:=by simpa using hlt2
   obtain ⟨q,hq⟩:=A6 hlt2
   have hq':=Wg hq
   simp only [Gc] at hq'
   have hU:=fun S tk k=>Abc S tk k out2 q.1 c2 .tight (by rw [ho2]; exact (K8 _).1) (by rw [ho2]; omega)
   have hts:=Gp hq
   simp only [A8] at hU
   simp (maxSteps:=1000000) +contextual (disch:=first|with_reducible assumption|exact ⟨rfl⟩|exact ⟨rfl,rfl⟩|exact ⟨rfl,rfl,rfl⟩|(refine _root_.id ?_; kernel_rfl)|omega) only [evs,Ad,nth,put,putT,getT,Ai,Aj,Ab,aUn,outA,resA,mapO,Aq,Ar,w1,w2,w3,bots,cond_true,cond_false,if_true,if_false,ite_true,ite_false,reduceIte,reduceCtorEq,implies_true,Nat.reduceAdd,Nat.reduceSub,AV.int,AV.bool,AV.str,Nat.reduceBEq,Nat.reduceEqDiff,Nat.reduceMul,Nat.reduceLT,Nat.reduceLeDiff,Int.reduceNeg,BEq.rfl,beq_self_eq_true,tabl,cellsOf,fldA,ldA,stA,Ak,Ao,Am,over,Ag,Value.oneCell',idxA,nilA,Aa,Ap,Ah,pure1,pure2,reps,chkA,tys,Tryz.results30,evt,Av,Au,Al,e3,e8,e9,e10,e16,e17,e18,d2,hq',hjw,hU]
   exact IH (j+1,putS out2 q.1,.unk) _ (by first|omega|(simp only; omega)) ⟨rfl,by first|omega|(dsimp only; omega),by rw [hts,List.map_append,← List.append_assoc,List.map_cons,List.map_nil,V0,ho2],(by first|rfl|simp only [getT,List.map_append,List.map_cons,List.map_nil,strC,A8,and_self]),(by first|rfl|simp only [getT,List.map_append,List.map_cons,List.map_nil,strC,A8,and_self]),(by first|rfl|simp only [getT,List.map_append,List.map_cons,List.map_nil,strC,A8,and_self]),(by first|rfl|simp only [getT,List.map_append,List.map_cons,List.map_nil,strC,A8,and_self]),(by first|rfl|simp only [getT,List.map_append,List.map_cons,List.map_nil,strC,A8,and_self]),(by first|rfl|simp only [getT,List.map_append,List.map_cons,List.map_nil,strC,A8,and_self]),(by first|rfl|simp only [getT,List.map_append,List.map_cons,List.map_nil,strC,A8,and_self]),(by first|rfl|simp only [getT,List.map_append,List.map_cons,List.map_nil,strC,A8,and_self])⟩
  ·have d2:decide ((j:Int)<(r.1.length:Int))=false:=by simpa using hlt2
   have hje:j=r.1.length:=by omega
   subst hje
   rw [List.take_length] at ho2
   simp (maxSteps:=1000000) +contextual (disch:=first|with_reducible assumption|exact ⟨rfl⟩|exact ⟨rfl,rfl⟩|exact ⟨rfl,rfl,rfl⟩|(refine _root_.id ?_; kernel_rfl)|omega) only [evs,Ad,nth,put,putT,getT,Ai,Aj,Ab,aUn,outA,resA,mapO,Aq,Ar,w1,w2,w3,bots,cond_true,cond_false,if_true,if_false,ite_true,ite_false,reduceIte,reduceCtorEq,implies_true,Nat.reduceAdd,Nat.reduceSub,AV.int,AV.bool,AV.str,Nat.reduceBEq,Nat.reduceEqDiff,Nat.reduceMul,Nat.reduceLT,Nat.reduceLeDiff,Int.reduceNeg,BEq.rfl,beq_self_eq_true,tabl,cellsOf,fldA,ldA,stA,Ak,Ao,Am,over,Ag,Value.oneCell',idxA,nilA,Aa,Ap,Ah,pure1,pure2,reps,chkA,tys,Tryz.results30,evt,Av,Au,Al,e3,e8,e9,e10,e16,e17,e18,d2,hiw]
   exact OUT (i+1,out2,c2) _ (by first|omega|(simp only; omega)) ⟨rfl,by first|omega|(dsimp only; omega),by rw [hnt,ho2],(by first|rfl|simp only [getT,List.map_append,List.map_cons,List.map_nil,strC,A8,and_self]),(by first|rfl|simp only [getT,List.map_append,List.map_cons,List.map_nil,strC,A8,and_self]),(by first|rfl|simp only [getT,List.map_append,List.map_cons,List.map_nil,strC,A8,and_self]),(by first|rfl|simp only [getT,List.map_append,List.map_cons,List.map_nil,strC,A8,and_self]),(by first|rfl|simp only [getT,List.map_append,List.map_cons,List.map_nil,strC,A8,and_self])⟩
 ·have d1:decide ((i:Int)<(l.length:Int))=false:=by simpa using hlt
  have hie:i=l.length:=by omega
  subst hie
  rw [List.take_length] at ho
  simp (maxSteps:=1000000) +contextual (disch:=first|with_reducible assumption|exact ⟨rfl⟩|exact ⟨rfl,rfl⟩|exact ⟨rfl,rfl,rfl⟩|(refine _root_.id ?_; kernel_rfl)|omega) only [evs,Ad,nth,put,putT,getT,Ai,Aj,Ab,aUn,outA,resA,mapO,Aq,Ar,w1,w2,w3,bots,cond_true,cond_false,if_true,if_false,ite_true,ite_false,reduceIte,reduceCtorEq,implies_true,Nat.reduceAdd,Nat.reduceSub,AV.int,AV.bool,AV.str,Nat.reduceBEq,Nat.reduceEqDiff,Nat.reduceMul,Nat.reduceLT,Nat.reduceLeDiff,Int.reduceNeg,BEq.rfl,beq_self_eq_true,tabl,cellsOf,fldA,ldA,stA,Ak,Ao,Am,over,Ag,Value.oneCell',idxA,nilA,Aa,Ap,Ah,pure1,pure2,reps,chkA,tys,Tryz.results30,evt,Av,Au,Al,e3,e8,e9,e10,d1,Bh]
  rw [ho]; rfl
set_option maxRecDepth 100000 in
theorem Dn (l:List RowT) (hf:fewC l) (hl:l.length≤64):cL Tryz.prog 28 [Bh l] S tk k=some (A8 (Dr l),S,tk,k):=by
 refine A9 Tryz.func28 rfl rfl (by decide +kernel) (by decide +kernel) Tryz.ntmps28 rfl rfl _ _ _ rfl ?_; rw [Bs]
 simp (maxSteps:=1000000) +contextual (disch:=first|with_reducible assumption|exact ⟨rfl⟩|exact ⟨rfl,rfl⟩|exact ⟨rfl,rfl,rfl⟩|(refine _root_.id ?_; kernel_rfl)|omega) only [evs,Ad,nth,put,putT,getT,Ai,Aj,Ab,aUn,outA,resA,mapO,Aq,Ar,w1,w2,w3,bots,cond_true,cond_false,if_true,if_false,ite_true,ite_false,reduceIte,reduceCtorEq,implies_true,Nat.reduceAdd,Nat.reduceSub,AV.int,AV.bool,AV.str,Nat.reduceBEq,Nat.reduceEqDiff,Nat.reduceMul,Nat.reduceLT,Nat.reduceLeDiff,Int.reduceNeg,BEq.rfl,beq_self_eq_true,tabl,cellsOf,fldA,ldA,stA,Ak,Ao,Am,over,Ag,Value.oneCell',idxA,nilA,Aa,Ap,Ah,pure1,pure2,reps,chkA,tys,Tryz.results28,evt,Av,Au,Al,Bh]
 refine loop1 (P:=Tryz.prog) (fun x st=>st.T.length=31∧(x.1≤l.length)∧(x.2.1=B9 (l.take x.1))∧(Bx st.tk x.2.2 1=true)∧((!x.2.1.isEmpty || Nk x.2.2)=true)∧getT st.T 3=.frz (x.2.1.map strC) x.2.2∧getT st.T 8=Bh l∧getT st.T 9=.int l.length∧getT st.T 10=.int (x.1:Nat)∧st.S=[]) (fun x=>l.length - x.1) (fun x=>A8 (Dr l)) (0,[],.nilc) ?_ ?_
 case refine_2=>exact ⟨rfl,Nat.zero_le _,rfl,rfl,rfl,rfl,rfl,rfl,rfl,rfl⟩
 rintro ⟨i,out,c⟩ ⟨T,S',tk',n'⟩ ⟨hl,hi,ho,hok,hc,e3,e8,e9,e10,eS⟩ IH
 simp only at hi ho hok hc e3 e8 e9 e10 eS
 subst eS
 obtain ⟨g,hg,hT⟩:=Bp hl
 rw [hg] at e3 e8 e9 e10
 subst hT
 clear hg hl
 have OUT:=IH
 clear IH
 have hiw:=D7 (i:=i) (by omega)
 have hnl:=Aai hf hl i
 by_cases hlt:i<l.length
 ·have d1:decide ((i:Int)<(l.length:Int))=true:=by simpa using hlt
  obtain ⟨r,hx⟩:=A6 hlt
  have hx':=Ks hx
  have hrl:=hf r (Qv hx)
  have hnt:=P7 hx
  simp only [rowC,Bn] at hx'
  simp (maxSteps:=1000000) +contextual (disch:=first|with_reducible assumption|exact ⟨rfl⟩|exact ⟨rfl,rfl⟩|exact ⟨rfl,rfl,rfl⟩|(refine _root_.id ?_; kernel_rfl)|omega) only [evs,Ad,nth,put,putT,getT,Ai,Aj,Ab,aUn,outA,resA,mapO,Aq,Ar,w1,w2,w3,bots,cond_true,cond_false,if_true,if_false,ite_true,ite_false,reduceIte,reduceCtorEq,implies_true,Nat.reduceAdd,Nat.reduceSub,AV.int,AV.bool,AV.str,Nat.reduceBEq,Nat.reduceEqDiff,Nat.reduceMul,Nat.reduceLT,Nat.reduceLeDiff,Int.reduceNeg,BEq.rfl,beq_self_eq_true,tabl,cellsOf,fldA,ldA,stA,Ak,Ao,Am,over,Ag,Value.oneCell',idxA,nilA,Aa,Ap,Ah,pure1,pure2,reps,chkA,tys,Tryz.results28,evt,Av,Au,Al,e3,e8,e9,e10,d1,Bh,hx']
  refine loop1 (P:=Tryz.prog) (fun x st=>st.T.length=31∧(x.1≤r.1.length)∧(x.2.1=B9 (l.take i)++(r.1.take x.1).map (·.1))∧(Bx st.tk x.2.2 1=true)∧((!x.2.1.isEmpty || Nk x.2.2)=true)∧getT st.T 3=.frz (x.2.1.map strC) x.2.2∧getT st.T 8=Bh l∧getT st.T 9=.int l.length∧getT st.T 10=.int (i:Nat)∧getT st.T 16=.frz (r.1.map Gc) .unk∧getT st.T 17=.int r.1.length∧getT st.T 18=.int (x.1:Nat)∧st.S=[⟨n',[.frz (r.1.map Gc) .unk,.int r.2.1,.bool r.2.2]⟩]) (fun x=>r.1.length - x.1) (fun x=>A8 (Dr l)) (0,out,c) ?_ ?_
  case refine_2=>exact ⟨rfl,Nat.zero_le _,by simp [ho],hok,hc,rfl,rfl,rfl,rfl,rfl,rfl,rfl,rfl⟩
  rintro ⟨j,out2,c2⟩ ⟨T,S',tk',n'⟩ ⟨hl,hj,ho2,hok2,hc2,e3,e8,e9,e10,e16,e17,e18,eS⟩ IH
  simp only at hj ho2 hok2 hc2 e3 e8 e9 e10 e16 e17 e18 eS
  subst eS
  obtain ⟨g,hg,hT⟩:=Bp hl
  rw [hg] at e3 e8 e9 e10 e16 e17 e18
  subst hT
  clear hg hl
  have hjw:=D7 (i:=j) (by omega)
  have hml:out2.length≤1600:=by rw [ho2]; simp; omega
  have hr:=Gs out2
  have hok':=Es hok2
  have hn1:(out2.map strC).length+1≤1048576:=by simp; omega
  by_cases hlt2:j<r.1.length
  ·have d2:decide ((j:Int)<(r.1.length:Int))=true:=by simpa using hlt2
   obtain ⟨q,hq⟩:=A6 hlt2
   have hq':=Wg hq
   simp only [Gc] at hq'
   have hts:=Gp hq
   simp (maxSteps:=1000000) +contextual (disch:=first|with_reducible assumption|exact ⟨rfl⟩|exact ⟨rfl,rfl⟩|exact ⟨rfl,rfl,rfl⟩|(refine _root_.id ?_; kernel_rfl)|omega) only [evs,Ad,nth,put,putT,getT,Ai,Aj,Ab,aUn,outA,resA,mapO,Aq,Ar,w1,w2,w3,bots,cond_true,cond_false,if_true,if_false,ite_true,ite_false,reduceIte,reduceCtorEq,implies_true,Nat.reduceAdd,Nat.reduceSub,AV.int,AV.bool,AV.str,Nat.reduceBEq,Nat.reduceEqDiff,Nat.reduceMul,Nat.reduceLT,Nat.reduceLeDiff,Int.reduceNeg,BEq.rfl,beq_self_eq_true,tabl,cellsOf,fldA,ldA,stA,Ak,Ao,Am,over,Ag,Value.oneCell',idxA,nilA,Aa,Ap,Ah,pure1,pure2,reps,chkA,tys,Tryz.results28,evt,Av,Au,Al,e3,e8,e9,e10,e16,e17,e18,d2,hq',hjw,hr]
   exact IH (j+1,out2++[q.1],D3 tk' c2 1) _ (by first|omega|(simp only; omega)) ⟨rfl,by first|omega|(dsimp only; omega),by rw [hts,List.map_append,← List.append_assoc,ho2]; rfl,hok',by simp,(by first|rfl|simp only [getT,List.map_append,List.map_cons,List.map_nil,strC,A8,and_self]),(by first|rfl|simp only [getT,List.map_append,List.map_cons,List.map_nil,strC,A8,and_self]),(by first|rfl|simp only [getT,List.map_append,List.map_cons,List.map_nil,strC,A8,and_self]),(by first|rfl|simp only [getT,List.map_append,List.map_cons,List.map_nil,strC,A8,and_self]),(by first|rfl|simp only [getT,List.map_append,List.map_cons,List.map_nil,strC,A8,and_self]),(by first|rfl|simp only [getT,List.map_append,List.map_cons,List.map_nil,strC,A8,and_self]),(by first|rfl|simp only [getT,List.map_append,List.map_cons,List.map_nil,strC,A8,and_self]),(by first|rfl|simp only [getT,List.map_append,List.map_cons,List.map_nil,strC,A8,and_self])⟩
  ·have d2:decide ((j:Int)<(r.1.length:Int))=false:=by simpa using hlt2
   have hje:j=r.1.length:=by omega
   subst hje
   rw [List.take_length] at ho2
   simp (maxSteps:=1000000) +contextual (disch:=first|with_reducible assumption|exact ⟨rfl⟩|exact ⟨rfl,rfl⟩|exact ⟨rfl,rfl,rfl⟩|(refine _root_.id ?_; kernel_rfl)|omega) only [evs,Ad,nth,put,putT,getT,Ai,Aj,Ab,aUn,outA,resA,mapO,Aq,Ar,w1,w2,w3,bots,cond_true,cond_false,if_true,if_false,ite_true,ite_false,reduceIte,reduceCtorEq,implies_true,Nat.reduceAdd,Nat.reduceSub,AV.int,AV.bool,AV.str,Nat.reduceBEq,Nat.reduceEqDiff,Nat.reduceMul,Nat.reduceLT,Nat.reduceLeDiff,Int.reduceNeg,BEq.rfl,beq_self_eq_true,tabl,cellsOf,fldA,ldA,stA,Ak,Ao,Am,over,Ag,Value.oneCell',idxA,nilA,Aa,Ap,Ah,pure1,pure2,reps,chkA,tys,Tryz.results28,evt,Av,Au,Al,e3,e8,e9,e10,e16,e17,e18,d2,hiw]
   exact OUT (i+1,out2,c2) _ (by first|omega|(simp only; omega)) ⟨rfl,by first|omega|(dsimp only; omega),by rw [hnt,ho2],hok2,hc2,(by first|rfl|simp only [getT,List.map_append,List.map_cons,List.map_nil,strC,A8,and_self]),(by first|rfl|simp only [getT,List.map_append,List.map_cons,List.map_nil,strC,A8,and_self]),(by first|rfl|simp only [getT,List.map_append,List.map_cons,List.map_nil,strC,A8,and_self]),(by first|rfl|simp only [getT,List.map_append,List.map_cons,List.map_nil,strC,A8,and_self]),(by first|rfl|simp only [getT,List.map_append,List.map_cons,List.map_nil,strC,A8,and_self])⟩
 ·have d1:decide ((i:Int)<(l.length:Int))=false:=by simpa using hlt
  have hie:i=l.length:=by omega
  subst hie
  rw [List.take_length] at ho hnl
  have hU:=fun S tk k=>Uw S tk k out c (by rw [ho]; omega) hc
  simp only [A8] at hU
  simp (maxSteps:=1000000) +contextual (disch:=first|with_reducible assumption|exact ⟨rfl⟩|exact ⟨rfl,rfl⟩|exact ⟨rfl,rfl,rfl⟩|(refine _root_.id ?_; kernel_rfl)|omega) only [evs,Ad,nth,put,putT,getT,Ai,Aj,Ab,aUn,outA,resA,mapO,Aq,Ar,w1,w2,w3,bots,cond_true,cond_false,if_true,if_false,ite_true,ite_false,reduceIte,reduceCtorEq,implies_true,Nat.reduceAdd,Nat.reduceSub,AV.int,AV.bool,AV.str,Nat.reduceBEq,Nat.reduceEqDiff,Nat.reduceMul,Nat.reduceLT,Nat.reduceLeDiff,Int.reduceNeg,BEq.rfl,beq_self_eq_true,tabl,cellsOf,fldA,ldA,stA,Ak,Ao,Am,over,Ag,Value.oneCell',idxA,nilA,Aa,Ap,Ah,pure1,pure2,reps,chkA,tys,Tryz.results28,evt,Av,Au,Al,e3,e8,e9,e10,d1,Bh,hU]
  rw [ho]; rfl
def G9:List RowT→Int
 | []=>0
 | r :: l=>if Eo r.1 r.2.1 != 0 then Eo r.1 r.2.1 else G9 l
def sysE (l:List RowT):Int:=if 64<l.length then 7 else if G9 l != 0 then G9 l else if 24<(Dr l).length then 7 else 0
theorem K9 {cs:List (ByteArray × Int)} {n:Int} (h:Eo cs n=0):cs.length≤24:=by
 unfold Eo at h
 split at h
 ·cases h
 ·omega
theorem Ld:∀ {l:List RowT},G9 l=0→fewC l
 | [],_=>fun r hr=>by simp at hr
 | r :: l,h=>by
  unfold G9 at h
  by_cases h0:Eo r.1 r.2.1=0
  ·rw [h0] at h
   simp only [bne_self_eq_false,Bool.false_eq_true,if_false] at h
   intro x hx
   rcases List.mem_cons.1 hx with rfl|hx
   ·exact K9 h0
   ·exact Ld h x hx
  ·rw [if_pos (by simpa using h0)] at h; exact absurd h h0
set_option maxRecDepth 100000 in
theorem M1 (l:List RowT) (hl0:∀ r ∈ l,r.1.length≤1048576):cL Tryz.prog 8 [Bh l] S tk k=some (.int (sysE l),S,tk,k):=by
 refine A9 Tryz.func8 rfl rfl (by decide +kernel) (by decide +kernel) Tryz.ntmps8 rfl rfl _ _ _ rfl ?_; rw [Bs]
 by_cases h64:64<l.length
 ·have d0:decide ((l.length:Int) > 64)=true:=by simp; omega
  simp (maxSteps:=1000000) +contextual (disch:=first|with_reducible assumption|exact ⟨rfl⟩|exact ⟨rfl,rfl⟩|exact ⟨rfl,rfl,rfl⟩|(refine _root_.id ?_; kernel_rfl)|omega) only [evs,Ad,nth,put,putT,getT,Ai,Aj,Ab,aUn,outA,resA,mapO,Aq,Ar,w1,w2,w3,bots,cond_true,cond_false,if_true,if_false,ite_true,ite_false,reduceIte,reduceCtorEq,implies_true,Nat.reduceAdd,Nat.reduceSub,AV.int,AV.bool,AV.str,Nat.reduceBEq,Nat.reduceEqDiff,Nat.reduceMul,Nat.reduceLT,Nat.reduceLeDiff,Int.reduceNeg,BEq.rfl,beq_self_eq_true,tabl,cellsOf,fldA,ldA,stA,Ak,Ao,Am,over,Ag,Value.oneCell',idxA,nilA,Aa,Ap,Ah,pure1,pure2,reps,chkA,tys,Tryz.results8,evt,Av,Au,Al,Bh,d0]
  simp [sysE,h64]
 have d0:decide ((l.length:Int) > 64)=false:=by simp; omega
 simp (maxSteps:=1000000) +contextual (disch:=first|with_reducible assumption|exact ⟨rfl⟩|exact ⟨rfl,rfl⟩|exact ⟨rfl,rfl,rfl⟩|(refine _root_.id ?_; kernel_rfl)|omega) only [evs,Ad,nth,put,putT,getT,Ai,Aj,Ab,aUn,outA,resA,mapO,Aq,Ar,w1,w2,w3,bots,cond_true,cond_false,if_true,if_false,ite_true,ite_false,reduceIte,reduceCtorEq,implies_true,Nat.reduceAdd,Nat.reduceSub,AV.int,AV.bool,AV.str,Nat.reduceBEq,Nat.reduceEqDiff,Nat.reduceMul,Nat.reduceLT,Nat.reduceLeDiff,Int.reduceNeg,BEq.rfl,beq_self_eq_true,tabl,cellsOf,fldA,ldA,stA,Ak,Ao,Am,over,Ag,Value.oneCell',idxA,nilA,Aa,Ap,Ah,pure1,pure2,reps,chkA,tys,Tryz.results8,evt,Av,Au,Al,Bh,d0]
 refine loop1 (P:=Tryz.prog) (fun x st=>st.T.length=26∧(x≤l.length)∧(G9 l=G9 (l.drop x))∧getT st.T 0=Bh l∧getT st.T 9=Bh l∧getT st.T 10=.int l.length∧getT st.T 11=.int (x:Nat)∧st.S=[]) (fun x=>l.length - x) (fun x=>.int (sysE l)) (0) ?_ ?_
 case refine_2=>exact ⟨rfl,Nat.zero_le _,rfl,rfl,rfl,rfl,rfl,rfl⟩
 rintro i ⟨T,S',tk',n'⟩ ⟨hl,hi,hE,e0,e9,e10,e11,eS⟩ IH
 subst eS
 obtain ⟨g,hg,hT⟩:=Bp hl
 rw [hg] at e0 e9 e10 e11
 subst hT
 clear hg hl
 have hiw:=D7 (i:=i) (by omega)
 by_cases hlt:i<l.length
 ·have d1:decide ((i:Int)<(l.length:Int))=true:=by simpa using hlt
  obtain ⟨r,hx⟩:=A6 hlt
  have hx':=Ks hx
  have hC:=fun S tk k=>Zt S tk k r.1 r.2.1 (hl0 r (Qv hx))
  simp only [rowC,Bn] at hx'
  simp only [linA,Bn] at hC
  rw [Bw hx,G9] at hE
  generalize Eo r.1 r.2.1=e at *
  cases h0:(e != 0) with
  | true =>
   simp (maxSteps:=1000000) +contextual (disch:=first|with_reducible assumption|exact ⟨rfl⟩|exact ⟨rfl,rfl⟩|exact ⟨rfl,rfl,rfl⟩|(refine _root_.id ?_; kernel_rfl)|omega) only [evs,Ad,nth,put,putT,getT,Ai,Aj,Ab,aUn,outA,resA,mapO,Aq,Ar,w1,w2,w3,bots,cond_true,cond_false,if_true,if_false,ite_true,ite_false,reduceIte,reduceCtorEq,implies_true,Nat.reduceAdd,Nat.reduceSub,AV.int,AV.bool,AV.str,Nat.reduceBEq,Nat.reduceEqDiff,Nat.reduceMul,Nat.reduceLT,Nat.reduceLeDiff,Int.reduceNeg,BEq.rfl,beq_self_eq_true,tabl,cellsOf,fldA,ldA,stA,Ak,Ao,Am,over,Ag,Value.oneCell',idxA,nilA,Aa,Ap,Ah,pure1,pure2,reps,chkA,tys,Tryz.results8,evt,Av,Au,Al,e0,e9,e10,e11,d1,Bh,hx',hC,hiw,h0]
   rw [h0,if_pos rfl] at hE
   unfold sysE
   rw [if_neg h64,hE,if_pos h0]
  | false =>
   rw [h0,if_neg (by simp)] at hE
   simp (maxSteps:=1000000) +contextual (disch:=first|with_reducible assumption|exact ⟨rfl⟩|exact ⟨rfl,rfl⟩|exact ⟨rfl,rfl,rfl⟩|(refine _root_.id ?_; kernel_rfl)|omega) only [evs,Ad,nth,put,putT,getT,Ai,Aj,Ab,aUn,outA,resA,mapO,Aq,Ar,w1,w2,w3,bots,cond_true,cond_false,if_true,if_false,ite_true,ite_false,reduceIte,reduceCtorEq,implies_true,Nat.reduceAdd,Nat.reduceSub,AV.int,AV.bool,AV.str,Nat.reduceBEq,Nat.reduceEqDiff,Nat.reduceMul,Nat.reduceLT,Nat.reduceLeDiff,Int.reduceNeg,BEq.rfl,beq_self_eq_true,tabl,cellsOf,fldA,ldA,stA,Ak,Ao,Am,over,Ag,Value.oneCell',idxA,nilA,Aa,Ap,Ah,pure1,pure2,reps,chkA,tys,Tryz.results8,evt,Av,Au,Al,e0,e9,e10,e11,d1,Bh,hx',hC,hiw,h0]
   exact IH (i+1) _ (by first|omega|(simp only; omega)) ⟨rfl,by first|omega|(dsimp only; omega),hE,(by first|rfl|simp only [getT,List.map_append,List.map_cons,List.map_nil,strC,A8,and_self]),(by first|rfl|simp only [getT,List.map_append,List.map_cons,List.map_nil,strC,A8,and_self]),(by first|rfl|simp only [getT,List.map_append,List.map_cons,List.map_nil,strC,A8,and_self]),(by first|rfl|simp only [getT,List.map_append,List.map_cons,List.map_nil,strC,A8,and_self]),(by first|rfl|simp only [getT,List.map_append,List.map_cons,List.map_nil,strC,A8,and_self])⟩
 ·have d1:decide ((i:Int)<(l.length:Int))=false:=by simpa using hlt
  have hie:i=l.length:=by omega
  subst hie
  rw [List.drop_length] at hE
  have hE0:G9 l=0:=hE
  have hV:=fun S tk k=>T7 S tk k l (Ld hE0) (by omega)
  have hs:sysE l=if 24<(Dr l).length then 7 else 0:=by unfold sysE; rw [if_neg h64,hE0]; rfl
  rw [hs]
  simp only [Bh,A8] at hV
  by_cases h24:24<(Dr l).length
  ·have d2:decide (((Dr l).length:Int) > 24)=true:=by simp; omega
   simp (maxSteps:=1000000) +contextual (disch:=first|with_reducible assumption|exact ⟨rfl⟩|exact ⟨rfl,rfl⟩|exact ⟨rfl,rfl,rfl⟩|(refine _root_.id ?_; kernel_rfl)|omega) only [evs,Ad,nth,put,putT,getT,Ai,Aj,Ab,aUn,outA,resA,mapO,Aq,Ar,w1,w2,w3,bots,cond_true,cond_false,if_true,if_false,ite_true,ite_false,reduceIte,reduceCtorEq,implies_true,Nat.reduceAdd,Nat.reduceSub,AV.int,AV.bool,AV.str,Nat.reduceBEq,Nat.reduceEqDiff,Nat.reduceMul,Nat.reduceLT,Nat.reduceLeDiff,Int.reduceNeg,BEq.rfl,beq_self_eq_true,tabl,cellsOf,fldA,ldA,stA,Ak,Ao,Am,over,Ag,Value.oneCell',idxA,nilA,Aa,Ap,Ah,pure1,pure2,reps,chkA,tys,Tryz.results8,evt,Av,Au,Al,e0,e9,e10,e11,d1,Bh,hV,d2]
   rw [if_pos h24]
  ·have d2:decide (((Dr l).length:Int) > 24)=false:=by simp; omega
   simp (maxSteps:=1000000) +contextual (disch:=first|with_reducible assumption|exact ⟨rfl⟩|exact ⟨rfl,rfl⟩|exact ⟨rfl,rfl,rfl⟩|(refine _root_.id ?_; kernel_rfl)|omega) only [evs,Ad,nth,put,putT,getT,Ai,Aj,Ab,aUn,outA,resA,mapO,Aq,Ar,w1,w2,w3,bots,cond_true,cond_false,if_true,if_false,ite_true,ite_false,reduceIte,reduceCtorEq,implies_true,Nat.reduceAdd,Nat.reduceSub,AV.int,AV.bool,AV.str,Nat.reduceBEq,Nat.reduceEqDiff,Nat.reduceMul,Nat.reduceLT,Nat.reduceLeDiff,Int.reduceNeg,BEq.rfl,beq_self_eq_true,tabl,cellsOf,fldA,ldA,stA,Ak,Ao,Am,over,Ag,Value.oneCell',idxA,nilA,Aa,Ap,Ah,pure1,pure2,reps,chkA,tys,Tryz.results8,evt,Av,Au,Al,e0,e9,e10,e11,d1,Bh,hV,d2]
   rw [if_neg h24]
set_option maxRecDepth 100000 in
theorem D9 (l:List RowT) (hl0:∀ r ∈ l,r.1.length≤1048576):cL Tryz.prog 7 [Bh l] S tk k=some (.int (sysE l),S,tk,k):=by
 refine A9 Tryz.func7 rfl rfl (by decide +kernel) (by decide +kernel) Tryz.ntmps7 rfl rfl _ _ _ rfl ?_; rw [Bs]
 by_cases h64:64<l.length
 ·have d0:decide ((l.length:Int) > 64)=true:=by simp; omega
  simp (maxSteps:=1000000) +contextual (disch:=first|with_reducible assumption|exact ⟨rfl⟩|exact ⟨rfl,rfl⟩|exact ⟨rfl,rfl,rfl⟩|(refine _root_.id ?_; kernel_rfl)|omega) only [evs,Ad,nth,put,putT,getT,Ai,Aj,Ab,aUn,outA,resA,mapO,Aq,Ar,w1,w2,w3,bots,cond_true,cond_false,if_true,if_false,ite_true,ite_false,reduceIte,reduceCtorEq,implies_true,Nat.reduceAdd,Nat.reduceSub,AV.int,AV.bool,AV.str,Nat.reduceBEq,Nat.reduceEqDiff,Nat.reduceMul,Nat.reduceLT,Nat.reduceLeDiff,Int.reduceNeg,BEq.rfl,beq_self_eq_true,tabl,cellsOf,fldA,ldA,stA,Ak,Ao,Am,over,Ag,Value.oneCell',idxA,nilA,Aa,Ap,Ah,pure1,pure2,reps,chkA,tys,Tryz.results7,evt,Av,Au,Al,Bh,d0]
  simp [sysE,h64]
 have d0:decide ((l.length:Int) > 64)=false:=by simp; omega
 simp (maxSteps:=1000000) +contextual (disch:=first|with_reducible assumption|exact ⟨rfl⟩|exact ⟨rfl,rfl⟩|exact ⟨rfl,rfl,rfl⟩|(refine _root_.id ?_; kernel_rfl)|omega) only [evs,Ad,nth,put,putT,getT,Ai,Aj,Ab,aUn,outA,resA,mapO,Aq,Ar,w1,w2,w3,bots,cond_true,cond_false,if_true,if_false,ite_true,ite_false,reduceIte,reduceCtorEq,implies_true,Nat.reduceAdd,Nat.reduceSub,AV.int,AV.bool,AV.str,Nat.reduceBEq,Nat.reduceEqDiff,Nat.reduceMul,Nat.reduceLT,Nat.reduceLeDiff,Int.reduceNeg,BEq.rfl,beq_self_eq_true,tabl,cellsOf,fldA,ldA,stA,Ak,Ao,Am,over,Ag,Value.oneCell',idxA,nilA,Aa,Ap,Ah,pure1,pure2,reps,chkA,tys,Tryz.results7,evt,Av,Au,Al,Bh,d0]
 refine loop1 (P:=Tryz.prog) (fun x st=>st.T.length=26∧(x≤l.length)∧(G9 l=G9 (l.drop x))∧getT st.T 0=Bh l∧getT st.T 9=Bh l∧getT st.T 10=.int l.length∧getT st.T 11=.int (x:Nat)∧st.S=[]) (fun x=>l.length - x) (fun x=>.int (sysE l)) (0) ?_ ?_
 case refine_2=>exact ⟨rfl,Nat.zero_le _,rfl,rfl,rfl,rfl,rfl,rfl⟩
 rintro i ⟨T,S',tk',n'⟩ ⟨hl,hi,hE,e0,e9,e10,e11,eS⟩ IH
 subst eS
 obtain ⟨g,hg,hT⟩:=Bp hl
 rw [hg] at e0 e9 e10 e11
 subst hT
 clear hg hl
 have hiw:=D7 (i:=i) (by omega)
 by_cases hlt:i<l.length
 ·have d1:decide ((i:Int)<(l.length:Int))=true:=by simpa using hlt
  obtain ⟨r,hx⟩:=A6 hlt
  have hx':=Ks hx
  have hC:=fun S tk k=>Mb S tk k r.1 r.2.1 (hl0 r (Qv hx))
  simp only [rowC,Bn] at hx'
  simp only [linA,Bn] at hC
  rw [Bw hx,G9] at hE
  generalize Eo r.1 r.2.1=e at *
  cases h0:(e != 0) with
  | true =>
   simp (maxSteps:=1000000) +contextual (disch:=first|with_reducible assumption|exact ⟨rfl⟩|exact ⟨rfl,rfl⟩|exact ⟨rfl,rfl,rfl⟩|(refine _root_.id ?_; kernel_rfl)|omega) only [evs,Ad,nth,put,putT,getT,Ai,Aj,Ab,aUn,outA,resA,mapO,Aq,Ar,w1,w2,w3,bots,cond_true,cond_false,if_true,if_false,ite_true,ite_false,reduceIte,reduceCtorEq,implies_true,Nat.reduceAdd,Nat.reduceSub,AV.int,AV.bool,AV.str,Nat.reduceBEq,Nat.reduceEqDiff,Nat.reduceMul,Nat.reduceLT,Nat.reduceLeDiff,Int.reduceNeg,BEq.rfl,beq_self_eq_true,tabl,cellsOf,fldA,ldA,stA,Ak,Ao,Am,over,Ag,Value.oneCell',idxA,nilA,Aa,Ap,Ah,pure1,pure2,reps,chkA,tys,Tryz.results7,evt,Av,Au,Al,e0,e9,e10,e11,d1,Bh,hx',hC,hiw,h0]
   rw [h0,if_pos rfl] at hE
   unfold sysE
   rw [if_neg h64,hE,if_pos h0]
  | false =>
   rw [h0,if_neg (by simp)] at hE
   simp (maxSteps:=1000000) +contextual (disch:=first|with_reducible assumption|exact ⟨rfl⟩|exact ⟨rfl,rfl⟩|exact ⟨rfl,rfl,rfl⟩|(refine _root_.id ?_; kernel_rfl)|omega) only [evs,Ad,nth,put,putT,getT,Ai,Aj,Ab,aUn,outA,resA,mapO,Aq,Ar,w1,w2,w3,bots,cond_true,cond_false,if_true,if_false,ite_true,ite_false,reduceIte,reduceCtorEq,implies_true,Nat.reduceAdd,Nat.reduceSub,AV.int,AV.bool,AV.str,Nat.reduceBEq,Nat.reduceEqDiff,Nat.reduceMul,Nat.reduceLT,Nat.reduceLeDiff,Int.reduceNeg,BEq.rfl,beq_self_eq_true,tabl,cellsOf,fldA,ldA,stA,Ak,Ao,Am,over,Ag,Value.oneCell',idxA,nilA,Aa,Ap,Ah,pure1,pure2,reps,chkA,tys,Tryz.results7,evt,Av,Au,Al,e0,e9,e10,e11,d1,Bh,hx',hC,hiw,h0]
   exact IH (i+1) _ (by first|omega|(simp only; omega)) ⟨rfl,by first|omega|(dsimp only; omega),hE,(by first|rfl|simp only [getT,List.map_append,List.map_cons,List.map_nil,strC,A8,and_self]),(by first|rfl|simp only [getT,List.map_append,List.map_cons,List.map_nil,strC,A8,and_self]),(by first|rfl|simp only [getT,List.map_append,List.map_cons,List.map_nil,strC,A8,and_self]),(by first|rfl|simp only [getT,List.map_append,List.map_cons,List.map_nil,strC,A8,and_self]),(by first|rfl|simp only [getT,List.map_append,List.map_cons,List.map_nil,strC,A8,and_self])⟩
 ·have d1:decide ((i:Int)<(l.length:Int))=false:=by simpa using hlt
  have hie:i=l.length:=by omega
  subst hie
  rw [List.drop_length] at hE
  have hE0:G9 l=0:=hE
  have hV:=fun S tk k=>Dn S tk k l (Ld hE0) (by omega)
  have hs:sysE l=if 24<(Dr l).length then 7 else 0:=by unfold sysE; rw [if_neg h64,hE0]; rfl
  rw [hs]
  simp only [Bh,A8] at hV
  by_cases h24:24<(Dr l).length
  ·have d2:decide (((Dr l).length:Int) > 24)=true:=by simp; omega
   simp (maxSteps:=1000000) +contextual (disch:=first|with_reducible assumption|exact ⟨rfl⟩|exact ⟨rfl,rfl⟩|exact ⟨rfl,rfl,rfl⟩|(refine _root_.id ?_; kernel_rfl)|omega) only [evs,Ad,nth,put,putT,getT,Ai,Aj,Ab,aUn,outA,resA,mapO,Aq,Ar,w1,w2,w3,bots,cond_true,cond_false,if_true,if_false,ite_true,ite_false,reduceIte,reduceCtorEq,implies_true,Nat.reduceAdd,Nat.reduceSub,AV.int,AV.bool,AV.str,Nat.reduceBEq,Nat.reduceEqDiff,Nat.reduceMul,Nat.reduceLT,Nat.reduceLeDiff,Int.reduceNeg,BEq.rfl,beq_self_eq_true,tabl,cellsOf,fldA,ldA,stA,Ak,Ao,Am,over,Ag,Value.oneCell',idxA,nilA,Aa,Ap,Ah,pure1,pure2,reps,chkA,tys,Tryz.results7,evt,Av,Au,Al,e0,e9,e10,e11,d1,Bh,hV,d2]
   rw [if_pos h24]
  ·have d2:decide (((Dr l).length:Int) > 24)=false:=by simp; omega
   simp (maxSteps:=1000000) +contextual (disch:=first|with_reducible assumption|exact ⟨rfl⟩|exact ⟨rfl,rfl⟩|exact ⟨rfl,rfl,rfl⟩|(refine _root_.id ?_; kernel_rfl)|omega) only [evs,Ad,nth,put,putT,getT,Ai,Aj,Ab,aUn,outA,resA,mapO,Aq,Ar,w1,w2,w3,bots,cond_true,cond_false,if_true,if_false,ite_true,ite_false,reduceIte,reduceCtorEq,implies_true,Nat.reduceAdd,Nat.reduceSub,AV.int,AV.bool,AV.str,Nat.reduceBEq,Nat.reduceEqDiff,Nat.reduceMul,Nat.reduceLT,Nat.reduceLeDiff,Int.reduceNeg,BEq.rfl,beq_self_eq_true,tabl,cellsOf,fldA,ldA,stA,Ak,Ao,Am,over,Ag,Value.oneCell',idxA,nilA,Aa,Ap,Ah,pure1,pure2,reps,chkA,tys,Tryz.results7,evt,Av,Au,Al,e0,e9,e10,e11,d1,Bh,hV,d2]
   rw [if_neg h24]
theorem Hp {l:List RowT} (h:sysE l=0):fewC l∧l.length≤64∧(Dr l).length≤24∧G9 l=0:=by
 unfold sysE at h
 split at h
 ·cases h
 ·split at h
  ·rename_i h1 h2; rw [h] at h2; cases h2
  ·rename_i h1 h2
   split at h
   ·cases h
   ·have h0:G9 l=0:=by simpa using h2
    exact ⟨Ld h0,by omega,by omega,h0⟩
theorem Abu (l:List RowT) (h:sysE l=0):cL Tryz.prog 11 [Bh l] S tk k=some (A8 (Dr l),S,tk,k):=by
 obtain ⟨h1,h2,-,-⟩:=Hp h
 have hC:=fun S tk k=>M1 S tk k l (fun r hr=>by have:=h1 r hr; omega)
 have hV:=fun S tk k=>T7 S tk k l h1 h2
 rw [h] at hC
 have d0:((0:Int) != 0)=false:=rfl
 simp only [Bh,A8] at hC hV
 refine A9 Tryz.func11 rfl rfl (by decide +kernel) (by decide +kernel) Tryz.ntmps11 rfl rfl _ _ _ rfl ?_; rw [Bs]
 simp (maxSteps:=1000000) +contextual (disch:=first|with_reducible assumption|exact ⟨rfl⟩|exact ⟨rfl,rfl⟩|exact ⟨rfl,rfl,rfl⟩|(refine _root_.id ?_; kernel_rfl)|omega) only [evs,Ad,nth,put,putT,getT,Ai,Aj,Ab,aUn,outA,resA,mapO,Aq,Ar,w1,w2,w3,bots,cond_true,cond_false,if_true,if_false,ite_true,ite_false,reduceIte,reduceCtorEq,implies_true,Nat.reduceAdd,Nat.reduceSub,AV.int,AV.bool,AV.str,Nat.reduceBEq,Nat.reduceEqDiff,Nat.reduceMul,Nat.reduceLT,Nat.reduceLeDiff,Int.reduceNeg,BEq.rfl,beq_self_eq_true,tabl,cellsOf,fldA,ldA,stA,Ak,Ao,Am,over,Ag,Value.oneCell',idxA,nilA,Aa,Ap,Ah,pure1,pure2,reps,chkA,tys,Tryz.results11,evt,Av,Au,Al,Bh,A8,hC,hV,d0]
theorem Mh (l:List RowT) (h:sysE l=0):cL Tryz.prog 10 [Bh l] S tk k=some (A8 (Dr l),S,tk,k):=by
 obtain ⟨h1,h2,-,-⟩:=Hp h
 have hC:=fun S tk k=>D9 S tk k l (fun r hr=>by have:=h1 r hr; omega)
 have hV:=fun S tk k=>Dn S tk k l h1 h2
 rw [h] at hC
 have d0:((0:Int) != 0)=false:=rfl
 simp only [Bh,A8] at hC hV
 refine A9 Tryz.func10 rfl rfl (by decide +kernel) (by decide +kernel) Tryz.ntmps10 rfl rfl _ _ _ rfl ?_; rw [Bs]
 simp (maxSteps:=1000000) +contextual (disch:=first|with_reducible assumption|exact ⟨rfl⟩|exact ⟨rfl,rfl⟩|exact ⟨rfl,rfl,rfl⟩|(refine _root_.id ?_; kernel_rfl)|omega) only [evs,Ad,nth,put,putT,getT,Ai,Aj,Ab,aUn,outA,resA,mapO,Aq,Ar,w1,w2,w3,bots,cond_true,cond_false,if_true,if_false,ite_true,ite_false,reduceIte,reduceCtorEq,implies_true,Nat.reduceAdd,Nat.reduceSub,AV.int,AV.bool,AV.str,Nat.reduceBEq,Nat.reduceEqDiff,Nat.reduceMul,Nat.reduceLT,Nat.reduceLeDiff,Int.reduceNeg,BEq.rfl,beq_self_eq_true,tabl,cellsOf,fldA,ldA,stA,Ak,Ao,Am,over,Ag,Value.oneCell',idxA,nilA,Aa,Ap,Ah,pure1,pure2,reps,chkA,tys,Tryz.results10,evt,Av,Au,Al,Bh,A8,hC,hV,d0]
end
end Go.Proofs.YtcjffhadclngmaaGreat
namespace Go.Proofs.YtcjffhadclngmaaGreat
open Go
def Mm (i:Nat):List ByteArray→ByteArray→Int
 | [],_=>-1
 | x :: l,s=>if sEq x s then i else Mm (i+1) l s
theorem Ac4 (a b:ByteArray):sEq a b=sEq b a:=by
 unfold sEq; rw [Bool.eq_iff_iff,beq_iff_eq,beq_iff_eq]; exact ⟨Eq.symm,Eq.symm⟩
section
variable (S:List Ent) (tk:List Nat) (k:Nat)
theorem Rq (l:List ByteArray) (s:ByteArray) (hlen:l.length≤1000000):cL Tryz.prog 134 [.frz (l.map strC) .unk,.str s] S tk k=some (.int (Mm 0 l s),S,tk,k):=by
 refine A9 Tryz.func134 rfl rfl (by decide +kernel) (by decide +kernel) Tryz.ntmps134 rfl rfl _ _ _ (rfl) ?_; rw [Bs]
 simp (maxSteps:=1000000) +contextual (disch:=first|with_reducible assumption|exact ⟨rfl⟩|exact ⟨rfl,rfl⟩|exact ⟨rfl,rfl,rfl⟩|(refine _root_.id ?_; kernel_rfl)|omega) only [evs,Ad,nth,put,putT,getT,Ai,Aj,Ab,aUn,outA,resA,mapO,Aq,Ar,w1,w2,w3,bots,cond_true,cond_false,if_true,if_false,ite_true,ite_false,reduceIte,reduceCtorEq,implies_true,Nat.reduceAdd,Nat.reduceSub,AV.int,AV.bool,AV.str,Nat.reduceBEq,Nat.reduceEqDiff,Nat.reduceMul,Nat.reduceLT,Nat.reduceLeDiff,Int.reduceNeg,BEq.rfl,beq_self_eq_true,tabl,cellsOf,fldA,ldA,stA,Ak,Ao,Am,over,Ag,Value.oneCell',idxA,nilA,Aa,Ap,Ah,pure1,pure2,reps,chkA,tys,Tryz.results134,evt,Av,Au,Al]
 refine loop1 (P:=Tryz.prog) (fun x st=>st.T.length=19∧(x≤l.length)∧(Mm 0 l s=Mm x (l.drop x) s)∧getT st.T 0=.frz (l.map strC) .unk∧getT st.T 1=.str s∧getT st.T 7=.int (l.length:Nat)∧getT st.T 8=.int (x:Nat)∧st.S=[]) (fun x=>l.length - x) (fun x=>.int (Mm 0 l s)) (0) ?_ ?_
 case refine_2=>exact ⟨rfl,Nat.zero_le _,rfl,rfl,rfl,rfl,rfl,rfl⟩
 rintro i ⟨T,S',tk',n'⟩ ⟨hl,hi,hA,e0,e1,e7,e8,eS⟩ IH
 subst eS
 obtain ⟨g,hg,hT⟩:=Bp hl
 rw [hg] at e0 e1 e7 e8
 subst hT
 clear hg hl
 by_cases la:i<l.length
 ·have d1:decide ((i:Int)<(l.length:Int))=true:=by simpa using la
  obtain ⟨x,hx⟩:=A6 la
  have hx':nth (l.map strC) i=some (strC x):=by rw [E2,hx]; rfl
  have hw:IntKind.i64.wrap ((i:Int)+1)=((i+1:Nat):Int):=by rw [A0 (by unfold i64; omega)]; rfl
  rw [Bw hx] at hA
  simp only [Mm] at hA
  have hcm:=Ac4 s x
  cases hq:sEq x s <;> rw [hq] at hA hcm
  ·simp (maxSteps:=1000000) +contextual (disch:=first|with_reducible assumption|exact ⟨rfl⟩|exact ⟨rfl,rfl⟩|exact ⟨rfl,rfl,rfl⟩|(refine _root_.id ?_; kernel_rfl)|omega) only [evs,Ad,nth,put,putT,getT,Ai,Aj,Ab,aUn,outA,resA,mapO,Aq,Ar,w1,w2,w3,bots,cond_true,cond_false,if_true,if_false,ite_true,ite_false,reduceIte,reduceCtorEq,implies_true,Nat.reduceAdd,Nat.reduceSub,AV.int,AV.bool,AV.str,Nat.reduceBEq,Nat.reduceEqDiff,Nat.reduceMul,Nat.reduceLT,Nat.reduceLeDiff,Int.reduceNeg,BEq.rfl,beq_self_eq_true,tabl,cellsOf,fldA,ldA,stA,Ak,Ao,Am,over,Ag,Value.oneCell',idxA,nilA,Aa,Ap,Ah,pure1,pure2,reps,chkA,tys,Tryz.results134,evt,Av,Au,Al,e0,e1,e7,e8,d1,hx',hw,strC,hq,hcm]
   exact IH (i+1) _ (by first|omega|(simp only; omega)) ⟨rfl,by first|omega|(dsimp only; omega),by simpa using hA,rfl,rfl,rfl,rfl,rfl⟩
  ·simp (maxSteps:=1000000) +contextual (disch:=first|with_reducible assumption|exact ⟨rfl⟩|exact ⟨rfl,rfl⟩|exact ⟨rfl,rfl,rfl⟩|(refine _root_.id ?_; kernel_rfl)|omega) only [evs,Ad,nth,put,putT,getT,Ai,Aj,Ab,aUn,outA,resA,mapO,Aq,Ar,w1,w2,w3,bots,cond_true,cond_false,if_true,if_false,ite_true,ite_false,reduceIte,reduceCtorEq,implies_true,Nat.reduceAdd,Nat.reduceSub,AV.int,AV.bool,AV.str,Nat.reduceBEq,Nat.reduceEqDiff,Nat.reduceMul,Nat.reduceLT,Nat.reduceLeDiff,Int.reduceNeg,BEq.rfl,beq_self_eq_true,tabl,cellsOf,fldA,ldA,stA,Ak,Ao,Am,over,Ag,Value.oneCell',idxA,nilA,Aa,Ap,Ah,pure1,pure2,reps,chkA,tys,Tryz.results134,evt,Av,Au,Al,e0,e1,e7,e8,d1,hx',hw,strC,hq,hcm]
   simpa using hA.symm
 ·have d1:decide ((i:Int)<(l.length:Int))=false:=by simpa using la
  have he:i=l.length:=by omega
  simp (maxSteps:=1000000) +contextual (disch:=first|with_reducible assumption|exact ⟨rfl⟩|exact ⟨rfl,rfl⟩|exact ⟨rfl,rfl,rfl⟩|(refine _root_.id ?_; kernel_rfl)|omega) only [evs,Ad,nth,put,putT,getT,Ai,Aj,Ab,aUn,outA,resA,mapO,Aq,Ar,w1,w2,w3,bots,cond_true,cond_false,if_true,if_false,ite_true,ite_false,reduceIte,reduceCtorEq,implies_true,Nat.reduceAdd,Nat.reduceSub,AV.int,AV.bool,AV.str,Nat.reduceBEq,Nat.reduceEqDiff,Nat.reduceMul,Nat.reduceLT,Nat.reduceLeDiff,Int.reduceNeg,BEq.rfl,beq_self_eq_true,tabl,cellsOf,fldA,ldA,stA,Ak,Ao,Am,over,Ag,Value.oneCell',idxA,nilA,Aa,Ap,Ah,pure1,pure2,reps,chkA,tys,Tryz.results134,evt,Av,Au,Al,e0,e1,e7,e8,d1]
  rw [hA,he,List.drop_length]; rfl
theorem Px (l:List ByteArray) (s:ByteArray) (hlen:l.length≤1000000):cL Tryz.prog 107 [.frz (l.map strC) .unk,.str s] S tk k=some (.int (Mm 0 l s),S,tk,k):=by
 have h:=fun S tk k=>Rq S tk k l s hlen
 refine A9 Tryz.func107 rfl rfl (by decide +kernel) (by decide +kernel) Tryz.ntmps107 rfl rfl _ _ _ (rfl) ?_; rw [Bs]
 simp (maxSteps:=1000000) +contextual (disch:=first|with_reducible assumption|exact ⟨rfl⟩|exact ⟨rfl,rfl⟩|exact ⟨rfl,rfl,rfl⟩|(refine _root_.id ?_; kernel_rfl)|omega) only [evs,Ad,nth,put,putT,getT,Ai,Aj,Ab,aUn,outA,resA,mapO,Aq,Ar,w1,w2,w3,bots,cond_true,cond_false,if_true,if_false,ite_true,ite_false,reduceIte,reduceCtorEq,implies_true,Nat.reduceAdd,Nat.reduceSub,AV.int,AV.bool,AV.str,Nat.reduceBEq,Nat.reduceEqDiff,Nat.reduceMul,Nat.reduceLT,Nat.reduceLeDiff,Int.reduceNeg,BEq.rfl,beq_self_eq_true,tabl,cellsOf,fldA,ldA,stA,Ak,Ao,Am,over,Ag,Value.oneCell',idxA,nilA,Aa,Ap,Ah,pure1,pure2,reps,chkA,tys,Tryz.results107,evt,Av,Au,Al,h]
end
theorem R7:∀ {l:List ByteArray} {s:ByteArray} {i:Nat},s ∈ l→∃ j,j<l.length∧Mm i l s=((i+j:Nat):Int)∧nth l j=some s
 | [],_,_,h=>by simp at h
 | x :: l,s,i,h=>by
  by_cases hx:sEq x s=true
  ·refine ⟨0,by simp,?_,?_⟩
   ·unfold Mm; rw [if_pos hx]; rfl
   ·have:x=s:=by rw [P8] at hx; simpa using hx
    rw [this]; rfl
  ·rcases List.mem_cons.1 h with rfl|h
   ·exact absurd (by rw [P8]; simp) hx
   ·obtain ⟨j,h1,h2,h3⟩:=R7 (i:=i+1) h
    refine ⟨j+1,by simpa using h1,?_,h3⟩
    unfold Mm; rw [if_neg hx,h2]; congr 1; omega
def idxV (vars:List ByteArray) (s:ByteArray):Nat:=(Mm 0 vars s).toNat
theorem Wt {l:List ByteArray} {s:ByteArray} (h:s ∈ l):Mm 0 l s=((idxV l s:Nat):Int)∧idxV l s<l.length:=by
 obtain ⟨j,h1,h2,h3⟩:=R7 (i:=0) h
 unfold idxV
 rw [h2]
 exact ⟨by omega,by omega⟩
def setC (F:Fld) (u z:Q) (ix:Nat) (row:List Q) (n:Int):List Q × Bool :=
 (put (put row (2*ix) (F.times u (F.whole n).1).1) (2*ix+1) (F.minus z (F.times u (F.whole n).1).1).1,((F.whole n).2 || (F.times u (F.whole n).1).2) || (F.minus z (F.times u (F.whole n).1).1).2)
def Me (F:Fld) (u z:Q) (vars:List ByteArray):List (ByteArray × Int)→List Q→List Q × Bool
 | [],row=>(row,false)
 | c :: cs,row=>((Me F u z vars cs (setC F u z (idxV vars c.1) row c.2).1).1,(setC F u z (idxV vars c.1) row c.2).2 || (Me F u z vars cs (setC F u z (idxV vars c.1) row c.2).1).2)
def Rl (F:Fld) (real W k:Nat) (c r:Q):Q × Bool:=if k<real∨k=W - 1 then F.minus c r else (c,false)
def Jc (F:Fld) (real W:Nat):Nat→List Q→List Q→List Q × Bool
 | k,c :: cs,r :: rs=>((Rl F real W k c r).1 :: (Jc F real W (k+1) cs rs).1,(Rl F real W k c r).2 || (Jc F real W (k+1) cs rs).2)
 | _,cs,_=>(cs,false)
def Adf (F:Fld) (flip:Bool):Q × Bool:=if flip=true then ((F.whole (-1)).1,(F.whole 1).2 || (F.whole (-1)).2) else F.whole 1
def Y5 (F:Fld) (u z:Q) (n:Int):Q × Bool:=((F.minus z (F.times u (F.whole n).1).1).1,((F.whole n).2 || (F.times u (F.whole n).1).2) || (F.minus z (F.times u (F.whole n).1).1).2)
def Aa2 (eq:Bool) (row:List Q) (slack:Nat) (u:Q):List Q:=if eq=true then row else put row slack u
def Ki (r:RowT):Bool:=decide (0<r.2.1)
def rowF (F:Fld) (z:Q) (vars:List ByteArray) (real W i slack:Nat) (r:RowT):List Q × Bool :=
 let u:=Adf F (Ki r)
 let a:=Me F u.1 z vars r.1 (List.replicate W z)
 let y:=Y5 F u.1 z r.2.1
 (put (put (Aa2 r.2.2 a.1 slack u.1) (real+i) (F.whole 1).1) (W - 1) y.1,((u.2 || a.2) || (F.whole 1).2) || y.2)
def begS (F:Fld) (z:Q) (vars:List ByteArray) (real W:Nat):List RowT→Nat→Nat→Tb→Tb
 | [],_,_,t=>t
 | r :: l,i,slack,t =>
  let a:=rowF F z vars real W i slack r
  let c:=Jc F real W 0 t.cost a.1
  begS F z vars real W l (i+1) (if r.2.2=true then slack else slack+1) { t with rows:=t.rows++[a.1],cost:=c.1,basis:=t.basis++[real+i],flip:=t.flip++[Ki r],fl:=(t.fl || a.2) || c.2 }
def neqs:List RowT→Nat
 | []=>0
 | r :: l=>(if r.2.2=true then 0 else 1)+neqs l
def Gv (F:Fld) (l:List RowT) (vars:List ByteArray) (fl:Bool):Tb :=
 let z:=F.whole 0
 let real:=2*vars.length+neqs l
 let W:=real+l.length+1
 begS F z.1 vars real W l 0 (2*vars.length) { vars:=vars.length,real:=real,rows:=[],cost:=List.replicate W z.1,basis:=[],flip:=[],fl:=fl || z.2 }
end Go.Proofs.YtcjffhadclngmaaGreat
namespace Go.Proofs.YtcjffhadclngmaaGreat
open Go
def Lm:Code→Nat
 | .seq a _=>Lm a
 | .region id _ _=>id
 | .block _ c=>Lm c
 | .loop c=>Lm c
 | .scope c=>Lm c
 | _=>0
def Jy (n:Nat):Code→List Nat→List Kont→Option (Code × List Kont)
 | .seq a b,lv,k=>match Jy n a lv (.seq b :: k) with|some r=>some r|none=>Jy n b lv k
 | .block id c,lv,k=>Jy n c lv (.block id :: k)
 | .scope c,lv,k=>Jy n c lv k
 | .cond _ a b,lv,k=>match Jy n a lv k with|some r=>some r|none=>Jy n b lv k
 | .loop c,lv,k=>if (Lm c == n)=true then some (.loop c,k) else match lv with
  | x :: lv=>Jy n c lv (.loop c x :: k)
  | []=>none
 | _,_,_=>none
def Aab (fn:Func) (n:Nat) (lv:List Nat):Option (Code × List Kont):=match fn.body with|some c=>Jy n c lv []|none=>none
section
variable [Globs] {P:Program} [Ext P] {fn:Func}
noncomputable def KA (P:Program) [Ext P] (fn:Func) (n:Nat) (lv:List Nat) (st:St):Option (AV × St):=match Aab fn n lv with|some (c,k)=>RK P fn c st k|none=>none
theorem Afe {n:Nat} {lv:List Nat} {c:Code} {k:List Kont} (h:Aab fn n lv=some (c,k)) {st:St} {fin:Option (AV × St)→Option Rs} {Φ:Rs→Prop} {t:Tag (c,k)} (hg:Gd fin Φ (KX P fn c st k t)):Gd fin Φ (KA P fn n lv st):=by unfold KA; rw [h]; exact hg
theorem X0 {n:Nat} {lv:List Nat} {c:Code} {k:List Kont} (h:Aab fn n lv=some (c,k)) {st:St} {fin:Option (AV × St)→Option Rs} {Φ:Rs→Prop} {t:Tag (c,k)} (hg:Gd fin Φ (KA P fn n lv st)):Gd fin Φ (KX P fn c st k t):=by unfold KA at hg; rw [h] at hg; exact hg
end
end Go.Proofs.YtcjffhadclngmaaGreat
namespace Go.Proofs.YtcjffhadclngmaaGreat
open Go
theorem Rf:∀ l:List RowT,neqs l≤l.length
 | []=>Nat.le_refl _
 | r :: l=>by
  have:=Rf l
  unfold neqs
  split <;> simp only [List.length_cons] <;> omega
theorem T3 {l:List RowT} {q:Nat} {r:RowT} (h:nth l q=some r):neqs (l.drop q)=(if r.2.2=true then 0 else 1)+neqs (l.drop (q+1)):=by
 rw [Bw h]; rfl
section
variable {P:Program} {t:TypeId} {x:AV} {S:List Ent} {n:Nat}
theorem V1 {a b c d e:Nat} : lit1 1 1 [(0,.sref a b c d e)]=some (.lit 1 [.sref a b c d e]):=rfl
theorem Afl (h:apT P t=some 1) (hx:Ag x=true):apO P t (.frz [] .nilc) (.lit 1 [x]) S n=some (.sref S.length n 0 1 1,S++[⟨n,[x]⟩],n+1):=by
 have hl:litC 1 (.lit 1 [x])=some (1,[x]):=by simp [litC,hx]
 unfold apO
 rw [h]; simp only [hl]
 rw [if_pos ⟨by omega,by simp [roomy]⟩]
 rfl
theorem Aea {c:Cap} (h:apT P t=some 1) (hx:Ag x=true):apO P t (.frz [] .nilc) (.frz [[x]] c) S n=some (.sref S.length n 0 1 1,S++[⟨n,[x]⟩],n+1):=by
 have hl:litC 1 (.frz [[x]] c)=some (1,[x]):=by simp [litC,hx,D2]
 unfold apO
 rw [h]; simp only [hl]
 rw [if_pos ⟨by omega,by simp [roomy]⟩]
 rfl
theorem Acn {id ep len:Nat} {cs:List AV} (h:apT P t=some 1) (hx:Ag x=true) (hE:Ak S id ep=some cs) (hc:cs.length=len) (h0:0<len) (h1:len+1≤1048576):apO P t (.sref id ep 0 len 1) (.lit 1 [x]) S n=some (.sref id n 0 (len+1) 1,put S id ⟨n,cs++[x]⟩,n+1):=by
 have hl:litC 1 (.lit 1 [x])=some (1,[x]):=by simp [litC,hx]
 unfold apO
 rw [h]; simp only [hl]
 rw [if_pos ⟨by omega,by simp [roomy]⟩]
 simp only [apO2,hE]
 rw [if_pos ⟨trivial,h0⟩]
 rw [if_pos ⟨by omega,by simpa [roomy] using h1⟩]
theorem Acw {id ep len:Nat} {cs:List AV} {c:Cap} (h:apT P t=some 1) (hx:Ag x=true) (hE:Ak S id ep=some cs) (hc:cs.length=len) (h0:0<len) (h1:len+1≤1048576):apO P t (.sref id ep 0 len 1) (.frz [[x]] c) S n=some (.sref id n 0 (len+1) 1,put S id ⟨n,cs++[x]⟩,n+1):=by
 have hl:litC 1 (.frz [[x]] c)=some (1,[x]):=by simp [litC,hx,D2]
 unfold apO
 rw [h]; simp only [hl]
 rw [if_pos ⟨by omega,by simp [roomy]⟩]
 simp only [apO2,hE]
 rw [if_pos ⟨trivial,h0⟩]
 rw [if_pos ⟨by omega,by simpa [roomy] using h1⟩]
end
structure BegC (S:List Ent) (l:List RowT) (vars:List ByteArray) (iq c W:Nat):Prop where
 hl:l.length≤1000
 hv0:vars.length≤1000
 hv:∀ r ∈ l,∀ c ∈ r.1,c.1 ∈ vars
 hc:∀ r ∈ l,i64 r.2.1∧∀ c ∈ r.1,i64 c.2
 hfew:fewC l
 hiq:iq<S.length
 hcr:c=2*vars.length+neqs l
 hWe:W=c+l.length+1
end Go.Proofs.YtcjffhadclngmaaGreat
namespace Go.Proofs.YtcjffhadclngmaaGreat
open Go
theorem Aen {P:Program} {all:List Oper} {d:Option Tmp} {T:List AV} {S S':List Ent} (hL:loadsB all d=[]) (h2:S.length≤S'.length):reA P all d T S S'=some ():=Aby hL h2 (fun q h=>by simp at h)
def lcC (F:Fld) (z:Q) (ix:Nat) (cost:List Q) (n:Int):List Q × Bool :=
 (put (put cost (2*ix) (F.whole n).1) (2*ix+1) (F.minus z (F.whole n).1).1,(F.whole n).2 || (F.minus z (F.whole n).1).2)
def lcsC (F:Fld) (z:Q) (vars:List ByteArray):List (ByteArray × Int)→List Q→List Q × Bool
 | [],cost=>(cost,false)
 | c :: cs,cost=>((lcsC F z vars cs (lcC F z (idxV vars c.1) cost c.2).1).1,(lcC F z (idxV vars c.1) cost c.2).2 || (lcsC F z vars cs (lcC F z (idxV vars c.1) cost c.2).1).2)
def K7 (F:Fld):List Nat→List (List Q)→List Q→List Q × Bool
 | b :: bs,r :: rs,cost=>((K7 F bs rs (Gz F cost r b).1).1,(Gz F cost r b).2 || (K7 F bs rs (Gz F cost r b).1).2)
 | _,_,cost=>(cost,false)
def Te (F:Fld) (t:Tb) (a:List (ByteArray × Int)) (vars:List ByteArray):Tb :=
 let t1:=E3 F t.rows.length 0 t
 let c1:=lcsC F (F.whole 0).1 vars a (List.replicate t1.cost.length (F.whole 0).1)
 let c2:=K7 F t1.basis t1.rows c1.1
 { t1 with cost:=c2.1,fl:=((t1.fl || (F.whole 0).2) || c1.2) || c2.2 }
def Mc (F:Fld) (t:Tb) (n:Int):Q × Bool :=
 ((F.minus (F.whole n).1 (at_ q0 t.cost (t.cost.length - 1))).1,(F.whole n).2 || (F.minus (F.whole n).1 (at_ q0 t.cost (t.cost.length - 1))).2)
end Go.Proofs.YtcjffhadclngmaaGreat
namespace Go.Proofs.YtcjffhadclngmaaGreat
open Go
def Jo (t t':Tb):Prop:=t'.real=t.real∧t'.vars=t.vars∧t'.cost.length=t.cost.length∧t'.rows.length=t.rows.length
theorem Jo.refl (t:Tb):Jo t t:=⟨rfl,rfl,rfl,rfl⟩
theorem Jo.trans {a b c:Tb} (h:Jo a b) (h':Jo b c):Jo a c:=⟨h'.1.trans h.1,h'.2.1.trans h.2.1,h'.2.2.1.trans h.2.2.1,h'.2.2.2.trans h.2.2.2⟩
theorem Ab9 {F:Fld} {l m:List Q} {c:Nat} : (Gz F l m c).1.length=l.length:=by
 unfold Gz
 split
 ·split
  ·rfl
  ·exact Nc
 ·rfl
theorem Ng {F:Fld} {row:List Q} {c i:Nat} : ∀ {l:List (List Q)} {k:Nat},(D6 F row c i k l).1.length=l.length
 | [],_=>rfl
 | r :: l,k=>by simp only [D6,List.length_cons,Ng]
theorem Aah {F:Fld} {t:Tb} {i c:Nat} : Jo t (Hk F t i c):=⟨rfl,rfl,Ab9,by simp only [Hk,Ng,Bm]⟩
theorem Qy {F:Fld} : ∀ {K:Nat} {t t':Tb} {b:Bool},Ku F K t=some (b,t')→Jo t t'
 | 0,_,_,_,h=>by simp [Ku] at h
 | K+1,t,t',b,h=>by
  unfold Ku at h
  split at h
  ·simp only [Option.some.injEq,Prod.mk.injEq] at h; obtain ⟨-,rfl⟩:=h; exact Jo.refl _
  ·split at h
   ·simp only [Option.some.injEq,Prod.mk.injEq] at h; obtain ⟨-,rfl⟩:=h; exact Jo.refl _
   ·split at h
    ·simp only [Option.some.injEq,Prod.mk.injEq] at h; obtain ⟨-,rfl⟩:=h; exact ⟨rfl,rfl,rfl,rfl⟩
    ·have h2:=Qy h
     have h3:∀ (u:Tb) (i c:Nat),Jo u (Hk F u i c):=fun u i c=>Aah
     have h4:=(h3 _ _ _).trans h2
     exact ⟨h4.1,h4.2.1,h4.2.2.1,h4.2.2.2⟩
theorem We {F:Fld} {real W:Nat} : ∀ {c r:List Q} {k:Nat},(Jc F real W k c r).1.length=c.length
 | [],_,_=>by simp [Jc]
 | a :: c,[],_=>rfl
 | a :: c,b :: r,k=>by simp only [Jc,List.length_cons,We]
theorem Aaf {F:Fld} {z:Q} {vars:List ByteArray} {real W:Nat} : ∀ {l:List RowT} {i sl:Nat} {t:Tb},(begS F z vars real W l i sl t).real=t.real∧(begS F z vars real W l i sl t).vars=t.vars∧(begS F z vars real W l i sl t).cost.length=t.cost.length∧(begS F z vars real W l i sl t).rows.length=t.rows.length+l.length
 | [],_,_,_=>⟨rfl,rfl,rfl,rfl⟩
 | r :: l,i,sl,t=>by
  unfold begS
  simp only
  have h:=Aaf (F:=F) (z:=z) (vars:=vars) (real:=real) (W:=W) (l:=l) (i:=i+1) (sl:=if r.2.2=true then sl else sl+1) (t:={ t with rows:=t.rows++[(rowF F z vars real W i sl r).1],cost:=(Jc F real W 0 t.cost (rowF F z vars real W i sl r).1).1,basis:=t.basis++[real+i],flip:=t.flip++[Ki r],fl:=(t.fl || (rowF F z vars real W i sl r).2) || (Jc F real W 0 t.cost (rowF F z vars real W i sl r).1).2 })
  simp only [We,List.length_append,List.length_cons,List.length_nil] at h ⊢
  exact ⟨h.1,h.2.1,h.2.2.1,by omega⟩
theorem Uc {F:Fld} {l:List RowT} {vars:List ByteArray} {fl:Bool} : (Gv F l vars fl).real=2*vars.length+neqs l∧(Gv F l vars fl).vars=vars.length∧(Gv F l vars fl).cost.length=2*vars.length+neqs l+l.length+1∧(Gv F l vars fl).rows.length=l.length:=by
 unfold Gv
 have h:=Aaf (F:=F) (z:=(F.whole 0).1) (vars:=vars) (real:=2*vars.length+neqs l) (W:=2*vars.length+neqs l+l.length+1) (l:=l) (i:=0) (sl:=2*vars.length) (t:={ vars:=vars.length,real:=2*vars.length+neqs l,rows:=[],cost:=List.replicate (2*vars.length+neqs l+l.length+1) (F.whole 0).1,basis:=[],flip:=[],fl:=fl || (F.whole 0).2 })
 simp only [List.length_replicate,List.length_nil,Nat.zero_add] at h ⊢
 exact h
def lsC:Option Q→List AV
 | none=>[.prim (.bool false),.frz [] .nilc,.prim (.bool false),.frz [] .nilc]
 | some q=>ceW q
def ansC (f:Bool) (pt nu:List Q) (c1 c2:Cap) (least:Option Q) (bd:Bool):List AV:=[.prim (.bool f),.frz (pt.map ceW) c1,.frz (nu.map ceW) c2]++lsC least++[.prim (.bool bd)]
def ans0:List AV:=[.prim (.bool false),.frz [] .nilc,.frz [] .nilc,.prim (.bool false),.frz [] .nilc,.prim (.bool false),.frz [] .nilc,.prim (.bool false)]
structure Ans where
 f:Bool
 pt:List Q
 nu:List Q
 least:Option (Q × Bool)
def L9 (F:Fld) (K:Nat) (l:List RowT) (vars:List ByteArray) (fl:Bool):Option (Ans × Bool) :=
 match Ku F K (Gv F l vars fl) with
 | none=>none
 | some (_,t)=>if (F.stop && t.fl)=true then some (⟨false,[],[],none⟩,false) else
  if Vq t=true then some (⟨true,(Eb F t).1.map F.rat,[],none⟩,!(F.stop && (t.fl || (Eb F t).2)))
  else some (⟨false,[],(Kg F t).1.map F.rat,none⟩,!(F.stop && (t.fl || (Kg F t).2)))
def N6 (F:Fld) (K:Nat) (l:List RowT) (vars:List ByteArray) (fl:Bool) (cs:List (ByteArray × Int)) (n:Int):Option (Ans × Bool) :=
 match Ku F K (Gv F l vars fl) with
 | none=>none
 | some (_,t)=>if (F.stop && t.fl)=true then some (⟨false,[],[],none⟩,false) else
  if Vq t=true then
   match Ku F K (Te F { t with fl:=t.fl || (Eb F t).2 } cs vars) with
   | none=>none
   | some (true,u)=>some (⟨true,(Eb F t).1.map F.rat,[],some (F.rat (Mc F u n).1,true)⟩,!(F.stop && (u.fl || (Mc F u n).2)))
   | some (false,u)=>some (⟨true,(Eb F t).1.map F.rat,[],some ((0,1),false)⟩,!(F.stop && u.fl))
  else some (⟨false,[],(Kg F t).1.map F.rat,none⟩,!(F.stop && (t.fl || (Kg F t).2)))
end Go.Proofs.YtcjffhadclngmaaGreat
namespace Go.Proofs.YtcjffhadclngmaaGreat
open Go
theorem Qt {l:List RowT} : ∀ r ∈ l,∀ c ∈ r.1,c.1 ∈ Dr l:=fun r hr c hc=>by
 refine ((K8 (B9 l)).2.1 c.1).2 ?_
 unfold B9
 refine List.mem_flatten.2 ⟨r.1.map (·.1),List.mem_map.2 ⟨r,hr,rfl⟩,List.mem_map.2 ⟨c,hc,rfl⟩⟩
def Vd (l:List RowT) (a:Ans):Prop:=∀ S tk k,cL Tryz.prog 31 [Bh l,A8 (Dr l),.prim (.pointer none)] S tk k=some (.agg (ansC a.f a.pt a.nu .unk .unk (some (0,0)) false),S,tk,k)
section
variable (S:List Ent) (tk:List Nat) (k:Nat)
theorem H2 (l:List RowT) (hl0:∀ r ∈ l,r.1.length≤1048576) (a:Ans) (hA:sysE l=0→Vd l a) :
  cL Tryz.prog 13 [Bh l] S tk k=some (.tup [.bool (if sysE l=0 then a.f else false),.int (sysE l)],S,tk,k):=by
 have hC:=fun S tk k=>D9 S tk k l hl0
 by_cases h0:sysE l=0
 ·obtain ⟨h1,h2,h3,-⟩:=Hp h0
  have hV:=fun S tk k=>Dn S tk k l h1 h2
  have hA:=hA h0
  unfold Vd at hA
  have c1:(sysE l != 0)=false:=by simpa using h0
  simp only [ansC,lsC,ceW,Bh,A8,List.cons_append,List.nil_append] at hA
  simp only [Bh,A8] at hC hV
  refine A9 Tryz.func13 rfl rfl (by decide +kernel) (by decide +kernel) Tryz.ntmps13 rfl rfl _ _ _ (rfl) ?_; rw [Bs]
  simp (maxSteps:=1000000) +contextual (disch:=first|with_reducible assumption|exact ⟨rfl⟩|exact ⟨rfl,rfl⟩|exact ⟨rfl,rfl,rfl⟩|(refine _root_.id ?_; kernel_rfl)|omega) only [evs,Ad,nth,put,putT,getT,Ai,Aj,Ab,aUn,outA,resA,mapO,Aq,Ar,w1,w2,w3,bots,cond_true,cond_false,if_true,if_false,ite_true,ite_false,reduceIte,reduceCtorEq,implies_true,Nat.reduceAdd,Nat.reduceSub,AV.int,AV.bool,AV.str,Nat.reduceBEq,Nat.reduceEqDiff,Nat.reduceMul,Nat.reduceLT,Nat.reduceLeDiff,Int.reduceNeg,BEq.rfl,beq_self_eq_true,tabl,cellsOf,fldA,ldA,stA,Ak,Ao,Am,over,Ag,Value.oneCell',idxA,nilA,Aa,Ap,Ah,pure1,pure2,reps,chkA,tys,Tryz.results13,evt,Av,Au,Al,Bh,A8,hC,hV,hA,c1,h0]
  intro h; exact absurd h (by decide)
 ·simp only [Bh] at hC
  have c1:(sysE l != 0)=true:=by simpa using h0
  refine A9 Tryz.func13 rfl rfl (by decide +kernel) (by decide +kernel) Tryz.ntmps13 rfl rfl _ _ _ (rfl) ?_; rw [Bs]
  simp (maxSteps:=1000000) +contextual (disch:=first|with_reducible assumption|exact ⟨rfl⟩|exact ⟨rfl,rfl⟩|exact ⟨rfl,rfl,rfl⟩|(refine _root_.id ?_; kernel_rfl)|omega) only [evs,Ad,nth,put,putT,getT,Ai,Aj,Ab,aUn,outA,resA,mapO,Aq,Ar,w1,w2,w3,bots,cond_true,cond_false,if_true,if_false,ite_true,ite_false,reduceIte,reduceCtorEq,implies_true,Nat.reduceAdd,Nat.reduceSub,AV.int,AV.bool,AV.str,Nat.reduceBEq,Nat.reduceEqDiff,Nat.reduceMul,Nat.reduceLT,Nat.reduceLeDiff,Int.reduceNeg,BEq.rfl,beq_self_eq_true,tabl,cellsOf,fldA,ldA,stA,Ak,Ao,Am,over,Ag,Value.oneCell',idxA,nilA,Aa,Ap,Ah,pure1,pure2,reps,chkA,tys,Tryz.results13,evt,Av,Au,Al,Bh,hC,c1,h0]
theorem Pb (l:List RowT) (hl0:∀ r ∈ l,r.1.length≤1048576) (a:Ans) (h0:sysE l=0) (hA:Vd l a) :
  cL Tryz.prog 22 [Bh l] S tk k=some (.tup [.frz (a.pt.map ceW) .unk,.bool a.f],S,tk,k):=by
 have hC:=fun S tk k=>D9 S tk k l hl0
 obtain ⟨h1,h2,h3,-⟩:=Hp h0
 have hV:=fun S tk k=>Dn S tk k l h1 h2
 have c1:(sysE l != 0)=false:=by simpa using h0
 unfold Vd at hA
 simp only [ansC,lsC,ceW,Bh,A8,List.cons_append,List.nil_append] at hA
 simp only [Bh,A8] at hC hV
 refine A9 Tryz.func22 rfl rfl (by decide +kernel) (by decide +kernel) Tryz.ntmps22 rfl rfl _ _ _ (rfl) ?_; rw [Bs]
 simp (maxSteps:=1000000) +contextual (disch:=first|with_reducible assumption|exact ⟨rfl⟩|exact ⟨rfl,rfl⟩|exact ⟨rfl,rfl,rfl⟩|(refine _root_.id ?_; kernel_rfl)|omega) only [evs,Ad,nth,put,putT,getT,Ai,Aj,Ab,aUn,outA,resA,mapO,Aq,Ar,w1,w2,w3,bots,cond_true,cond_false,if_true,if_false,ite_true,ite_false,reduceIte,reduceCtorEq,implies_true,Nat.reduceAdd,Nat.reduceSub,AV.int,AV.bool,AV.str,Nat.reduceBEq,Nat.reduceEqDiff,Nat.reduceMul,Nat.reduceLT,Nat.reduceLeDiff,Int.reduceNeg,BEq.rfl,beq_self_eq_true,tabl,cellsOf,fldA,ldA,stA,Ak,Ao,Am,over,Ag,Value.oneCell',idxA,nilA,Aa,Ap,Ah,pure1,pure2,reps,chkA,tys,Tryz.results22,evt,Av,Au,Al,Bh,A8,hC,hV,hA,c1]
 rfl
theorem N1 (l:List RowT) (hl0:∀ r ∈ l,r.1.length≤1048576) (a:Ans) (h0:sysE l=0) (hA:Vd l a) (ms:List (List AV)) (hI:∀ S tk k,cL Tryz.prog 49 [.frz (a.nu.map ceW) .unk] S tk k=some (.frz ms .unk,S,tk,k)) :
  cL Tryz.prog 21 [Bh l] S tk k=some (.tup [.frz (if a.f=true then [] else ms) .unk,.bool (!a.f)],S,tk,k):=by
 have hC:=fun S tk k=>D9 S tk k l hl0
 obtain ⟨h1,h2,h3,-⟩:=Hp h0
 have hV:=fun S tk k=>Dn S tk k l h1 h2
 have c1:(sysE l != 0)=false:=by simpa using h0
 unfold Vd at hA
 simp only [ansC,lsC,ceW,digA,Bh,A8,List.cons_append,List.nil_append] at hA
 simp only [Bh,A8] at hC hV
 cases hf:a.f with
 | true =>
  rw [hf] at hA
  rw [if_pos rfl]
  refine A9 Tryz.func21 rfl rfl (by decide +kernel) (by decide +kernel) Tryz.ntmps21 rfl rfl _ _ _ (rfl) ?_; rw [Bs]
  simp (maxSteps:=1000000) +contextual (disch:=first|with_reducible assumption|exact ⟨rfl⟩|exact ⟨rfl,rfl⟩|exact ⟨rfl,rfl,rfl⟩|(refine _root_.id ?_; kernel_rfl)|omega) only [evs,Ad,nth,put,putT,getT,Ai,Aj,Ab,aUn,outA,resA,mapO,Aq,Ar,w1,w2,w3,bots,cond_true,cond_false,if_true,if_false,ite_true,ite_false,reduceIte,reduceCtorEq,implies_true,Nat.reduceAdd,Nat.reduceSub,AV.int,AV.bool,AV.str,Nat.reduceBEq,Nat.reduceEqDiff,Nat.reduceMul,Nat.reduceLT,Nat.reduceLeDiff,Int.reduceNeg,BEq.rfl,beq_self_eq_true,tabl,cellsOf,fldA,ldA,stA,Ak,Ao,Am,over,Ag,Value.oneCell',idxA,nilA,Aa,Ap,Ah,pure1,pure2,reps,chkA,tys,Tryz.results21,evt,Av,Au,Al,Bh,A8,hC,hV,hA,c1]
 | false =>
  rw [hf] at hA
  rw [if_neg Bool.false_ne_true]
  refine A9 Tryz.func21 rfl rfl (by decide +kernel) (by decide +kernel) Tryz.ntmps21 rfl rfl _ _ _ (rfl) ?_; rw [Bs]
  simp (maxSteps:=1000000) +contextual (disch:=first|with_reducible assumption|exact ⟨rfl⟩|exact ⟨rfl,rfl⟩|exact ⟨rfl,rfl,rfl⟩|(refine _root_.id ?_; kernel_rfl)|omega) only [evs,Ad,nth,put,putT,getT,Ai,Aj,Ab,aUn,outA,resA,mapO,Aq,Ar,w1,w2,w3,bots,cond_true,cond_false,if_true,if_false,ite_true,ite_false,reduceIte,reduceCtorEq,implies_true,Nat.reduceAdd,Nat.reduceSub,AV.int,AV.bool,AV.str,Nat.reduceBEq,Nat.reduceEqDiff,Nat.reduceMul,Nat.reduceLT,Nat.reduceLeDiff,Int.reduceNeg,BEq.rfl,beq_self_eq_true,tabl,cellsOf,fldA,ldA,stA,Ak,Ao,Am,over,Ag,Value.oneCell',idxA,nilA,Aa,Ap,Ah,pure1,pure2,reps,chkA,tys,Tryz.results21,evt,Av,Au,Al,Bh,A8,hC,hV,hA,c1,hI]
end
end Go.Proofs.YtcjffhadclngmaaGreat
namespace Go.Proofs.YtcjffhadclngmaaGreat
open Go
def Ad4 (S:List Ent) (tk:List Nat) (ia ea iq eq:Nat) (l:List Q) (fl:Bool) (r:Rs):Prop :=
 ∃ S' k',r=(.tup [],S',tk,k')∧S'.length=S.length∧Ak S' ia ea=some (flat ceQ l)∧FAq S' iq eq fl∧∀ j,j≠ia→j≠iq→nth S' j=nth S j
section
variable (S:List Ent) (tk:List Nat) (k iq eq:Nat) (fl:Bool)
set_option maxHeartbeats 4000000 in
set_option maxRecDepth 100000 in
theorem Ae4 (it et ia ea ij ej W c:Nat) (rest:List AV) (a row:List Q) (ht:Ak S it et=some (.ifc 95 (.ref iq eq 0) :: rest)) (hq:FAq S iq eq fl) (ha:Ak S ia ea=some (flat ceQ a)) (hr:Ak S ij ej=some (flat ceQ row))
  (la:a.length=W) (lr:row.length=W) (hc:c<W) (hWb:W≤1000000) (oa:okL qF a) (orr:okL qF row) (ne1:ia≠ij) (ne2:ia≠it) (ne3:ia≠iq) (ne4:iq≠it) (ne5:iq≠ij) :
  ∃ r,cL Tryz.prog 112 [.ref it et 0,.sref ia ea 0 W 2,.sref ij ej 0 W 2,.int c] S tk k=some r∧Ad4 S tk ia ea iq eq (Gz qF a row c).1 (fl || (Gz qF a row c).2) r:=by
 obtain ⟨Φ,hΦ⟩:∃ Φ,Φ=Ad4 S tk ia ea iq eq (Gz qF a row c).1 (fl || (Gz qF a row c).2):=⟨_,rfl⟩
 rw [← hΦ]
 obtain ⟨b,hb⟩:=A6 (show c<a.length by omega)
 have ob:qF.ok b:=oa b (by rw [Az] at hb; exact List.mem_of_getElem? hb)
 have hbt:=Bu Ba hb
 have hlt:Gz qF a row c=if sgn b=0 then (a,false) else Kh qF b a row:=by unfold Gz; rw [hb]
 have hs:=Ud S tk k iq eq fl b ob hq
 refine Bv Tryz.func112 rfl rfl (by decide +kernel) Tryz.ntmps112 rfl ?_; rw [Bs]
 by_cases h0:sgn b=0
 ·have d1:(sgn b == 0)=true:=by simpa using h0
  simp (maxSteps:=1000000) +contextual (disch:=first|with_reducible assumption|exact ⟨rfl⟩|exact ⟨rfl,rfl⟩|exact ⟨rfl,rfl,rfl⟩|(refine _root_.id ?_; kernel_rfl)|omega) only [evs,Ad,nth,put,putT,getT,Ai,Aj,Ab,aUn,outA,resA,mapO,Aq,Ar,w1,w2,w3,bots,cond_true,cond_false,if_true,if_false,ite_true,ite_false,reduceIte,reduceCtorEq,implies_true,Nat.reduceAdd,Nat.reduceSub,AV.int,AV.bool,AV.str,Nat.reduceBEq,Nat.reduceEqDiff,Nat.reduceMul,Nat.reduceLT,Nat.reduceLeDiff,Int.reduceNeg,BEq.rfl,beq_self_eq_true,tabl,cellsOf,fldA,ldA,stA,Bd,Bc,A2,A1,Ae,Af,Ac,List.take_left,List.take_length,Ao,Am,over,Ag,Value.oneCell',idxA,nilA,Aa,Ap,Ah,pure1,pure2,reps,chkA,tys,Tryz.results112,evt,Av,Au,Al,w2,w1,ht,ha,hc,hbt,hs,d1,Dx,xfs,puQ]
  rw [hlt,if_pos h0] at hΦ
  rw [hΦ]
  exact ⟨S,_,rfl,rfl,ha,by rw [Bool.or_false]; exact hq,fun j _ _=>rfl⟩
 have d1:(sgn b == 0)=false:=by simpa using h0
 rw [hlt,if_neg h0] at hΦ
 simp (maxSteps:=1000000) +contextual (disch:=first|with_reducible assumption|exact ⟨rfl⟩|exact ⟨rfl,rfl⟩|exact ⟨rfl,rfl,rfl⟩|(refine _root_.id ?_; kernel_rfl)|omega) only [evs,Ad,nth,put,putT,getT,Ai,Aj,Ab,aUn,outA,resA,mapO,Aq,Ar,w1,w2,w3,bots,cond_true,cond_false,if_true,if_false,ite_true,ite_false,reduceIte,reduceCtorEq,implies_true,Nat.reduceAdd,Nat.reduceSub,AV.int,AV.bool,AV.str,Nat.reduceBEq,Nat.reduceEqDiff,Nat.reduceMul,Nat.reduceLT,Nat.reduceLeDiff,Int.reduceNeg,BEq.rfl,beq_self_eq_true,tabl,cellsOf,fldA,ldA,stA,Bd,Bc,A2,A1,Ae,Af,Ac,List.take_left,List.take_length,Ao,Am,over,Ag,Value.oneCell',idxA,nilA,Aa,Ap,Ah,pure1,pure2,reps,chkA,tys,Tryz.results112,evt,Av,Au,Al,w2,w1,ht,ha,hc,hbt,hs,d1,Dx,xfs,puQ,Ba,Bq,ovQ]
 refine Hs (P:=Tryz.prog) (fun x st=>st.T.length=70∧(Kh qF b a row=(x.2.2.1++(Kh qF b x.2.2.2.1 x.2.2.2.2.1).1,x.2.2.2.2.2 || (Kh qF b x.2.2.2.1 x.2.2.2.2.1).2))∧(x.2.2.1.length+x.2.2.2.1.length=W)∧(x.2.2.2.1.length=x.2.2.2.2.1.length)∧(∃ pr,row=pr++x.2.2.2.2.1∧pr.length=x.2.2.1.length)∧(x.1.length=S.length)∧(Ak x.1 ia ea=some (flat ceQ (x.2.2.1++x.2.2.2.1)))∧(FAq x.1 iq eq (fl || x.2.2.2.2.2))∧(∀ j,j≠ia→j≠iq→nth x.1 j=nth S j)∧(okL qF x.2.2.2.1)∧(okL qF x.2.2.2.2.1)∧getT st.T 0=.ref it et 0∧getT st.T 1=.sref ia ea 0 W 2∧getT st.T 2=.sref ij ej 0 W 2∧getT st.T 8=.ref S.length (k+1) 0∧getT st.T 27=.int (W:Nat)∧getT st.T 28=.int (x.2.2.1.length:Nat)∧st.S=x.1++[⟨k+1,ceQ b⟩]∧st.tk=tk∧st.n=x.2.1) (fun x=>x.2.2.2.2.1.length) (S,(k+1+1),([]:List Q),a,row,false) ?_ ?_
 case refine_2=>exact ⟨rfl,by simp,by simpa using la,la.trans lr.symm,⟨[],rfl,rfl⟩,rfl,ha,by rw [Bool.or_false]; exact hq,fun j _ _=>rfl,oa,orr,rfl,rfl,rfl,rfl,rfl,rfl,rfl,rfl,rfl⟩
 rintro ⟨S1,n1,p,u,rs,fp⟩ ⟨T,S',tk',n'⟩ ⟨hl,hR,hW,hu,hrow,hS1,he,hf,hj,ou,ors,e0,e1,e2,e8,e27,e28,eS,eT,eN⟩ IH
 simp only at hR hW hu hrow hS1 he hf hj ou ors e0 e1 e2 e8 e27 e28 eS eT eN
 subst eS eT eN
 obtain ⟨g,hg,hT⟩:=Bp hl
 rw [hg] at e0 e1 e2 e8 e27 e28
 subst hT
 clear hg hl
 by_cases hlt2:p.length<W
 ·have c1:decide ((p.length:Int)<(W:Int))=true:=by simpa using hlt2
  obtain ⟨a0,u,rfl⟩:∃ a0 u',u=a0 :: u':=by
   cases u with
   | nil=>simp at hW; omega
   | cons x u=>exact ⟨x,u,rfl⟩
  obtain ⟨r0,rs,rfl⟩:∃ r0 rs',rs=r0 :: rs':=by
   cases rs with
   | nil=>simp at hu
   | cons x u=>exact ⟨x,u,rfl⟩
  obtain ⟨pr,hrow1,hpr⟩:=hrow
  have oa0:=ou a0 (by simp)
  have or0:=ors r0 (by simp)
  have hrn:nth row p.length=some r0:=by rw [hrow1,← hpr]; exact H9
  have hr0:=Bu Ba hrn
  have ha0:=Bu (ce:=ceQ) Ba (H9 (p:=p) (u:=u) (x:=a0))
  obtain ⟨E,hE⟩:∃ E:Ent,E=⟨k+1,ceQ b⟩:=⟨_,rfl⟩
  have hbT:Ak (S1++[E]) S.length (k+1)=some (ceQ b):=by rw [hE]; exact Be hS1
  rw [← hE]
  have ht1:Ak S1 it et=some (.ifc 95 (.ref iq eq 0) :: rest):=by rw [Ay (hj it ne2.symm ne4.symm)]; exact ht
  have hr1:Ak S1 ij ej=some (flat ceQ row):=by rw [Ay (hj ij ne1.symm ne5.symm)]; exact hr
  have htT:Ak (S1++[E]) it et=some (.ifc 95 (.ref iq eq 0) :: rest):=Ax ht1
  have hrT:Ak (S1++[E]) ij ej=some (flat ceQ row):=Ax hr1
  have heT:Ak (S1++[E]) ia ea=some (flat ceQ (p++a0 :: u)):=Ax he
  have hfT:=hf.app (L:=[E])
  have hs2:=Ud (S1++[E]) tk' n' iq eq (fl || fp) r0 or0 hfT
  have hil:=B1 he
  have hmu:rs.length<(r0 :: rs).length:=by simp
  have hw:IntKind.i64.wrap ((p.length:Int)+1)=(((p++[a0]).length:Nat):Int):=by rw [A0 (by unfold i64; omega)]; simp
  by_cases hz:sgn r0=0
  ·have c2:(sgn r0 != 0)=false:=by simpa using hz
   simp (maxSteps:=1000000) +contextual (disch:=first|with_reducible assumption|exact ⟨rfl⟩|exact ⟨rfl,rfl⟩|exact ⟨rfl,rfl,rfl⟩|(refine _root_.id ?_; kernel_rfl)|omega) only [evs,Ad,nth,put,putT,getT,Ai,Aj,Ab,aUn,outA,resA,mapO,Aq,Ar,w1,w2,w3,bots,cond_true,cond_false,if_true,if_false,ite_true,ite_false,reduceIte,reduceCtorEq,implies_true,Nat.reduceAdd,Nat.reduceSub,AV.int,AV.bool,AV.str,Nat.reduceBEq,Nat.reduceEqDiff,Nat.reduceMul,Nat.reduceLT,Nat.reduceLeDiff,Int.reduceNeg,BEq.rfl,beq_self_eq_true,tabl,cellsOf,fldA,ldA,stA,Bd,Bc,A2,A1,Ae,Af,Ac,List.take_left,List.take_length,Ao,Am,over,Ag,Value.oneCell',idxA,nilA,Aa,Ap,Ah,pure1,pure2,reps,chkA,tys,Tryz.results112,evt,Av,Au,Al,e0,e1,e2,e8,e27,e28,c1,c2,hw,htT,hrT,hr0,hlt2,hs2,Dx,xfs,puQ]
   have hst:Tc qF b a0 r0=(a0,false):=by unfold Tc; rw [if_pos hz]
   exact IH (S1,n'+1,p++[a0],u,rs,fp) _ (by first|omega|(simp only; omega)) ⟨rfl,by rw [hR]; simp only [Kh,hst,List.append_assoc,List.cons_append,List.nil_append,Bool.false_or],by show (p++[a0]).length+u.length=W; simp only [List.length_append,List.length_cons,List.length_nil] at hW ⊢; omega,by simpa using hu,⟨pr++[r0],by rw [hrow1]; simp,by simp [hpr]⟩,hS1,by simpa using he,hf,hj,fun q hq=>ou q (by simp [hq]),fun q hq=>ors q (by simp [hq]),(by first|rfl|simp only [getT,List.map_append]),(by first|rfl|simp only [getT,List.map_append]),(by first|rfl|simp only [getT,List.map_append]),(by first|rfl|simp only [getT,List.map_append]),(by first|rfl|simp only [getT,List.map_append]),(by first|rfl|simp only [getT,List.map_append]),by simp only [hE],rfl,rfl⟩
  ·have c2:(sgn r0 != 0)=true:=by simpa using hz
   obtain ⟨x,hx⟩:∃ x,x=qF.times b r0:=⟨_,rfl⟩
   obtain ⟨y,hy⟩:∃ y,y=qF.minus a0 x.1:=⟨_,rfl⟩
   have hwy:IntKind.i64.wrap ((p.length:Int)+1)=(((p++[y.1]).length:Nat):Int):=by rw [A0 (by unfold i64; omega)]; simp
   have ox:qF.ok x.1:=by rw [hx]; exact B7.times _ _ ob or0
   have oy:qF.ok y.1:=by rw [hy]; exact B7.minus _ _ oa0 ox
   have hm1:=Xe (S1++[E]) tk' (n'+1) iq eq (fl || fp) b r0 ob or0 hfT
   have hg1:=D1 (c:=x.2) hfT
   rw [← hx] at hm1
   rw [Gg hf] at hm1 hg1
   obtain ⟨S2,hS2⟩:∃ S2,S2=flS S1 iq eq x.2:=⟨_,rfl⟩
   rw [← hS2] at hm1 hg1
   have hf2:FAq S2 iq eq ((fl || fp) || x.2):=by rw [hS2]; exact hf.fS
   have hm2:=Jk (S2++[E]) tk' (n'+1+4) iq eq ((fl || fp) || x.2) a0 x.1 oa0 ox (hf2.app (L:=[E]))
   have hg2:=D1 (c:=y.2) (hf2.app (L:=[E]))
   rw [← hy] at hm2
   rw [Gg hf2] at hm2 hg2
   obtain ⟨S3,hS3⟩:∃ S3,S3=flS S2 iq eq y.2:=⟨_,rfl⟩
   rw [← hS3] at hm2 hg2
   have hf3:FAq S3 iq eq (((fl || fp) || x.2) || y.2):=by rw [hS3]; exact hf2.fS
   have hl3:S3.length=S.length:=by rw [hS3,Bo,hS2,Bo,hS1]
   have hn3:∀ j,j≠iq→nth S3 j=nth S1 j:=fun j hj=>by rw [hS3,Bg hj,hS2,Bg hj]
   have he3:Ak S3 ia ea=some (flat ceQ (p++a0 :: u)):=by rw [Ay (hn3 ia ne3)]; exact he
   have he3T:Ak (S3++[E]) ia ea=some (flat ceQ (p++a0 :: u)):=Ax he3
   have ho:=De (ce:=ceQ) Ba (l:=p++a0 :: u) (k:=p.length) (q':=y.1) (by simp)
   rw [Jv] at ho
   have hp3:=fun x=>Em (L:=[E]) (x:=x) (B1 he3)
   have htk:∀ x,List.take (S1++[E]).length (put S3 ia x++[E])=put S3 ia x++[E]:=fun x=>List.take_of_length_le (by simp [A7,hl3,hS1])
   simp (maxSteps:=1000000) +contextual (disch:=first|with_reducible assumption|exact ⟨rfl⟩|exact ⟨rfl,rfl⟩|exact ⟨rfl,rfl,rfl⟩|(refine _root_.id ?_; kernel_rfl)|omega) only [evs,Ad,nth,put,putT,getT,Ai,Aj,Ab,aUn,outA,resA,mapO,Aq,Ar,w1,w2,w3,bots,cond_true,cond_false,if_true,if_false,ite_true,ite_false,reduceIte,reduceCtorEq,implies_true,Nat.reduceAdd,Nat.reduceSub,AV.int,AV.bool,AV.str,Nat.reduceBEq,Nat.reduceEqDiff,Nat.reduceMul,Nat.reduceLT,Nat.reduceLeDiff,Int.reduceNeg,BEq.rfl,beq_self_eq_true,tabl,cellsOf,fldA,ldA,stA,Bd,Bc,A2,A1,Ae,Af,Ac,List.take_left,List.take_length,Ao,Am,over,Ag,Value.oneCell',idxA,nilA,Aa,Ap,Ah,pure1,pure2,reps,chkA,tys,Tryz.results112,evt,Av,Au,Al,e0,e1,e2,e8,e27,e28,c1,c2,htk,hwy,htT,hrT,heT,hbT,hr0,ha0,hlt2,hs2,hm1,hm2,hg1,hg2,he3T,ho,hp3,Dx,xfs,puQ,Ba,Bq,tkQ]
   have hst:Tc qF b a0 r0=(y.1,x.2 || y.2):=by unfold Tc; rw [if_neg hz,hy,hx]
   exact IH (put S3 ia ⟨ea,flat ceQ (p++y.1 :: u)⟩,n'+1+4+4,p++[y.1],u,rs,Bool.or fp (Bool.or x.2 y.2)) _ (by first|omega|(simp only; omega)) ⟨rfl,by rw [hR]; simp only [Kh,hst,List.append_assoc,List.cons_append,List.nil_append,Bool.or_assoc],by show (p++[y.1]).length+u.length=W; simp only [List.length_append,List.length_cons,List.length_nil] at hW ⊢; omega,by simpa using hu,⟨pr++[r0],by rw [hrow1]; simp,by simp [hpr]⟩,A7.trans hl3,by rw [A4 (B1 he3)]; simp,by have:=hf3.put (x:=⟨ea,flat ceQ (p++y.1 :: u)⟩) ne3; simpa only [Bool.or_assoc] using this,fun j h1 h2=>by rw [Aw (Ne.symm h1),hn3 j h2]; exact hj j h1 h2,fun q hq=>ou q (by simp [hq]),fun q hq=>ors q (by simp [hq]),(by first|rfl|simp only [getT,List.map_append]),(by first|rfl|simp only [getT,List.map_append]),(by first|rfl|simp only [getT,List.map_append]),(by first|rfl|simp only [getT,List.map_append]),(by first|rfl|simp only [getT,List.map_append]),(by first|rfl|simp only [getT,List.map_append]),by simp only [hE],rfl,rfl⟩
 ·have c1:decide ((p.length:Int)<(W:Int))=false:=by simpa using hlt2
  have hu0:u=[]:=List.length_eq_zero_iff.1 (by omega)
  subst hu0
  simp (maxSteps:=1000000) +contextual (disch:=first|with_reducible assumption|exact ⟨rfl⟩|exact ⟨rfl,rfl⟩|exact ⟨rfl,rfl,rfl⟩|(refine _root_.id ?_; kernel_rfl)|omega) only [evs,Ad,nth,put,putT,getT,Ai,Aj,Ab,aUn,outA,resA,mapO,Aq,Ar,w1,w2,w3,bots,cond_true,cond_false,if_true,if_false,ite_true,ite_false,reduceIte,reduceCtorEq,implies_true,Nat.reduceAdd,Nat.reduceSub,AV.int,AV.bool,AV.str,Nat.reduceBEq,Nat.reduceEqDiff,Nat.reduceMul,Nat.reduceLT,Nat.reduceLeDiff,Int.reduceNeg,BEq.rfl,beq_self_eq_true,tabl,cellsOf,fldA,ldA,stA,Bd,Bc,A2,A1,Ae,Af,Ac,List.take_left,List.take_length,Ao,Am,over,Ag,Value.oneCell',idxA,nilA,Aa,Ap,Ah,pure1,pure2,reps,chkA,tys,Tryz.results112,evt,Av,Au,Al,e0,e1,e2,e8,e27,e28,c1]
  rw [hΦ,Lc hS1]
  simp only [Kh] at hR
  rw [hR]
  exact ⟨S1,n',rfl,hS1,he,by rw [Bool.or_false]; exact hf,hj⟩
end
end Go.Proofs.YtcjffhadclngmaaGreat
namespace Go.Proofs.YtcjffhadclngmaaGreat
open Go
structure Bi (S:List Ent) (iq eq:Nat) (I:TI) (t:Tb) (c:Cap):Prop where
 top:Ak S I.it I.et=some [.ifc 95 (.ref iq eq 0),intA t.vars,intA t.real,hd0 I.ir I.er 1 t.rows.length,.sref I.ic I.ec 0 t.cost.length 2,hd0 I.ib I.eb 1 t.rows.length,.frz (t.flip.map Hq) c]
 nids:I.ids.length=t.rows.length
 rowsE:t.rows≠[]→Ak S I.ir I.er=some (I.ids.map (hdr t.cost.length 2))
 rowE:∀ i p r,nth I.ids i=some p→nth t.rows i=some r→Ak S p.1 p.2=some (flat ceQ r)
 rowW:∀ r ∈ t.rows,r.length=t.cost.length
 costE:Ak S I.ic I.ec=some (flat ceQ t.cost)
 basisE:t.rows≠[]→Ak S I.ib I.eb=some (t.basis.map intA)
 nb:t.basis.length=t.rows.length
 nf:t.flip.length=t.rows.length
 fa:FAq S iq eq t.fl
 ap:Apart I iq
 okr:∀ r ∈ t.rows,okL qF r
 okc:okL qF t.cost
 bigW:t.cost.length≤1000000
 bigM:t.rows.length≤1000000
 real:t.real<t.cost.length
 bB:∀ b ∈ t.basis,b<t.cost.length
section
variable {S S':List Ent} {iq eq:Nat} {I:TI} {t:Tb} {c:Cap}
theorem Bi.row (h:Bi S iq eq I t c) {i:Nat} {p:Nat × Nat} {r0 r':List Q} {fl':Bool} (hp:nth I.ids i=some p) (hr:nth t.rows i=some r0) (hl:r'.length=t.cost.length) (ho:okL qF r') (hS:∀ j,j≠p.1→j≠iq→nth S' j=nth S j) (he:Ak S' p.1 p.2=some (flat ceQ r')) (hf:FAq S' iq eq fl') :
  Bi S' iq eq I { t with rows:=put t.rows i r',fl:=fl' } c:=by
 have hil:i<t.rows.length:=B5 hr
 have hpm:=h.ap.row p (Bj hp)
 have key:∀ j e,j≠p.1→j≠iq→Ak S' j e=Ak S j e:=fun j e h1 h2=>Ay (hS j h1 h2)
 have hne:put t.rows i r'≠[]→t.rows≠[]:=fun hn h0=>hn (Afn.2 h0)
 refine ⟨?_,by rw [Bm]; exact h.nids,fun hn=>?_,fun j q r hq hr2=>?_,fun r hr2=>?_,?_,fun hn=>?_,by rw [Bm]; exact h.nb,by rw [Bm]; exact h.nf,hf,h.ap,fun r hr2=>?_,h.okc,h.bigW,by rw [Bm]; exact h.bigM,h.real,h.bB⟩
 ·rw [key _ _ hpm.1.symm h.ap.qt.symm,Bm]; exact h.top
 ·rw [key _ _ hpm.2.1.symm h.ap.qr.symm]; exact h.rowsE (hne hn)
 ·rw [Aba hil] at hr2
  by_cases e:j=i
  ·subst e
   rw [if_pos rfl] at hr2
   rw [hp] at hq
   simp only [Option.some.injEq] at hr2 hq
   subst hr2; subst hq; exact he
  ·rw [if_neg e] at hr2
   have hq2:=h.ap.row q (Bj hq)
   rw [key _ _ (h.ap.rows j i q p hq hp e) hq2.2.2.2.2]; exact h.rowE j q r hq hr2
 ·rcases Ek hr2 with rfl|hr2
  ·exact hl
  ·exact h.rowW r hr2
 ·rw [key _ _ hpm.2.2.1.symm h.ap.qc.symm]; exact h.costE
 ·rw [key _ _ hpm.2.2.2.1.symm h.ap.qb.symm]; exact h.basisE (hne hn)
 ·rcases Ek hr2 with rfl|hr2
  ·exact ho
  ·exact h.okr r hr2
theorem Bi.setCost (h:Bi S iq eq I t c) {k':List Q} {fl':Bool} (hl:k'.length=t.cost.length) (ho:okL qF k') (hS:∀ j,j≠I.ic→j≠iq→nth S' j=nth S j) (he:Ak S' I.ic I.ec=some (flat ceQ k')) (hf:FAq S' iq eq fl') :
  Bi S' iq eq I { t with cost:=k',fl:=fl' } c:=by
 have key:∀ j e,j≠I.ic→j≠iq→Ak S' j e=Ak S j e:=fun j e h1 h2=>Ay (hS j h1 h2)
 refine ⟨?_,h.nids,fun hn=>?_,fun j q r hq hr2=>?_,fun r hr2=>by rw [hl]; exact h.rowW r hr2,he,fun hn=>?_,h.nb,h.nf,hf,h.ap,h.okr,ho,by rw [hl]; exact h.bigW,h.bigM,by rw [hl]; exact h.real,fun b hb=>by rw [hl]; exact h.bB b hb⟩
 ·rw [key _ _ h.ap.tc h.ap.qt.symm,hl]; exact h.top
 ·rw [key _ _ h.ap.rc h.ap.qr.symm,hl]; exact h.rowsE hn
 ·have hq2:=h.ap.row q (Bj hq)
  rw [key _ _ hq2.2.2.1 hq2.2.2.2.2]; exact h.rowE j q r hq hr2
 ·rw [key _ _ h.ap.cb.symm h.ap.qb.symm]; exact h.basisE hn
theorem Bi.setBasis (h:Bi S iq eq I t c) {i b:Nat} (hn0:t.rows≠[]) (hb:b<t.cost.length):Bi (put S I.ib ⟨I.eb,(put t.basis i b).map intA⟩) iq eq I { t with basis:=put t.basis i b } c:=by
 have hil:=B1 (h.basisE hn0)
 have key:∀ j e,j≠I.ib→Ak (put S I.ib ⟨I.eb,(put t.basis i b).map intA⟩) j e=Ak S j e:=fun j e h1=>Bf (Ne.symm h1)
 refine ⟨?_,h.nids,fun hn=>?_,fun j q r hq hr2=>?_,h.rowW,?_,fun hn=>A4 hil,by rw [Bm]; exact h.nb,h.nf,h.fa.put h.ap.qb.symm,h.ap,h.okr,h.okc,h.bigW,h.bigM,h.real,fun x hx=>?_⟩
 ·rw [key _ _ h.ap.tb]; exact h.top
 ·rw [key _ _ h.ap.rb]; exact h.rowsE hn
 ·have hq2:=h.ap.row q (Bj hq)
  rw [key _ _ hq2.2.2.2.1]; exact h.rowE j q r hq hr2
 ·rw [key _ _ h.ap.cb]; exact h.costE
 ·rcases Ek hx with rfl|hx
  ·exact hb
  ·exact h.bB x hx
theorem Bi.flag (h:Bi S iq eq I t c) {fl':Bool} (hS:∀ j,j≠iq→nth S' j=nth S j) (hf:FAq S' iq eq fl'):Bi S' iq eq I { t with fl:=fl' } c:=by
 have key:∀ j e,j≠iq→Ak S' j e=Ak S j e:=fun j e h1=>Ay (hS j h1)
 refine ⟨?_,h.nids,fun hn=>?_,fun j q r hq hr2=>?_,h.rowW,?_,fun hn=>?_,h.nb,h.nf,hf,h.ap,h.okr,h.okc,h.bigW,h.bigM,h.real,h.bB⟩
 ·rw [key _ _ h.ap.qt.symm]; exact h.top
 ·rw [key _ _ h.ap.qr.symm]; exact h.rowsE hn
 ·have hq2:=h.ap.row q (Bj hq)
  rw [key _ _ hq2.2.2.2.2]; exact h.rowE j q r hq hr2
 ·rw [key _ _ h.ap.qc.symm]; exact h.costE
 ·rw [key _ _ h.ap.qb.symm]; exact h.basisE hn
theorem Bi.app (h:Bi S iq eq I t c) (L:List Ent):Bi (S++L) iq eq I t c :=
 ⟨Ax h.top,h.nids,fun hn=>Ax (h.rowsE hn),fun j q r hq hr=>Ax (h.rowE j q r hq hr),h.rowW,Ax h.costE,fun hn=>Ax (h.basisE hn),h.nb,h.nf,h.fa.app,h.ap,h.okr,h.okc,h.bigW,h.bigM,h.real,h.bB⟩
structure LowQ (I:TI) (iq n:Nat) (t:Tb):Prop where
 it:I.it<n
 ic:I.ic<n
 ir:t.rows≠[]→I.ir<n
 ib:t.rows≠[]→I.ib<n
 row:∀ p ∈ I.ids,p.1<n
 iq:iq<n
theorem Bi.low (h:Bi S iq eq I t c):LowQ I iq S.length t:=by
 refine ⟨B1 h.top,B1 h.costE,fun hn=>B1 (h.rowsE hn),fun hn=>B1 (h.basisE hn),fun p hp=>?_,B1 h.fa⟩
 obtain ⟨i,hi⟩:=List.getElem?_of_mem hp
 have hil:=(List.getElem?_eq_some_iff.1 hi).1
 obtain ⟨r,hr⟩:=A6 (show i<t.rows.length by rw [← h.nids]; exact hil)
 exact B1 (h.rowE i p r (by rw [Az]; exact hi) hr)
theorem Bi.take (h:Bi S iq eq I t c) {n:Nat} (hl:LowQ I iq n t):Bi (S.take n) iq eq I t c:=by
 refine ⟨by rw [G3 hl.it]; exact h.top,h.nids,fun hn=>by rw [G3 (hl.ir hn)]; exact h.rowsE hn,fun j q r hq hr=>by rw [G3 (hl.row q (Bj hq))]; exact h.rowE j q r hq hr,h.rowW,by rw [G3 hl.ic]; exact h.costE,fun hn=>by rw [G3 (hl.ib hn)]; exact h.basisE hn,h.nb,h.nf,h.fa.take hl.iq,h.ap,h.okr,h.okc,h.bigW,h.bigM,h.real,h.bB⟩
theorem LowQ.of {n:Nat} {t':Tb} (h:LowQ I iq n t) (hn:t'.rows≠[]→t.rows≠[]):LowQ I iq n t':=⟨h.it,h.ic,fun h'=>h.ir (hn h'),fun h'=>h.ib (hn h'),h.row,h.iq⟩
theorem Bi.frame (h:Bi S iq eq I t c) {n:Nat} {fl':Bool} (hl:LowQ I iq n t) (hS:∀ j,j<n→j≠iq→nth S' j=nth S j) (hf:FAq S' iq eq fl'):Bi S' iq eq I { t with fl:=fl' } c:=by
 have key:∀ j e,j<n→j≠iq→Ak S' j e=Ak S j e:=fun j e h1 h2=>Ay (hS j h1 h2)
 refine ⟨?_,h.nids,fun hn=>?_,fun j q r hq hr2=>?_,h.rowW,?_,fun hn=>?_,h.nb,h.nf,hf,h.ap,h.okr,h.okc,h.bigW,h.bigM,h.real,h.bB⟩
 ·rw [key _ _ hl.it h.ap.qt.symm]; exact h.top
 ·rw [key _ _ (hl.ir hn) h.ap.qr.symm]; exact h.rowsE hn
 ·have hq2:=h.ap.row q (Bj hq)
  rw [key _ _ (hl.row q (Bj hq)) hq2.2.2.2.2]; exact h.rowE j q r hq hr2
 ·rw [key _ _ hl.ic h.ap.qc.symm]; exact h.costE
 ·rw [key _ _ (hl.ib hn) h.ap.qb.symm]; exact h.basisE hn
def OutQ (I:TI) (iq j:Nat):Prop:=j≠iq∧j≠I.ic∧j≠I.ib∧∀ p ∈ I.ids,j≠p.1
def Nb (S:List Ent) (tk:List Nat) (iq eq:Nat) (I:TI) (t':Tb) (cc:Cap) (v:AV) (r:Rs):Prop :=
 ∃ S' k',r=(v,S',tk,k')∧S'.length=S.length∧Bi S' iq eq I t' cc∧∀ j,OutQ I iq j→nth S' j=nth S j
end
end Go.Proofs.YtcjffhadclngmaaGreat
