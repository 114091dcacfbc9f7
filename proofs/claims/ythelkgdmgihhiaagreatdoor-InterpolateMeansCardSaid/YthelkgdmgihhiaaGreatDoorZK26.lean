/- Part 26. -/
import Derived.Test.YthelkgdmgihhiaaGreatDoorZK25
namespace Go.Proofs.YthelkgdmgihhiaaGreatDoor
section
open Go Tryz
section
variable (S:List Ent) (tk:List Nat) (k:Nat)
theorem Ud (s:ByteArray):cL prog 165 [.str s] S tk k=some (.bool (Dj s),S,tk,k):=by
 refine opP func165 ntmps165 ?_
 have c1 S tk k:=Gn S tk k s
 cases hz:B2 s with
 | false =>
  rw [hz] at c1
  simp (maxSteps:=10^6)+contextual(disch:=try exact dqd)only[ev2,simprocAttr,AV.int,AV.bool,AV.str,results165,c1]
  simp [Dj,hz]
 | true =>
  have hsz:1<=s.size/\s.size<=24:=by simpa [B2] using hz
  obtain ⟨b,hb⟩:=Ki (show 0<s.size by omega)
  have aw:=sIx hb
  have c3 S tk k:=Jy S tk k b
  have c4 S tk k:=Dn S tk k s (by omega)
  rw [hz] at c1
  have hN:Dj s=(capB b && (bsL s).all alnB && !(sEq s bInt || sEq s Aby || sEq s Abz || sEq s bFun)):=by simp [Dj,hz,P3 hb]
  rw [hN]
  cases hq:capB b <;> cases hk:(bsL s).all alnB <;> rw [hq] at c3 <;> rw [hk] at c4
  case true.true =>
   simp (maxSteps:=10^6)+contextual(disch:=try exact dqd)only[ev2,simprocAttr,AV.int,AV.bool,AV.str,results165,c1,c3,c4,aw]
   unfold bInt Aby Abz bFun
   generalize sEq s ⟨#[73,110,116]⟩=q1
   generalize sEq s ⟨#[66,111,111,108]⟩=q2
   generalize sEq s ⟨#[67,101,108,108]⟩=q3
   generalize sEq s ⟨#[70,117,110]⟩=q4
   cases q1 <;> cases q2 <;> cases q3 <;> cases q4 <;> simp
  all_goals
   simp (maxSteps:=10^6)+contextual(disch:=try exact dqd)only[ev2,simprocAttr,AV.int,AV.bool,AV.str,results165,c1,c3,c4,aw]
theorem Mb (s:ByteArray) (hs:s.size<=1048576):cL prog 163 [.str s] S tk k=some (.tup [.str (ofL (cutL (bsL s)).1),.str (ofL (cutL (bsL s)).2.1),.bool (cutL (bsL s)).2.2],S,tk,k):=by
 refine opP func163 ntmps163 ?_
 simp (maxSteps:=10^6)+contextual(disch:=try exact dqd)only[ev2,simprocAttr,AV.int,AV.bool,AV.str,results163]
 refine loop1 (P:=prog) (fun x st=>st.T.length=24/\(x<=s.size)/\(∀ j c,j<x->nth (bsL s) j=some c->c.toNat≠46)/\getT st.T 0=.str s/\getT st.T 5=.int (x:Nat)/\st.S=[]) (fun x=>s.size - x) (fun x=>.tup [.str (ofL (cutL (bsL s)).1),.str (ofL (cutL (bsL s)).2.1),.bool (cutL (bsL s)).2.2]) (0) ?_ ?_
 case refine_2=>exact ⟨rfl,Nat.zero_le _,fun j c h=>by omega,rfl,rfl,rfl⟩
 rintro i ⟨T,S',tk',n'⟩ ⟨hl,hi,hA,e0,e5,eS⟩ IH
 subst eS
 obtain ⟨g,hg,hT⟩:=A4 hl
 rw [hg] at e0 e5
 subst hT
 clear hg hl
 by_cases la:i<s.size
 ·have d1:decide ((i:Int)<(s.size:Int))=true:=by simpa using la
  obtain ⟨b,hb⟩:=Ki la
  have aw:=sIx hb
  have hw:=A0 (i:=i) (by omega)
  by_cases jw:b.toNat=46
  ·have d2:(((b.toNat:Nat):Int) == 46)=true:=by rw [jw]; rfl
   have jx:=Y0 (bsL s) i b hb hA jw
   rw [jx]
   clear IH
   have s1:=Ac4 s i hi
   have s2:=Pb s (i+1) la
   have x1:s.extract 0 i=ofL ((bsL s).take i):=by rw [Gk]; rfl
   have x2:s.extract (i+1) s.size=ofL ((bsL s).drop (i+1)):=by rw [Gk,<- Df,List.take_length]
   rw [x1] at s1
   rw [x2] at s2
   simp (maxSteps:=10^6)+contextual(disch:=try exact dqd)only[ev2,simprocAttr,AV.int,AV.bool,AV.str,results163,e0,e5,d1,d2,aw,hw,s1,s2]
  ·have d2:(((b.toNat:Nat):Int) == 46)=false:=by simp; omega
   simp (maxSteps:=10^6)+contextual(disch:=try exact dqd)only[ev2,simprocAttr,AV.int,AV.bool,AV.str,results163,e0,e5,d1,d2,aw,hw]
   refine IH (i+1) _ (by omega) ⟨rfl,by omega,fun j c hj hc=>?_,rfl,rfl,rfl⟩
   by_cases hji:j=i
   ·subst hji; rw [hb] at hc; cases hc; exact jw
   ·exact hA j c (by omega) hc
 ·have d1:decide ((i:Int)<(s.size:Int))=false:=by simpa using la
  have he:i=s.size:=by omega
  have jx:=Pw (bsL s) (fun j c hc=>hA j c (by
   rw [Ab] at hc
   have:=(List.getElem?_eq_some_iff.1 hc).1
   rw [Df] at this; omega) hc)
  rw [jx]
  simp only [Ae5]
  simp (maxSteps:=10^6)+contextual(disch:=try exact dqd)only[ev2,simprocAttr,AV.int,AV.bool,AV.str,results163,e0,e5,d1]
  rfl
theorem Ae8 (l:List UInt8):(H0 l).isEmpty=false:=by rw [Gt]; rfl
def Qf (l:List UInt8) (m:Bool):Bool:=(if m=true then (H0 l).map ofL else []).all J0
theorem Td (l:List UInt8):Qf l true=(J0 (ofL (cutL l).1) && Qf (cutL l).2.1 (cutL l).2.2):=by
 unfold Qf
 rw [if_pos rfl,Gt l]
 cases (cutL l).2.2 <;> simp
theorem Aeh {s:ByteArray} (h:s.size<=120):Ha s=((Ei (ofL (cutL (bsL s)).1) || Dj (ofL (cutL (bsL s)).1) || (sEq (ofL (cutL (bsL s)).1) bV && (cutL (bsL s)).2.2)) && Qf (cutL (bsL s)).2.1 (cutL (bsL s)).2.2):=by
 unfold Ha Nd Qf
 rw [Gt (bsL s)]
 have:decide (s.size<=120)=true:=by simpa using h
 rw [this]
 cases (cutL (bsL s)).2.2 <;> simp [Af8,Ae8]
theorem R7 (s:ByteArray):J0 s=(B2 s && ((bsL s).all alnB || M2 (bsL s))):=rfl
set_option maxHeartbeats 4000000 in
theorem Xd (s:ByteArray):cL prog 131 [.str s] S tk k=some (.int (if Ha s=true then 0 else 3),S,tk,k):=by
 refine opP func131 ntmps131 ?_
 by_cases gh:s.size<=120
 case neg =>
  have d0:decide ((s.size:Int) > 120)=true:=by simp; omega
  simp (maxSteps:=10^6)+contextual(disch:=try exact dqd)only[ev2,simprocAttr,AV.int,AV.bool,AV.str,results131,d0]
  have:Ha s=false:=by unfold Ha; rw [show decide (s.size<=120)=false by simpa using gh]; rfl
  rw [this]; rfl
 have d0:decide ((s.size:Int) > 120)=false:=by simp; omega
 have c1 S tk k:=Mb S tk k s (by omega)
 have dj:=Pv (bsL s)
 rw [Df] at dj
 rw [Aeh gh]
 generalize (cutL (bsL s)).1=f at *
 generalize gx:(cutL (bsL s)).2.2=m0 at *
 generalize (cutL (bsL s)).2.1=l0 at *
 have c2 S tk k:=Xe S tk k (ofL f)
 have c3 S tk k:=Ud S tk k (ofL f)
 have hl1:m0=true->l0.length<=120:=fun h=>by have:=dj.2 h; omega
 clear dj
 have nc:(Ei (ofL f) || Dj (ofL f) || (sEq (ofL f) bV && m0))=true->True:=fun _=>trivial
 generalize da:((Ei (ofL f) || Dj (ofL f) || (sEq (ofL f) bV && m0)) && Qf l0 m0)=RR
 unfold bV at da
 clear nc
 have go:∀ (R:Bool),Qf l0 m0=R->R=RR->True:=fun _ _ _=>trivial
 clear go
 cases q1:Ei (ofL f) <;> cases q2:Dj (ofL f) <;> cases q3:sEq (ofL f) ⟨#[118]⟩ <;> rw [q1] at c2 <;> rw [q2] at c3 <;> simp only [q1,q2,q3,Bool.or_true,Bool.true_or,Bool.or_false,Bool.false_and,Bool.true_and,Bool.and_true,Bool.and_false,Bool.false_or] at da
 case false.false.false=>simp (maxSteps:=10^6)+contextual(disch:=try exact dqd)only[ev2,simprocAttr,AV.int,AV.bool,AV.str,results131,d0,c1,c2,c3,q3]; rw [<- da]; rfl
 all_goals
  simp (maxSteps:=10^6)+contextual(disch:=try exact dqd)only[ev2,simprocAttr,AV.int,AV.bool,AV.str,results131,d0,c1,c2,c3,q3]
 case false.false.true =>
  refine ⟨fun h=>?_,fun h=>by rw [h] at da; rw [<- da]; rfl⟩
  subst h
  rw [Bool.true_and] at da
  clear c1 c2 c3 q1 q2 q3
  refine loop1 (P:=prog) (fun x st=>st.T.length=52/\(x.2=true->x.1.length<=120)/\(RR=Qf x.1 x.2)/\getT st.T 4=.str (ofL x.1)/\getT st.T 5=.bool x.2/\st.S=[]) (fun x=>if x.2=true then x.1.length+1 else 0) (fun x=>.int (if RR=true then 0 else 3)) (l0,true) ?_ ?_
  case refine_2=>exact ⟨rfl,hl1,da.symm,rfl,rfl,rfl⟩
  rintro ⟨l,m⟩ ⟨T,S',tk',n'⟩ ⟨hl,hl,hA,e4,e5,eS⟩ IH
  simp only at hl hA e4 e5 eS
  subst eS
  obtain ⟨g,hg,hT⟩:=A4 hl
  rw [hg] at e4 e5
  subst hT
  clear hg hl
  cases m with
  | false =>
   simp (maxSteps:=10^6)+contextual(disch:=try exact dqd)only[ev2,simprocAttr,AV.int,AV.bool,AV.str,results131,e4,e5]
   rw [hA]; rfl
  | true =>
   have hl2:=hl rfl
   have c1 S tk k:=Mb S tk k (ofL l) (by rw [Hv]; omega)
   rw [Tw] at c1
   have hcl:=Pv l
   rw [Td] at hA
   generalize (cutL l).1=f1 at *
   generalize (cutL l).2.2=m1 at *
   generalize (cutL l).2.1=l1 at *
   have z1 S tk k:=Gn S tk k (ofL f1)
   have z2 S tk k:=Dn S tk k (ofL f1) (by rw [Hv]; omega)
   have z3 S tk k:=N3 S tk k (ofL f1) (by rw [Hv]; omega)
   rw [R7] at hA
   cases r1:B2 (ofL f1) <;> cases r2:(bsL (ofL f1)).all alnB <;> cases r3:M2 (bsL (ofL f1)) <;> rw [r1] at z1 <;> rw [r2] at z2 <;> rw [r3] at z3 <;> simp only [r1,r2,r3,Bool.or_true,Bool.true_or,Bool.or_false,Bool.false_and,Bool.true_and,Bool.and_true,Bool.and_false,Bool.false_or] at hA
   all_goals
    simp (maxSteps:=10^6)+contextual(disch:=try exact dqd)only[ev2,simprocAttr,AV.int,AV.bool,AV.str,results131,e4,e5,c1,z1,z2,z3]
   all_goals
    first
    | (rw [hA]; rfl)
    | (refine IH (l1,m1) _ ?_ ⟨rfl,fun h=>(show l1.length<=120 by have:=hcl.2 h; omega),hA,rfl,rfl,rfl⟩
       cases m1 with
       | false => simp
       | true => have := hcl.2 rfl; simp; omega)
 all_goals
  clear c1 c2 c3 q1 q2 q3
  refine loop1 (P:=prog) (fun x st=>st.T.length=52/\(x.2=true->x.1.length<=120)/\(RR=Qf x.1 x.2)/\getT st.T 4=.str (ofL x.1)/\getT st.T 5=.bool x.2/\st.S=[]) (fun x=>if x.2=true then x.1.length+1 else 0) (fun x=>.int (if RR=true then 0 else 3)) (l0,m0) ?_ ?_
  case refine_2=>exact ⟨rfl,hl1,da.symm,rfl,rfl,rfl⟩
  rintro ⟨l,m⟩ ⟨T,S',tk',n'⟩ ⟨hl,hl,hA,e4,e5,eS⟩ IH
  simp only at hl hA e4 e5 eS
  subst eS
  obtain ⟨g,hg,hT⟩:=A4 hl
  rw [hg] at e4 e5
  subst hT
  clear hg hl
  cases m with
  | false =>
   simp (maxSteps:=10^6)+contextual(disch:=try exact dqd)only[ev2,simprocAttr,AV.int,AV.bool,AV.str,results131,e4,e5]
   rw [hA]; rfl
  | true =>
   have hl2:=hl rfl
   have c1 S tk k:=Mb S tk k (ofL l) (by rw [Hv]; omega)
   rw [Tw] at c1
   have hcl:=Pv l
   rw [Td] at hA
   generalize (cutL l).1=f1 at *
   generalize (cutL l).2.2=m1 at *
   generalize (cutL l).2.1=l1 at *
   have z1 S tk k:=Gn S tk k (ofL f1)
   have z2 S tk k:=Dn S tk k (ofL f1) (by rw [Hv]; omega)
   have z3 S tk k:=N3 S tk k (ofL f1) (by rw [Hv]; omega)
   rw [R7] at hA
   cases r1:B2 (ofL f1) <;> cases r2:(bsL (ofL f1)).all alnB <;> cases r3:M2 (bsL (ofL f1)) <;> rw [r1] at z1 <;> rw [r2] at z2 <;> rw [r3] at z3 <;> simp only [r1,r2,r3,Bool.or_true,Bool.true_or,Bool.or_false,Bool.false_and,Bool.true_and,Bool.and_true,Bool.and_false,Bool.false_or] at hA
   all_goals
    simp (maxSteps:=10^6)+contextual(disch:=try exact dqd)only[ev2,simprocAttr,AV.int,AV.bool,AV.str,results131,e4,e5,c1,z1,z2,z3]
   all_goals
    first
    | (rw [hA]; rfl)
    | (refine IH (l1,m1) _ ?_ ⟨rfl,fun h=>(show l1.length<=120 by have:=hcl.2 h; omega),hA,rfl,rfl,rfl⟩
       cases m1 with
       | false => simp
       | true => have := hcl.2 rfl; simp; omega)
end
end
end Go.Proofs.YthelkgdmgihhiaaGreatDoor
