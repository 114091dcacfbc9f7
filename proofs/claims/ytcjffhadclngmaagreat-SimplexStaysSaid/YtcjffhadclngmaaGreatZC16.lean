/- Q1 Q2 W1 V0 V1 V2 V3 V35 FCheck FVars FVars2 N1 Pos N2 N3 N4 V17a QV2 QV4 -/
import Derived.Test.YtcjffhadclngmaaGreatZC15
import Derived.Test.YtcjffhadclngmaaGreatZC9
namespace Go.Proofs.YtcjffhadclngmaaGreat
section
open Go Tryz
def frA (a:Q):AV:=.agg [.int a.1,.int a.2]
def flS (S:List Ent) (iq eq:Nat) (b:Bool):List Ent:=bif b then put S iq ⟨eq,[.prim (.bool true)]⟩ else S
theorem Ew {S:List Ent} {iq eq:Nat} : flS S iq eq false=S:=rfl
theorem A5 {S:List Ent} {iq eq:Nat} : flS S iq eq true=put S iq ⟨eq,[.prim (.bool true)]⟩:=rfl
theorem Bd {S:List Ent} {iq eq:Nat} {b:Bool} : (flS S iq eq b).length=S.length:=by
 cases b
 ·rfl
 ·exact Ah
theorem Ax {S:List Ent} {iq eq j:Nat} {b:Bool} (h:j≠iq):nth (flS S iq eq b) j=nth S j:=by
 cases b
 ·rfl
 ·exact Ac h.symm
theorem A7 {S:List Ent} {i e:Nat} {cs:List AV} (h:entAt S i e=some cs):i<S.length:=by
 obtain ⟨x,h1,-⟩:=Dy h
 exact Bk h1
theorem B3 {α:Type} {l:List α} {i:Nat} {v:α} (h:i<l.length):nth (put l i v) i=some v:=by
 induction l generalizing i with
 | nil=>simp at h
 | cons x l ih=>cases i with
  | zero=>rfl
  | succ i=>exact ih (by simpa using h)
theorem Af {S:List Ent} {i e:Nat} {cs:List AV} (h:i<S.length):entAt (put S i ⟨e,cs⟩) i e=some cs:=by
 simp [entAt,B3 h]
theorem Aj {S:List Ent} {i j e:Nat} {x:Ent} (h:i≠j):entAt (put S i x) j e=entAt S j e:=by
 simp [entAt,Ac h]
theorem Ab {S S':List Ent} {j e:Nat} (h:nth S' j=nth S j):entAt S' j e=entAt S j e:=by simp [entAt,h]
theorem Ae7 {S:List Ent} {iq eq:Nat} {b c:Bool} (h:entAt S iq eq=some [.prim (.bool b)]):entAt (flS S iq eq c) iq eq=some [.prim (.bool (b || c))]:=by
 cases c
 ·rw [Ew,Bool.or_false]; exact h
 ·rw [A5,Af (A7 h),Bool.or_true]
theorem Apg {S:List Ent} {iq eq:Nat} {b c:Bool} (h:entAt S iq eq=some [.prim (.bool b)]):gO S (flS S iq eq c)=some ():=by
 refine Afv ⟨Bd,fun j=>?_⟩
 by_cases e:j=iq
 ·subst e
  obtain ⟨x,h1,h2,h3⟩:=Dy h
  obtain ⟨ep,cs⟩:=x
  simp only at h2 h3
  subst h2 h3
  cases c
  ·exact .inl rfl
  ·exact .inr ⟨_,b,true,h1,B3 (Bk h1)⟩
 ·exact .inl (Ax e)
theorem Aa {S:List Ent} {L:List Ent} {i e:Nat} {cs:List AV} (h:entAt S i e=some cs):entAt (S++L) i e=some cs:=by
 have hl:=A7 h
 unfold entAt at h ⊢
 rw [Ae] at h ⊢
 rw [List.getElem?_append_left hl]; exact h
theorem Dd {S L:List Ent} {i:Nat} {x:Ent} (h:i<S.length):put (S++L) i x=put S i x++L:=by
 induction S generalizing i with
 | nil=>simp at h
 | cons y S ih=>cases i with
  | zero=>rfl
  | succ i=>simp only [List.cons_append,put,ih (by simpa using h)]
theorem Ug {S L:List Ent} {iq eq:Nat} {b:Bool} (h:iq<S.length):flS (S++L) iq eq b=flS S iq eq b++L:=by
 cases b
 ·rfl
 ·exact Dd h
theorem Hb {S L:List Ent} : (S++L).take S.length=S:=by simp
theorem Ai {S:List Ent} {n k:Nat} {cs:List AV} (h:S.length=n):entAt (S++[⟨k,cs⟩]) n k=some cs:=by subst h; exact Bf
theorem De {S:List Ent} {n:Nat} {e e':Ent} (h:S.length=n):put (S++[e]) n e'=S++[e']:=by subst h; exact put_new
theorem Je {S L:List Ent} {n:Nat} (h:S.length=n):(S++L).take n=S:=by subst h; exact Hb
theorem Dn (x:Int) (g:Nat):(x.tdiv g).natAbs<=x.natAbs:=by
 rw [Int.natAbs_tdiv]; exact Nat.div_le_self _ _
theorem Aiq (n d:Int) (hn:n.natAbs<9223372036854775808) (hd:d.natAbs<9223372036854775808) (g:Nat) (hg:g=n.natAbs.gcd d.natAbs) (N:Int) (D:Nat) (hN:N=if d<0 then -n else n) (hD:D=d.natAbs) :
  lowN n d=(if 1<g then N.tdiv (g:Int) else N)/\lowD n d=(if 1<g then (D:Int).tdiv (g:Int) else (D:Int)):=by
 subst hN hD
 have hNn:(if d<0 then -n else n).natAbs=n.natAbs:=by split <;> omega
 unfold lowN lowD
 rw [<- hg]
 by_cases h1:1<g
 ·rw [if_pos h1,if_pos h1]
  exact ⟨rfl,by rw [Int.tdiv_eq_ediv_of_nonneg (by omega)]; rfl⟩
 ·rw [if_neg h1,if_neg h1]
  rcases Nat.lt_or_ge 0 g with h0|h0
  ·have:g=1:=by omega
   subst this
   exact ⟨by simp,by simp⟩
  ·have za:g=0:=by omega
   rw [za] at hg
   have ha:=Nat.gcd_eq_zero_iff.1 hg.symm
   have jk:n=0:=by omega
   have cw:d=0:=by omega
   subst jk; subst cw
   exact ⟨by simp,by simp⟩
section
variable (S:List Ent) (tk:List Nat) (k iq eq:Nat) (b:Bool)
set_option maxHeartbeats 4000000 in
set_option maxRecDepth 100000 in
theorem Ky (n d:Int) (hn:n.natAbs<9223372036854775808) (hd:d.natAbs<9223372036854775808) (hq:entAt S iq eq=some [.prim (.bool b)]):cL prog 164 [.ref iq eq 0,.int n,.int d] S tk k=some (frA (qn n d).1,flS S iq eq (qn n d).2,tk,k+1):=by
 have bg:=A7 hq
 have b9:entAt (S++[⟨k,[.prim (.int .i64 0),.prim (.int .i64 0)]⟩]) iq eq=some [.prim (.bool b)]:=Aa hq
 refine opS func164 ntmps164 ?_
 obtain ⟨N,hN⟩:∃ N,N=if d<0 then -n else n:=⟨_,rfl⟩
 obtain ⟨D,hD⟩:∃ D:Nat,D=d.natAbs:=⟨_,rfl⟩
 obtain ⟨g,hg⟩:∃ g:Nat,g=n.natAbs.gcd d.natAbs:=⟨_,rfl⟩
 have hNn:N.natAbs=n.natAbs:=by subst hN; split <;> omega
 obtain ⟨f1,f2⟩:=Aiq n d hn hd g hg N D hN hD
 obtain ⟨r,hr⟩:∃ r,r=qn n d:=⟨_,rfl⟩
 have ae:=hr
 unfold qn bigF at ae
 rw [f1,f2] at ae
 rw [<- hr]
 have di:(put S iq ⟨eq,[.prim (.bool true)]⟩).length=S.length:=Ah
 have hE:=fun cs=>Ai (k:=k) (cs:=cs) di
 have hP:=fun e e'=>De (e:=e) (e':=e') di
 have hT:=fun L=>Je (L:=L) di
 have hA:=fun L x=>Dd (L:=L) (x:=x) bg
 by_cases hneg:d<0
 ·have d1:decide (d<0)=true:=by simpa using hneg
  have w1':IntKind.i64.wrap (0 - n)=N:=by rw [hN,if_pos hneg,Ad (by unfold i64; omega)]; omega
  have w2':IntKind.i64.wrap (0 - d)=((D:Nat):Int):=by rw [hD,Ad (by unfold i64; omega)]; omega
  by_cases jk:N<0
  ·have d2:decide (N<0)=true:=by simpa using jk
   have w3':IntKind.i64.wrap (0 - N)=((N.natAbs:Nat):Int):=by rw [Ad (by unfold i64; omega)]; omega
   simp (maxSteps:=10^6)+contextual(disch:=try exact dqd)only[evs0,simprocAttr,AV.int,AV.bool,AV.str,results164,d1,w1',w2',d2,w3']
   refine Agj (P:=prog) (fun x st=>st.T.length=56/\(x.1.gcd x.2=g)/\(x.1<9223372036854775808)/\(x.2<9223372036854775808)/\getT st.T 0=.ref iq eq 0/\getT st.T 1=.int N/\getT st.T 2=.int (D:Nat)/\getT st.T 6=.ref S.length k 0/\getT st.T 7=.int (x.1:Nat)/\getT st.T 8=.int (x.2:Nat)/\st.S=S++[⟨k,[.int 0,.int 0]⟩]/\st.tk=tk/\st.n=k+1) (fun x=>x.2) (fun x=>(frA r.1,flS S iq eq r.2,tk,k+1)) (N.natAbs,D) ?_ ?_
   case refine_2=>exact ⟨rfl,by rw [hNn,hD,hg],by omega,by omega,rfl,rfl,rfl,rfl,rfl,rfl,rfl,rfl,rfl⟩
   rintro ⟨x,y⟩ ⟨T,S',tk',n'⟩ ⟨hl,og,hx,hy,e0,e1,e2,e6,e7,e8,eS,eT,eN⟩ IH
   simp only at og hx hy e0 e1 e2 e6 e7 e8 eS eT eN
   subst eS eT eN
   obtain ⟨g,hg,hT⟩:=Av hl
   rw [hg] at e0 e1 e2 e6 e7 e8
   subst hT
   clear hg hl
   by_cases h0:y=0
   ·subst h0
    have c1:(((0:Nat):Int) != 0)=false:=rfl
    rw [Nat.gcd_zero_right] at og
    subst og
    by_cases h1:1<x
    ·rw [if_pos h1,if_pos h1] at ae
     have c2:decide ((x:Int) > 1)=true:=by simp; omega
     have hz:¬ ((x:Int)=0):=by omega
     have v1:=Dn N x
     have v2:=Dn (D:Int) x
     have w5:IntKind.i64.wrap (N.tdiv (x:Int))=N.tdiv (x:Int):=Ad (by unfold i64; omega)
     have w6:IntKind.i64.wrap ((D:Int).tdiv (x:Int))=(D:Int).tdiv (x:Int):=Ad (by unfold i64; omega)
     by_cases b1:N.tdiv (x:Int)<=-2147483648
     ·have k1:decide (N.tdiv (x:Int)<=-2147483648)=true:=by simpa using b1
      rw [if_pos (by rw [k1]; rfl)] at ae
      rw [ae]
      simp (maxSteps:=10^6)+contextual(disch:=try exact dqd)only[evs0,simprocAttr,AV.int,AV.bool,AV.str,results164,e0,e1,e2,e6,e7,e8,c1,c2,hz,w5,w6,b9,hE,hP,hT,hA,k1,frA,A5]
     have k1:decide (N.tdiv (x:Int)<=-2147483648)=false:=by simpa using b1
     by_cases b2:N.tdiv (x:Int) >= 2147483648
     ·have k2:decide (N.tdiv (x:Int) >= 2147483648)=true:=by simpa using b2
      rw [if_pos (by rw [k1,k2]; rfl)] at ae
      rw [ae]
      simp (maxSteps:=10^6)+contextual(disch:=try exact dqd)only[evs0,simprocAttr,AV.int,AV.bool,AV.str,results164,e0,e1,e2,e6,e7,e8,c1,c2,hz,w5,w6,b9,hE,hP,hT,hA,k1,k2,frA,A5]
     have k2:decide (N.tdiv (x:Int) >= 2147483648)=false:=by simpa using b2
     by_cases b3:(D:Int).tdiv (x:Int) >= 2147483648
     ·have k3:decide ((D:Int).tdiv (x:Int) >= 2147483648)=true:=by simpa using b3
      rw [if_pos (by rw [k1,k2,k3]; rfl)] at ae
      rw [ae]
      simp (maxSteps:=10^6)+contextual(disch:=try exact dqd)only[evs0,simprocAttr,AV.int,AV.bool,AV.str,results164,e0,e1,e2,e6,e7,e8,c1,c2,hz,w5,w6,b9,hE,hP,hT,hA,k1,k2,k3,frA,A5]
     have k3:decide ((D:Int).tdiv (x:Int) >= 2147483648)=false:=by simpa using b3
     by_cases b4:(D:Int).tdiv (x:Int)=0
     ·have k4:((D:Int).tdiv (x:Int) == 0)=true:=by simpa using b4
      rw [if_pos (by rw [k1,k2,k3,decide_eq_true b4]; rfl)] at ae
      rw [ae]
      simp (maxSteps:=10^6)+contextual(disch:=try exact dqd)only[evs0,simprocAttr,AV.int,AV.bool,AV.str,results164,e0,e1,e2,e6,e7,e8,c1,c2,hz,w5,w6,b9,hE,hP,hT,hA,k1,k2,k3,k4,frA,A5]
     have k4:((D:Int).tdiv (x:Int) == 0)=false:=by simpa using b4
     rw [if_neg (by rw [k1,k2,k3,decide_eq_false b4]; exact Bool.false_ne_true)] at ae
     rw [ae]
     simp (maxSteps:=10^6)+contextual(disch:=try exact dqd)only[evs0,simprocAttr,AV.int,AV.bool,AV.str,results164,e0,e1,e2,e6,e7,e8,c1,c2,hz,w5,w6,b9,k1,k2,k3,k4,frA,Ew]
    ·rw [if_neg h1,if_neg h1] at ae
     have c2:decide ((x:Int) > 1)=false:=by simp; omega
     by_cases b1:N<=-2147483648
     ·have k1:decide (N<=-2147483648)=true:=by simpa using b1
      rw [if_pos (by rw [k1]; rfl)] at ae
      rw [ae]
      simp (maxSteps:=10^6)+contextual(disch:=try exact dqd)only[evs0,simprocAttr,AV.int,AV.bool,AV.str,results164,e0,e1,e2,e6,e7,e8,c1,c2,b9,hE,hP,hT,hA,k1,frA,A5]
     have k1:decide (N<=-2147483648)=false:=by simpa using b1
     by_cases b2:N >= 2147483648
     ·have k2:decide (N >= 2147483648)=true:=by simpa using b2
      rw [if_pos (by rw [k1,k2]; rfl)] at ae
      rw [ae]
      simp (maxSteps:=10^6)+contextual(disch:=try exact dqd)only[evs0,simprocAttr,AV.int,AV.bool,AV.str,results164,e0,e1,e2,e6,e7,e8,c1,c2,b9,hE,hP,hT,hA,k1,k2,frA,A5]
     have k2:decide (N >= 2147483648)=false:=by simpa using b2
     by_cases b3:(D:Int) >= 2147483648
     ·have k3:decide ((D:Int) >= 2147483648)=true:=by simpa using b3
      rw [if_pos (by rw [k1,k2,k3]; rfl)] at ae
      rw [ae]
      simp (maxSteps:=10^6)+contextual(disch:=try exact dqd)only[evs0,simprocAttr,AV.int,AV.bool,AV.str,results164,e0,e1,e2,e6,e7,e8,c1,c2,b9,hE,hP,hT,hA,k1,k2,k3,frA,A5]
     have k3:decide ((D:Int) >= 2147483648)=false:=by simpa using b3
     by_cases b4:(D:Int)=0
     ·have k4:((D:Int) == 0)=true:=by simpa using b4
      rw [if_pos (by rw [k1,k2,k3,decide_eq_true b4]; rfl)] at ae
      rw [ae]
      simp (maxSteps:=10^6)+contextual(disch:=try exact dqd)only[evs0,simprocAttr,AV.int,AV.bool,AV.str,results164,e0,e1,e2,e6,e7,e8,c1,c2,b9,hE,hP,hT,hA,k1,k2,k3,k4,frA,A5]
     have k4:((D:Int) == 0)=false:=by simpa using b4
     rw [if_neg (by rw [k1,k2,k3,decide_eq_false b4]; exact Bool.false_ne_true)] at ae
     rw [ae]
     simp (maxSteps:=10^6)+contextual(disch:=try exact dqd)only[evs0,simprocAttr,AV.int,AV.bool,AV.str,results164,e0,e1,e2,e6,e7,e8,c1,c2,b9,k1,k2,k3,k4,frA,Ew]
   ·have c1:((y:Int) != 0)=true:=by simpa using h0
    have hz:¬ ((y:Int)=0):=by omega
    have hm:(x:Int).tmod (y:Int)=((x % y:Nat):Int):=by rw [Int.tmod_eq_emod_of_nonneg (by omega)]; rfl
    simp (maxSteps:=10^6)+contextual(disch:=try exact dqd)only[evs0,simprocAttr,AV.int,AV.bool,AV.str,results164,e0,e1,e2,e6,e7,e8,c1,hz,hm]
    have hlt:=Nat.mod_lt x (by omega:0<y)
    exact IH (y,x % y) _ (by first|omega|(simp only; omega)) ⟨rfl,by rw [<- og,Nat.gcd_comm x y]; exact (Nat.gcd_rec y x).symm ▸ Nat.gcd_comm y (x % y),hy,by first|omega|(dsimp only; omega),by and_intros <;> first|rfl|simp only [getT,List.map_append]⟩
  ·have d2:decide (N<0)=false:=by simpa using jk
   simp (maxSteps:=10^6)+contextual(disch:=try exact dqd)only[evs0,simprocAttr,AV.int,AV.bool,AV.str,results164,d1,w1',w2',d2]
   obtain ⟨M,hM⟩:∃ M:Nat,N=M:=⟨N.natAbs,by omega⟩
   subst hM
   refine Agj (P:=prog) (fun x st=>st.T.length=56/\(x.1.gcd x.2=g)/\(x.1<9223372036854775808)/\(x.2<9223372036854775808)/\getT st.T 0=.ref iq eq 0/\getT st.T 1=.int (M:Int)/\getT st.T 2=.int (D:Nat)/\getT st.T 6=.ref S.length k 0/\getT st.T 7=.int (x.1:Nat)/\getT st.T 8=.int (x.2:Nat)/\st.S=S++[⟨k,[.int 0,.int 0]⟩]/\st.tk=tk/\st.n=k+1) (fun x=>x.2) (fun x=>(frA r.1,flS S iq eq r.2,tk,k+1)) ((M:Int).natAbs,D) ?_ ?_
   case refine_2=>exact ⟨rfl,by rw [hNn,hD,hg],by omega,by omega,rfl,rfl,rfl,rfl,rfl,rfl,rfl,rfl,rfl⟩
   rintro ⟨x,y⟩ ⟨T,S',tk',n'⟩ ⟨hl,og,hx,hy,e0,e1,e2,e6,e7,e8,eS,eT,eN⟩ IH
   simp only at og hx hy e0 e1 e2 e6 e7 e8 eS eT eN
   subst eS eT eN
   obtain ⟨g,hg,hT⟩:=Av hl
   rw [hg] at e0 e1 e2 e6 e7 e8
   subst hT
   clear hg hl
   by_cases h0:y=0
   ·subst h0
    have c1:(((0:Nat):Int) != 0)=false:=rfl
    rw [Nat.gcd_zero_right] at og
    subst og
    by_cases h1:1<x
    ·rw [if_pos h1,if_pos h1] at ae
     have c2:decide ((x:Int) > 1)=true:=by simp; omega
     have hz:¬ ((x:Int)=0):=by omega
     have v1:=Dn (M:Int) x
     have v2:=Dn (D:Int) x
     have w5:IntKind.i64.wrap ((M:Int).tdiv (x:Int))=(M:Int).tdiv (x:Int):=Ad (by unfold i64; omega)
     have w6:IntKind.i64.wrap ((D:Int).tdiv (x:Int))=(D:Int).tdiv (x:Int):=Ad (by unfold i64; omega)
     by_cases b1:(M:Int).tdiv (x:Int)<=-2147483648
     ·have k1:decide ((M:Int).tdiv (x:Int)<=-2147483648)=true:=by simpa using b1
      rw [if_pos (by rw [k1]; rfl)] at ae
      rw [ae]
      simp (maxSteps:=10^6)+contextual(disch:=try exact dqd)only[evs0,simprocAttr,AV.int,AV.bool,AV.str,results164,e0,e1,e2,e6,e7,e8,c1,c2,hz,w5,w6,b9,hE,hP,hT,hA,k1,frA,A5]
     have k1:decide ((M:Int).tdiv (x:Int)<=-2147483648)=false:=by simpa using b1
     by_cases b2:(M:Int).tdiv (x:Int) >= 2147483648
     ·have k2:decide ((M:Int).tdiv (x:Int) >= 2147483648)=true:=by simpa using b2
      rw [if_pos (by rw [k1,k2]; rfl)] at ae
      rw [ae]
      simp (maxSteps:=10^6)+contextual(disch:=try exact dqd)only[evs0,simprocAttr,AV.int,AV.bool,AV.str,results164,e0,e1,e2,e6,e7,e8,c1,c2,hz,w5,w6,b9,hE,hP,hT,hA,k1,k2,frA,A5]
     have k2:decide ((M:Int).tdiv (x:Int) >= 2147483648)=false:=by simpa using b2
     by_cases b3:(D:Int).tdiv (x:Int) >= 2147483648
     ·have k3:decide ((D:Int).tdiv (x:Int) >= 2147483648)=true:=by simpa using b3
      rw [if_pos (by rw [k1,k2,k3]; rfl)] at ae
      rw [ae]
      simp (maxSteps:=10^6)+contextual(disch:=try exact dqd)only[evs0,simprocAttr,AV.int,AV.bool,AV.str,results164,e0,e1,e2,e6,e7,e8,c1,c2,hz,w5,w6,b9,hE,hP,hT,hA,k1,k2,k3,frA,A5]
     have k3:decide ((D:Int).tdiv (x:Int) >= 2147483648)=false:=by simpa using b3
     by_cases b4:(D:Int).tdiv (x:Int)=0
     ·have k4:((D:Int).tdiv (x:Int) == 0)=true:=by simpa using b4
      rw [if_pos (by rw [k1,k2,k3,decide_eq_true b4]; rfl)] at ae
      rw [ae]
      simp (maxSteps:=10^6)+contextual(disch:=try exact dqd)only[evs0,simprocAttr,AV.int,AV.bool,AV.str,results164,e0,e1,e2,e6,e7,e8,c1,c2,hz,w5,w6,b9,hE,hP,hT,hA,k1,k2,k3,k4,frA,A5]
     have k4:((D:Int).tdiv (x:Int) == 0)=false:=by simpa using b4
     rw [if_neg (by rw [k1,k2,k3,decide_eq_false b4]; exact Bool.false_ne_true)] at ae
     rw [ae]
     simp (maxSteps:=10^6)+contextual(disch:=try exact dqd)only[evs0,simprocAttr,AV.int,AV.bool,AV.str,results164,e0,e1,e2,e6,e7,e8,c1,c2,hz,w5,w6,b9,k1,k2,k3,k4,frA,Ew]
    ·rw [if_neg h1,if_neg h1] at ae
     have c2:decide ((x:Int) > 1)=false:=by simp; omega
     by_cases b1:(M:Int)<=-2147483648
     ·have k1:decide ((M:Int)<=-2147483648)=true:=by simpa using b1
      rw [if_pos (by rw [k1]; rfl)] at ae
      rw [ae]
      simp (maxSteps:=10^6)+contextual(disch:=try exact dqd)only[evs0,simprocAttr,AV.int,AV.bool,AV.str,results164,e0,e1,e2,e6,e7,e8,c1,c2,b9,hE,hP,hT,hA,k1,frA,A5]
     have k1:decide ((M:Int)<=-2147483648)=false:=by simpa using b1
     by_cases b2:(M:Int) >= 2147483648
     ·have k2:decide ((M:Int) >= 2147483648)=true:=by simpa using b2
      rw [if_pos (by rw [k1,k2]; rfl)] at ae
      rw [ae]
      simp (maxSteps:=10^6)+contextual(disch:=try exact dqd)only[evs0,simprocAttr,AV.int,AV.bool,AV.str,results164,e0,e1,e2,e6,e7,e8,c1,c2,b9,hE,hP,hT,hA,k1,k2,frA,A5]
     have k2:decide ((M:Int) >= 2147483648)=false:=by simpa using b2
     by_cases b3:(D:Int) >= 2147483648
     ·have k3:decide ((D:Int) >= 2147483648)=true:=by simpa using b3
      rw [if_pos (by rw [k1,k2,k3]; rfl)] at ae
      rw [ae]
      simp (maxSteps:=10^6)+contextual(disch:=try exact dqd)only[evs0,simprocAttr,AV.int,AV.bool,AV.str,results164,e0,e1,e2,e6,e7,e8,c1,c2,b9,hE,hP,hT,hA,k1,k2,k3,frA,A5]
     have k3:decide ((D:Int) >= 2147483648)=false:=by simpa using b3
     by_cases b4:(D:Int)=0
     ·have k4:((D:Int) == 0)=true:=by simpa using b4
      rw [if_pos (by rw [k1,k2,k3,decide_eq_true b4]; rfl)] at ae
      rw [ae]
      simp (maxSteps:=10^6)+contextual(disch:=try exact dqd)only[evs0,simprocAttr,AV.int,AV.bool,AV.str,results164,e0,e1,e2,e6,e7,e8,c1,c2,b9,hE,hP,hT,hA,k1,k2,k3,k4,frA,A5]
     have k4:((D:Int) == 0)=false:=by simpa using b4
     rw [if_neg (by rw [k1,k2,k3,decide_eq_false b4]; exact Bool.false_ne_true)] at ae
     rw [ae]
     simp (maxSteps:=10^6)+contextual(disch:=try exact dqd)only[evs0,simprocAttr,AV.int,AV.bool,AV.str,results164,e0,e1,e2,e6,e7,e8,c1,c2,b9,k1,k2,k3,k4,frA,Ew]
   ·have c1:((y:Int) != 0)=true:=by simpa using h0
    have hz:¬ ((y:Int)=0):=by omega
    have hm:(x:Int).tmod (y:Int)=((x % y:Nat):Int):=by rw [Int.tmod_eq_emod_of_nonneg (by omega)]; rfl
    simp (maxSteps:=10^6)+contextual(disch:=try exact dqd)only[evs0,simprocAttr,AV.int,AV.bool,AV.str,results164,e0,e1,e2,e6,e7,e8,c1,hz,hm]
    have hlt:=Nat.mod_lt x (by omega:0<y)
    exact IH (y,x % y) _ (by first|omega|(simp only; omega)) ⟨rfl,by rw [<- og,Nat.gcd_comm x y]; exact (Nat.gcd_rec y x).symm ▸ Nat.gcd_comm y (x % y),hy,by first|omega|(dsimp only; omega),by and_intros <;> first|rfl|simp only [getT,List.map_append]⟩
 ·have d1:decide (d<0)=false:=by simpa using hneg
  have a2s:n=N:=by rw [hN,if_neg hneg]
  have hDd:d=(D:Int):=by omega
  subst a2s
  subst hDd
  by_cases jk:n<0
  ·have d2:decide (n<0)=true:=by simpa using jk
   have w3':IntKind.i64.wrap (0 - n)=((n.natAbs:Nat):Int):=by rw [Ad (by unfold i64; omega)]; omega
   simp (maxSteps:=10^6)+contextual(disch:=try exact dqd)only[evs0,simprocAttr,AV.int,AV.bool,AV.str,results164,d1,d2,w3']
   refine Agj (P:=prog) (fun x st=>st.T.length=56/\(x.1.gcd x.2=g)/\(x.1<9223372036854775808)/\(x.2<9223372036854775808)/\getT st.T 0=.ref iq eq 0/\getT st.T 1=.int n/\getT st.T 2=.int (D:Nat)/\getT st.T 6=.ref S.length k 0/\getT st.T 7=.int (x.1:Nat)/\getT st.T 8=.int (x.2:Nat)/\st.S=S++[⟨k,[.int 0,.int 0]⟩]/\st.tk=tk/\st.n=k+1) (fun x=>x.2) (fun x=>(frA r.1,flS S iq eq r.2,tk,k+1)) (n.natAbs,D) ?_ ?_
   case refine_2=>exact ⟨rfl,by rw [hNn,hD,hg],by omega,by omega,rfl,rfl,rfl,rfl,rfl,rfl,rfl,rfl,rfl⟩
   rintro ⟨x,y⟩ ⟨T,S',tk',n'⟩ ⟨hl,og,hx,hy,e0,e1,e2,e6,e7,e8,eS,eT,eN⟩ IH
   simp only at og hx hy e0 e1 e2 e6 e7 e8 eS eT eN
   subst eS eT eN
   obtain ⟨g,hg,hT⟩:=Av hl
   rw [hg] at e0 e1 e2 e6 e7 e8
   subst hT
   clear hg hl
   by_cases h0:y=0
   ·subst h0
    have c1:(((0:Nat):Int) != 0)=false:=rfl
    rw [Nat.gcd_zero_right] at og
    subst og
    by_cases h1:1<x
    ·rw [if_pos h1,if_pos h1] at ae
     have c2:decide ((x:Int) > 1)=true:=by simp; omega
     have hz:¬ ((x:Int)=0):=by omega
     have v1:=Dn n x
     have v2:=Dn (D:Int) x
     have w5:IntKind.i64.wrap (n.tdiv (x:Int))=n.tdiv (x:Int):=Ad (by unfold i64; omega)
     have w6:IntKind.i64.wrap ((D:Int).tdiv (x:Int))=(D:Int).tdiv (x:Int):=Ad (by unfold i64; omega)
     by_cases b1:n.tdiv (x:Int)<=-2147483648
     ·have k1:decide (n.tdiv (x:Int)<=-2147483648)=true:=by simpa using b1
      rw [if_pos (by rw [k1]; rfl)] at ae
      rw [ae]
      simp (maxSteps:=10^6)+contextual(disch:=try exact dqd)only[evs0,simprocAttr,AV.int,AV.bool,AV.str,results164,e0,e1,e2,e6,e7,e8,c1,c2,hz,w5,w6,b9,hE,hP,hT,hA,k1,frA,A5]
     have k1:decide (n.tdiv (x:Int)<=-2147483648)=false:=by simpa using b1
     by_cases b2:n.tdiv (x:Int) >= 2147483648
     ·have k2:decide (n.tdiv (x:Int) >= 2147483648)=true:=by simpa using b2
      rw [if_pos (by rw [k1,k2]; rfl)] at ae
      rw [ae]
      simp (maxSteps:=10^6)+contextual(disch:=try exact dqd)only[evs0,simprocAttr,AV.int,AV.bool,AV.str,results164,e0,e1,e2,e6,e7,e8,c1,c2,hz,w5,w6,b9,hE,hP,hT,hA,k1,k2,frA,A5]
     have k2:decide (n.tdiv (x:Int) >= 2147483648)=false:=by simpa using b2
     by_cases b3:(D:Int).tdiv (x:Int) >= 2147483648
     ·have k3:decide ((D:Int).tdiv (x:Int) >= 2147483648)=true:=by simpa using b3
      rw [if_pos (by rw [k1,k2,k3]; rfl)] at ae
      rw [ae]
      simp (maxSteps:=10^6)+contextual(disch:=try exact dqd)only[evs0,simprocAttr,AV.int,AV.bool,AV.str,results164,e0,e1,e2,e6,e7,e8,c1,c2,hz,w5,w6,b9,hE,hP,hT,hA,k1,k2,k3,frA,A5]
     have k3:decide ((D:Int).tdiv (x:Int) >= 2147483648)=false:=by simpa using b3
     by_cases b4:(D:Int).tdiv (x:Int)=0
     ·have k4:((D:Int).tdiv (x:Int) == 0)=true:=by simpa using b4
      rw [if_pos (by rw [k1,k2,k3,decide_eq_true b4]; rfl)] at ae
      rw [ae]
      simp (maxSteps:=10^6)+contextual(disch:=try exact dqd)only[evs0,simprocAttr,AV.int,AV.bool,AV.str,results164,e0,e1,e2,e6,e7,e8,c1,c2,hz,w5,w6,b9,hE,hP,hT,hA,k1,k2,k3,k4,frA,A5]
     have k4:((D:Int).tdiv (x:Int) == 0)=false:=by simpa using b4
     rw [if_neg (by rw [k1,k2,k3,decide_eq_false b4]; exact Bool.false_ne_true)] at ae
     rw [ae]
     simp (maxSteps:=10^6)+contextual(disch:=try exact dqd)only[evs0,simprocAttr,AV.int,AV.bool,AV.str,results164,e0,e1,e2,e6,e7,e8,c1,c2,hz,w5,w6,b9,k1,k2,k3,k4,frA,Ew]
    ·rw [if_neg h1,if_neg h1] at ae
     have c2:decide ((x:Int) > 1)=false:=by simp; omega
     by_cases b1:n<=-2147483648
     ·have k1:decide (n<=-2147483648)=true:=by simpa using b1
      rw [if_pos (by rw [k1]; rfl)] at ae
      rw [ae]
      simp (maxSteps:=10^6)+contextual(disch:=try exact dqd)only[evs0,simprocAttr,AV.int,AV.bool,AV.str,results164,e0,e1,e2,e6,e7,e8,c1,c2,b9,hE,hP,hT,hA,k1,frA,A5]
     have k1:decide (n<=-2147483648)=false:=by simpa using b1
     by_cases b2:n >= 2147483648
     ·have k2:decide (n >= 2147483648)=true:=by simpa using b2
      rw [if_pos (by rw [k1,k2]; rfl)] at ae
      rw [ae]
      simp (maxSteps:=10^6)+contextual(disch:=try exact dqd)only[evs0,simprocAttr,AV.int,AV.bool,AV.str,results164,e0,e1,e2,e6,e7,e8,c1,c2,b9,hE,hP,hT,hA,k1,k2,frA,A5]
     have k2:decide (n >= 2147483648)=false:=by simpa using b2
     by_cases b3:(D:Int) >= 2147483648
     ·have k3:decide ((D:Int) >= 2147483648)=true:=by simpa using b3
      rw [if_pos (by rw [k1,k2,k3]; rfl)] at ae
      rw [ae]
      simp (maxSteps:=10^6)+contextual(disch:=try exact dqd)only[evs0,simprocAttr,AV.int,AV.bool,AV.str,results164,e0,e1,e2,e6,e7,e8,c1,c2,b9,hE,hP,hT,hA,k1,k2,k3,frA,A5]
     have k3:decide ((D:Int) >= 2147483648)=false:=by simpa using b3
     by_cases b4:(D:Int)=0
     ·have k4:((D:Int) == 0)=true:=by simpa using b4
      rw [if_pos (by rw [k1,k2,k3,decide_eq_true b4]; rfl)] at ae
      rw [ae]
      simp (maxSteps:=10^6)+contextual(disch:=try exact dqd)only[evs0,simprocAttr,AV.int,AV.bool,AV.str,results164,e0,e1,e2,e6,e7,e8,c1,c2,b9,hE,hP,hT,hA,k1,k2,k3,k4,frA,A5]
     have k4:((D:Int) == 0)=false:=by simpa using b4
     rw [if_neg (by rw [k1,k2,k3,decide_eq_false b4]; exact Bool.false_ne_true)] at ae
     rw [ae]
     simp (maxSteps:=10^6)+contextual(disch:=try exact dqd)only[evs0,simprocAttr,AV.int,AV.bool,AV.str,results164,e0,e1,e2,e6,e7,e8,c1,c2,b9,k1,k2,k3,k4,frA,Ew]
   ·have c1:((y:Int) != 0)=true:=by simpa using h0
    have hz:¬ ((y:Int)=0):=by omega
    have hm:(x:Int).tmod (y:Int)=((x % y:Nat):Int):=by rw [Int.tmod_eq_emod_of_nonneg (by omega)]; rfl
    simp (maxSteps:=10^6)+contextual(disch:=try exact dqd)only[evs0,simprocAttr,AV.int,AV.bool,AV.str,results164,e0,e1,e2,e6,e7,e8,c1,hz,hm]
    have hlt:=Nat.mod_lt x (by omega:0<y)
    exact IH (y,x % y) _ (by first|omega|(simp only; omega)) ⟨rfl,by rw [<- og,Nat.gcd_comm x y]; exact (Nat.gcd_rec y x).symm ▸ Nat.gcd_comm y (x % y),hy,by first|omega|(dsimp only; omega),by and_intros <;> first|rfl|simp only [getT,List.map_append]⟩
  ·have d2:decide (n<0)=false:=by simpa using jk
   simp (maxSteps:=10^6)+contextual(disch:=try exact dqd)only[evs0,simprocAttr,AV.int,AV.bool,AV.str,results164,d1,d2]
   obtain ⟨M,hM⟩:∃ M:Nat,n=M:=⟨n.natAbs,by omega⟩
   subst hM
   refine Agj (P:=prog) (fun x st=>st.T.length=56/\(x.1.gcd x.2=g)/\(x.1<9223372036854775808)/\(x.2<9223372036854775808)/\getT st.T 0=.ref iq eq 0/\getT st.T 1=.int (M:Int)/\getT st.T 2=.int (D:Nat)/\getT st.T 6=.ref S.length k 0/\getT st.T 7=.int (x.1:Nat)/\getT st.T 8=.int (x.2:Nat)/\st.S=S++[⟨k,[.int 0,.int 0]⟩]/\st.tk=tk/\st.n=k+1) (fun x=>x.2) (fun x=>(frA r.1,flS S iq eq r.2,tk,k+1)) ((M:Int).natAbs,D) ?_ ?_
   case refine_2=>exact ⟨rfl,by rw [hNn,hD,hg],by omega,by omega,rfl,rfl,rfl,rfl,rfl,rfl,rfl,rfl,rfl⟩
   rintro ⟨x,y⟩ ⟨T,S',tk',n'⟩ ⟨hl,og,hx,hy,e0,e1,e2,e6,e7,e8,eS,eT,eN⟩ IH
   simp only at og hx hy e0 e1 e2 e6 e7 e8 eS eT eN
   subst eS eT eN
   obtain ⟨g,hg,hT⟩:=Av hl
   rw [hg] at e0 e1 e2 e6 e7 e8
   subst hT
   clear hg hl
   by_cases h0:y=0
   ·subst h0
    have c1:(((0:Nat):Int) != 0)=false:=rfl
    rw [Nat.gcd_zero_right] at og
    subst og
    by_cases h1:1<x
    ·rw [if_pos h1,if_pos h1] at ae
     have c2:decide ((x:Int) > 1)=true:=by simp; omega
     have hz:¬ ((x:Int)=0):=by omega
     have v1:=Dn (M:Int) x
     have v2:=Dn (D:Int) x
     have w5:IntKind.i64.wrap ((M:Int).tdiv (x:Int))=(M:Int).tdiv (x:Int):=Ad (by unfold i64; omega)
     have w6:IntKind.i64.wrap ((D:Int).tdiv (x:Int))=(D:Int).tdiv (x:Int):=Ad (by unfold i64; omega)
     by_cases b1:(M:Int).tdiv (x:Int)<=-2147483648
     ·have k1:decide ((M:Int).tdiv (x:Int)<=-2147483648)=true:=by simpa using b1
      rw [if_pos (by rw [k1]; rfl)] at ae
      rw [ae]
      simp (maxSteps:=10^6)+contextual(disch:=try exact dqd)only[evs0,simprocAttr,AV.int,AV.bool,AV.str,results164,e0,e1,e2,e6,e7,e8,c1,c2,hz,w5,w6,b9,hE,hP,hT,hA,k1,frA,A5]
     have k1:decide ((M:Int).tdiv (x:Int)<=-2147483648)=false:=by simpa using b1
     by_cases b2:(M:Int).tdiv (x:Int) >= 2147483648
     ·have k2:decide ((M:Int).tdiv (x:Int) >= 2147483648)=true:=by simpa using b2
      rw [if_pos (by rw [k1,k2]; rfl)] at ae
      rw [ae]
      simp (maxSteps:=10^6)+contextual(disch:=try exact dqd)only[evs0,simprocAttr,AV.int,AV.bool,AV.str,results164,e0,e1,e2,e6,e7,e8,c1,c2,hz,w5,w6,b9,hE,hP,hT,hA,k1,k2,frA,A5]
     have k2:decide ((M:Int).tdiv (x:Int) >= 2147483648)=false:=by simpa using b2
     by_cases b3:(D:Int).tdiv (x:Int) >= 2147483648
     ·have k3:decide ((D:Int).tdiv (x:Int) >= 2147483648)=true:=by simpa using b3
      rw [if_pos (by rw [k1,k2,k3]; rfl)] at ae
      rw [ae]
      simp (maxSteps:=10^6)+contextual(disch:=try exact dqd)only[evs0,simprocAttr,AV.int,AV.bool,AV.str,results164,e0,e1,e2,e6,e7,e8,c1,c2,hz,w5,w6,b9,hE,hP,hT,hA,k1,k2,k3,frA,A5]
     have k3:decide ((D:Int).tdiv (x:Int) >= 2147483648)=false:=by simpa using b3
     by_cases b4:(D:Int).tdiv (x:Int)=0
     ·have k4:((D:Int).tdiv (x:Int) == 0)=true:=by simpa using b4
      rw [if_pos (by rw [k1,k2,k3,decide_eq_true b4]; rfl)] at ae
      rw [ae]
      simp (maxSteps:=10^6)+contextual(disch:=try exact dqd)only[evs0,simprocAttr,AV.int,AV.bool,AV.str,results164,e0,e1,e2,e6,e7,e8,c1,c2,hz,w5,w6,b9,hE,hP,hT,hA,k1,k2,k3,k4,frA,A5]
     have k4:((D:Int).tdiv (x:Int) == 0)=false:=by simpa using b4
     rw [if_neg (by rw [k1,k2,k3,decide_eq_false b4]; exact Bool.false_ne_true)] at ae
     rw [ae]
     simp (maxSteps:=10^6)+contextual(disch:=try exact dqd)only[evs0,simprocAttr,AV.int,AV.bool,AV.str,results164,e0,e1,e2,e6,e7,e8,c1,c2,hz,w5,w6,b9,k1,k2,k3,k4,frA,Ew]
    ·rw [if_neg h1,if_neg h1] at ae
     have c2:decide ((x:Int) > 1)=false:=by simp; omega
     by_cases b1:(M:Int)<=-2147483648
     ·have k1:decide ((M:Int)<=-2147483648)=true:=by simpa using b1
      rw [if_pos (by rw [k1]; rfl)] at ae
      rw [ae]
      simp (maxSteps:=10^6)+contextual(disch:=try exact dqd)only[evs0,simprocAttr,AV.int,AV.bool,AV.str,results164,e0,e1,e2,e6,e7,e8,c1,c2,b9,hE,hP,hT,hA,k1,frA,A5]
     have k1:decide ((M:Int)<=-2147483648)=false:=by simpa using b1
     by_cases b2:(M:Int) >= 2147483648
     ·have k2:decide ((M:Int) >= 2147483648)=true:=by simpa using b2
      rw [if_pos (by rw [k1,k2]; rfl)] at ae
      rw [ae]
      simp (maxSteps:=10^6)+contextual(disch:=try exact dqd)only[evs0,simprocAttr,AV.int,AV.bool,AV.str,results164,e0,e1,e2,e6,e7,e8,c1,c2,b9,hE,hP,hT,hA,k1,k2,frA,A5]
     have k2:decide ((M:Int) >= 2147483648)=false:=by simpa using b2
     by_cases b3:(D:Int) >= 2147483648
     ·have k3:decide ((D:Int) >= 2147483648)=true:=by simpa using b3
      rw [if_pos (by rw [k1,k2,k3]; rfl)] at ae
      rw [ae]
      simp (maxSteps:=10^6)+contextual(disch:=try exact dqd)only[evs0,simprocAttr,AV.int,AV.bool,AV.str,results164,e0,e1,e2,e6,e7,e8,c1,c2,b9,hE,hP,hT,hA,k1,k2,k3,frA,A5]
     have k3:decide ((D:Int) >= 2147483648)=false:=by simpa using b3
     by_cases b4:(D:Int)=0
     ·have k4:((D:Int) == 0)=true:=by simpa using b4
      rw [if_pos (by rw [k1,k2,k3,decide_eq_true b4]; rfl)] at ae
      rw [ae]
      simp (maxSteps:=10^6)+contextual(disch:=try exact dqd)only[evs0,simprocAttr,AV.int,AV.bool,AV.str,results164,e0,e1,e2,e6,e7,e8,c1,c2,b9,hE,hP,hT,hA,k1,k2,k3,k4,frA,A5]
     have k4:((D:Int) == 0)=false:=by simpa using b4
     rw [if_neg (by rw [k1,k2,k3,decide_eq_false b4]; exact Bool.false_ne_true)] at ae
     rw [ae]
     simp (maxSteps:=10^6)+contextual(disch:=try exact dqd)only[evs0,simprocAttr,AV.int,AV.bool,AV.str,results164,e0,e1,e2,e6,e7,e8,c1,c2,b9,k1,k2,k3,k4,frA,Ew]
   ·have c1:((y:Int) != 0)=true:=by simpa using h0
    have hz:¬ ((y:Int)=0):=by omega
    have hm:(x:Int).tmod (y:Int)=((x % y:Nat):Int):=by rw [Int.tmod_eq_emod_of_nonneg (by omega)]; rfl
    simp (maxSteps:=10^6)+contextual(disch:=try exact dqd)only[evs0,simprocAttr,AV.int,AV.bool,AV.str,results164,e0,e1,e2,e6,e7,e8,c1,hz,hm]
    have hlt:=Nat.mod_lt x (by omega:0<y)
    exact IH (y,x % y) _ (by first|omega|(simp only; omega)) ⟨rfl,by rw [<- og,Nat.gcd_comm x y]; exact (Nat.gcd_rec y x).symm ▸ Nat.gcd_comm y (x % y),hy,by first|omega|(dsimp only; omega),by and_intros <;> first|rfl|simp only [getT,List.map_append]⟩
end
end
section
open Go Tryz
theorem L5 {a b:Int} (ha:a.natAbs<2147483648) (hb:b.natAbs<2147483648):(a*b).natAbs<4611686018427387904:=by
 rw [Int.natAbs_mul]
 exact Nat.mul_lt_mul'' ha hb
theorem L1 {a:Q} (h:okS a):a.1.natAbs<2147483648/\a.2.natAbs<2147483648:=by
 obtain ⟨h1,h2,h3,h4⟩:=h
 omega
theorem new3a {S:List Ent} {e2 e3:Ent} {k:Nat} {c:List AV} : entAt (S++[⟨k,c⟩]++[e2]++[e3]) S.length k=some c:=Aa (Aa Bf)
theorem new3b {S:List Ent} {e1 e3:Ent} {k:Nat} {c:List AV} : entAt (S++[e1]++[⟨k,c⟩]++[e3]) (S++[e1]).length k=some c:=Aa Bf
theorem new3c {S S':List Ent} {e1 e2 x1 x2:Ent} {k:Nat} {c:List AV} (h:S'.length=S.length):entAt (S'++[e1]++[e2]++[⟨k,c⟩]) (S++[x1]++[x2]).length k=some c:=Ai (by simp [h])
theorem put3c {S S':List Ent} {e1 e2 x1 x2 e e':Ent} (h:S'.length=S.length):put (S'++[e1]++[e2]++[e]) (S++[x1]++[x2]).length e'=S'++[e1]++[e2]++[e']:=De (by simp [h])
theorem take3 {S S':List Ent} {e1 e2 e3:Ent} (h:S'.length=S.length):(S'++[e1]++[e2]++[e3]).take S.length=S':=by rw [<- h]; simp
theorem flS3 {S:List Ent} {e1 e2 e3:Ent} {iq eq:Nat} {b:Bool} (h:iq<S.length):flS (S++[e1]++[e2]++[e3]) iq eq b=flS S iq eq b++[e1]++[e2]++[e3]:=by
 rw [Ug (by simp; omega),Ug (by simp; omega),Ug h]
theorem new1a {S:List Ent} {k:Nat} {c:List AV} : entAt (S++[⟨k,c⟩]) S.length k=some c:=Bf
section
variable (S:List Ent) (tk:List Nat) (k iq eq:Nat) (fl:Bool)
theorem Zo (a b:Q) (ha:okS a) (hb:okS b) (hq:entAt S iq eq=some [.prim (.bool fl)]):cL prog 158 [.ref iq eq 0,frA a,frA b] S tk k=some (frA (qF.minus a b).1,flS S iq eq (qF.minus a b).2,tk,k+4):=by
 obtain ⟨qp,mz⟩:=L1 ha
 obtain ⟨hb1,hb2⟩:=L1 hb
 obtain ⟨an,ad⟩:=a
 obtain ⟨bn,bd⟩:=b
 simp only at qp mz hb1 hb2
 have p1:=L5 qp hb2
 have p2:=L5 hb1 mz
 have p3:=L5 mz hb2
 have p4:=L5 qp hb1
 have p5:=L5 mz hb1
 have v1:IntKind.i64.wrap (an*bd)=an*bd:=Ad (by unfold i64; omega)
 have v2:IntKind.i64.wrap (bn*ad)=bn*ad:=Ad (by unfold i64; omega)
 have v3:IntKind.i64.wrap (ad*bd)=ad*bd:=Ad (by unfold i64; omega)
 have v4:IntKind.i64.wrap (an*bn)=an*bn:=Ad (by unfold i64; omega)
 have v5:IntKind.i64.wrap (ad*bn)=ad*bn:=Ad (by unfold i64; omega)
 have v6:IntKind.i64.wrap (an*bd - bn*ad)=an*bd - bn*ad:=Ad (by unfold i64; omega)
 have bg:=A7 hq
 have hq3:entAt (S++[⟨k,[.int an,.int ad]⟩]++[⟨k+1,[.int bn,.int bd]⟩]++[⟨k+1+1,[.int 0,.int 0]⟩]) iq eq=some [.prim (.bool fl)]:=Aa (Aa (Aa hq))
 refine opS func158 ntmps158 ?_
 have hN:=Ky _ tk (k+1+1+1) iq eq fl (an*bd - bn*ad) (ad*bd) (by omega) (by omega) hq3
 rw [flS3 bg] at hN
 have di:=Bd (S:=S) (iq:=iq) (eq:=eq) (b:=(qn (an*bd - bn*ad) (ad*bd)).2)
 simp only [frA] at hN
 simp (maxSteps:=10^6)+contextual(disch:=try exact dqd)only[evs0,simprocAttr,AV.int,AV.bool,AV.str,results158,frA,v1,v2,v3,v6,hN,new3a,new3b,new3c di,put3c di,take3 di,qF]
theorem Y6 (a b:Q) (ha:okS a) (hb:okS b) (hq:entAt S iq eq=some [.prim (.bool fl)]):cL prog 162 [.ref iq eq 0,frA a,frA b] S tk k=some (frA (qF.times a b).1,flS S iq eq (qF.times a b).2,tk,k+4):=by
 obtain ⟨qp,mz⟩:=L1 ha
 obtain ⟨hb1,hb2⟩:=L1 hb
 obtain ⟨an,ad⟩:=a
 obtain ⟨bn,bd⟩:=b
 simp only at qp mz hb1 hb2
 have p1:=L5 qp hb2
 have p2:=L5 hb1 mz
 have p3:=L5 mz hb2
 have p4:=L5 qp hb1
 have p5:=L5 mz hb1
 have v1:IntKind.i64.wrap (an*bd)=an*bd:=Ad (by unfold i64; omega)
 have v2:IntKind.i64.wrap (bn*ad)=bn*ad:=Ad (by unfold i64; omega)
 have v3:IntKind.i64.wrap (ad*bd)=ad*bd:=Ad (by unfold i64; omega)
 have v4:IntKind.i64.wrap (an*bn)=an*bn:=Ad (by unfold i64; omega)
 have v5:IntKind.i64.wrap (ad*bn)=ad*bn:=Ad (by unfold i64; omega)
 have v6:IntKind.i64.wrap (an*bd - bn*ad)=an*bd - bn*ad:=Ad (by unfold i64; omega)
 have bg:=A7 hq
 have hq3:entAt (S++[⟨k,[.int an,.int ad]⟩]++[⟨k+1,[.int bn,.int bd]⟩]++[⟨k+1+1,[.int 0,.int 0]⟩]) iq eq=some [.prim (.bool fl)]:=Aa (Aa (Aa hq))
 refine opS func162 ntmps162 ?_
 have hN:=Ky _ tk (k+1+1+1) iq eq fl (an*bn) (ad*bd) (by omega) (by omega) hq3
 rw [flS3 bg] at hN
 have di:=Bd (S:=S) (iq:=iq) (eq:=eq) (b:=(qn (an*bn) (ad*bd)).2)
 simp only [frA] at hN
 simp (maxSteps:=10^6)+contextual(disch:=try exact dqd)only[evs0,simprocAttr,AV.int,AV.bool,AV.str,results162,frA,v3,v4,hN,new3a,new3b,new3c di,put3c di,take3 di,qF]
def Wg (b:Q):Nat:=if b.1=0 then 3 else 4
theorem Adj (a b:Q) (ha:okS a) (hb:okS b) (hq:entAt S iq eq=some [.prim (.bool fl)]):cL prog 159 [.ref iq eq 0,frA a,frA b] S tk k=some (frA (qF.over a b).1,flS S iq eq (qF.over a b).2,tk,k+Wg b):=by
 obtain ⟨qp,mz⟩:=L1 ha
 obtain ⟨hb1,hb2⟩:=L1 hb
 obtain ⟨an,ad⟩:=a
 obtain ⟨bn,bd⟩:=b
 simp only at qp mz hb1 hb2
 have p1:=L5 qp hb2
 have p2:=L5 hb1 mz
 have p3:=L5 mz hb2
 have p4:=L5 qp hb1
 have p5:=L5 mz hb1
 have v1:IntKind.i64.wrap (an*bd)=an*bd:=Ad (by unfold i64; omega)
 have v2:IntKind.i64.wrap (bn*ad)=bn*ad:=Ad (by unfold i64; omega)
 have v3:IntKind.i64.wrap (ad*bd)=ad*bd:=Ad (by unfold i64; omega)
 have v4:IntKind.i64.wrap (an*bn)=an*bn:=Ad (by unfold i64; omega)
 have v5:IntKind.i64.wrap (ad*bn)=ad*bn:=Ad (by unfold i64; omega)
 have v6:IntKind.i64.wrap (an*bd - bn*ad)=an*bd - bn*ad:=Ad (by unfold i64; omega)
 have bg:=A7 hq
 have hq3:entAt (S++[⟨k,[.int an,.int ad]⟩]++[⟨k+1,[.int bn,.int bd]⟩]++[⟨k+1+1,[.int 0,.int 0]⟩]) iq eq=some [.prim (.bool fl)]:=Aa (Aa (Aa hq))
 refine opS func159 ntmps159 ?_
 by_cases hz:bn=0
 ·have d1:(bn == 0)=true:=by simpa using hz
  have kt:qF.over (an,ad) (bn,bd)=((0,1),true):=by simp [qF,hz]
  have hko:Wg (bn,bd)=3:=by simp [Wg,hz]
  have df:∀ e1 e2 e3,put (S++[e1]++[e2]++[e3]) iq ⟨eq,[.prim (.bool true)]⟩=flS S iq eq true++[e1]++[e2]++[e3]:=fun e1 e2 e3=>flS3 (b:=true) bg
  have di:=Bd (S:=S) (iq:=iq) (eq:=eq) (b:=true)
  rw [kt,hko]
  simp (maxSteps:=10^6)+contextual(disch:=try exact dqd)only[evs0,simprocAttr,AV.int,AV.bool,AV.str,results159,frA,d1,hq3,df,new3a,new3b,new3c di,put3c di,take3 di]
 ·have d1:(bn == 0)=false:=by simpa using hz
  have kt:qF.over (an,ad) (bn,bd)=qn (an*bd) (ad*bn):=by simp [qF,hz]
  have hko:Wg (bn,bd)=4:=by simp [Wg,hz]
  have hN:=Ky _ tk (k+1+1+1) iq eq fl (an*bd) (ad*bn) (by omega) (by omega) hq3
  rw [flS3 bg] at hN
  have di:=Bd (S:=S) (iq:=iq) (eq:=eq) (b:=(qn (an*bd) (ad*bn)).2)
  simp only [frA] at hN
  rw [kt,hko]
  simp (maxSteps:=10^6)+contextual(disch:=try exact dqd)only[evs0,simprocAttr,AV.int,AV.bool,AV.str,results159,frA,d1,v1,v5,hN,new3a,new3b,new3c di,put3c di,take3 di]
theorem Zg (n:Int) (hq:entAt S iq eq=some [.prim (.bool fl)]):cL prog 163 [.ref iq eq 0,.int n] S tk k=some (frA (qF.whole n).1,flS S iq eq (qF.whole n).2,tk,k+1):=by
 have bg:=A7 hq
 have b9:entAt (S++[⟨k,[.int 0,.int 0]⟩]) iq eq=some [.prim (.bool fl)]:=Aa hq
 have di:(put S iq ⟨eq,[.prim (.bool true)]⟩).length=S.length:=Ah
 have hE:=fun cs=>Ai (k:=k) (cs:=cs) di
 have hP:=fun e e'=>De (e:=e) (e':=e') di
 have hT:=fun L=>Je (L:=L) di
 have hA:=fun L x=>Dd (L:=L) (x:=x) bg
 refine opS func163 ntmps163 ?_
 by_cases b1:n<=-2147483648
 ·have k1:decide (n<=-2147483648)=true:=by simpa using b1
  have hr:qF.whole n=((0,1),true):=by simp [qF,b1]
  rw [hr]
  simp (maxSteps:=10^6)+contextual(disch:=try exact dqd)only[evs0,simprocAttr,AV.int,AV.bool,AV.str,results163,frA,A5,k1,b9,hE,hP,hT,hA]
 have k1:decide (n<=-2147483648)=false:=by simpa using b1
 by_cases b2:n >= 2147483648
 ·have k2:decide (n >= 2147483648)=true:=by simpa using b2
  have hr:qF.whole n=((0,1),true):=by simp only [qF]; rw [if_pos (.inr b2)]
  rw [hr]
  simp (maxSteps:=10^6)+contextual(disch:=try exact dqd)only[evs0,simprocAttr,AV.int,AV.bool,AV.str,results163,frA,A5,k1,k2,b9,hE,hP,hT,hA]
 have k2:decide (n >= 2147483648)=false:=by simpa using b2
 have hr:qF.whole n=((n,1),false):=by simp only [qF]; rw [if_neg (by omega)]
 rw [hr]
 simp (maxSteps:=10^6)+contextual(disch:=try exact dqd)only[evs0,simprocAttr,AV.int,AV.bool,AV.str,results163,frA,Ew,k1,k2,b9]
theorem Adp (a:Q) (hq:entAt S iq eq=some [.prim (.bool fl)]):cL prog 161 [.ref iq eq 0,frA a] S tk k=some (.int (sgn a),S,tk,k+1):=by
 obtain ⟨an,ad⟩:=a
 refine opS func161 ntmps161 ?_
 by_cases h1:an<0
 ·have k1:decide (an<0)=true:=by simpa using h1
  have hr:sgn (an,ad)=-1:=by simp [sgn,h1]
  rw [hr]
  simp (maxSteps:=10^6)+contextual(disch:=try exact dqd)only[evs0,simprocAttr,AV.int,AV.bool,AV.str,results161,frA,k1,new1a,Hb]
 have k1:decide (an<0)=false:=by simpa using h1
 by_cases h2:an > 0
 ·have k2:decide (an > 0)=true:=by simpa using h2
  have hr:sgn (an,ad)=1:=by simp only [sgn]; rw [if_neg h1,if_pos h2]
  rw [hr]
  simp (maxSteps:=10^6)+contextual(disch:=try exact dqd)only[evs0,simprocAttr,AV.int,AV.bool,AV.str,results161,frA,k1,k2,new1a,Hb]
 have k2:decide (an > 0)=false:=by simpa using h2
 have hr:sgn (an,ad)=0:=by simp only [sgn]; rw [if_neg h1,if_neg h2]
 rw [hr]
 simp (maxSteps:=10^6)+contextual(disch:=try exact dqd)only[evs0,simprocAttr,AV.int,AV.bool,AV.str,results161,frA,k1,k2,new1a,Hb]
theorem Zd (hq:entAt S iq eq=some [.prim (.bool fl)]):cL prog 157 [.ref iq eq 0] S tk k=some (.bool (!fl),S,tk,k):=by
 refine opS func157 ntmps157 ?_
 simp (maxSteps:=10^6)+contextual(disch:=try exact dqd)only[evs0,simprocAttr,AV.int,AV.bool,AV.str,results157,hq]
theorem Of_z (n d:Int) (hn:(dig n.natAbs).length<=200) (hd:(dig d.natAbs).length<=200):cL prog 165 [zA n,zA d] S tk k=some (resQ n d,S,tk,k):=by
 have h:=Aox S tk k (decide (n<0)) (dig n.natAbs) (decide (d<0)) (dig d.natAbs) (by omega) (by omega)
 unfold ofQ at h
 rw [V_of _ hn,V_of _ hd] at h
 by_cases h0:Eb (decide (n<0)) (dig n.natAbs)=true
 ·rw [if_pos h0] at h; exact h
 ·exact absurd (Pq n hn) h0
theorem digS {n:Int} (h:n.natAbs<2147483648):(dig n.natAbs).length<=200:=by
 refine Bo.2 ?_
 have:n.natAbs<10000 ^ 5:=by omega
 exact Nat.lt_of_lt_of_le this (Nat.pow_le_pow_right (by omega) (by omega))
theorem Tj (a:Q) (ha:okS a) (_:entAt S iq eq=some [.prim (.bool fl)]):cL prog 160 [.ref iq eq 0,frA a] S tk k=some (qA (resN a.1 a.2) (resD a.1 a.2),S,tk,k+3):=by
 obtain ⟨qp,mz⟩:=L1 ha
 obtain ⟨an,ad⟩:=a
 simp only at qp mz
 have h1:=fun S tk k=>Qk S tk k an (by unfold i64; omega)
 have h2:=fun S tk k=>Qk S tk k ad (by unfold i64; omega)
 have h3:=fun S tk k=>Of_z S tk k an ad (digS qp) (digS mz)
 simp only [zA,bigA,digA] at h1 h2 h3
 simp only [resQ,qA,ratA,digA] at h3 ⊢
 refine opS func160 ntmps160 ?_
 simp (maxSteps:=10^6)+contextual(disch:=try exact dqd)only[evs1,simprocAttr,AV.int,AV.bool,AV.str,results160,frA,digA,h1,h2,h3,new1a,Hb]
 rw [take3 rfl]
end
end
section
open Go Tryz
def raA (a:Q):AV:=qA a.1 a.2
section
variable (S:List Ent) (tk:List Nat) (k:Nat)
theorem Ac0 (a b:Q) (ha:okW a) (hb:okW b):cL prog 184 [.agg [],raA a,raA b] S tk k=some (raA (wF.minus a b).1,S,tk,k):=by
 obtain ⟨l1,l2⟩:=Lu ha
 obtain ⟨l3,l4⟩:=Lu hb
 obtain ⟨g1,g2⟩:=qz_n ha
 obtain ⟨g3,g4⟩:=qz_n hb
 obtain ⟨an,ad⟩:=a
 obtain ⟨bn,bd⟩:=b
 simp only at l1 l2 l3 l4 g1 g2 g3 g4
 have hJ:=fun S tk k=>Akm S tk k (decide (an<0)) (dig an.natAbs) (decide (ad<0)) (dig ad.natAbs) (decide (bn<0)) (dig bn.natAbs) (decide (bd<0)) (dig bd.natAbs) (by omega) (by omega) (by omega) (by omega)
 rw [g1,g2,g3,g4] at hJ
 refine opP func184 ntmps184 (hp3:=rfl) ?_
 simp only [resQ,raA,qA,ratA,digA] at hJ ⊢
 simp (maxSteps:=10^6)+contextual(disch:=try exact dqd)only[ev1,simprocAttr,AV.int,AV.bool,AV.str,results184,raA,qA,ratA,digA,wF,wn,hJ]
 exact ⟨rfl,rfl⟩
theorem Ac1 (a b:Q) (ha:okW a) (hb:okW b):cL prog 188 [.agg [],raA a,raA b] S tk k=some (raA (wF.times a b).1,S,tk,k):=by
 obtain ⟨l1,l2⟩:=Lu ha
 obtain ⟨l3,l4⟩:=Lu hb
 obtain ⟨g1,g2⟩:=qz_n ha
 obtain ⟨g3,g4⟩:=qz_n hb
 obtain ⟨an,ad⟩:=a
 obtain ⟨bn,bd⟩:=b
 simp only at l1 l2 l3 l4 g1 g2 g3 g4
 have hJ:=fun S tk k=>Amk S tk k (decide (an<0)) (dig an.natAbs) (decide (ad<0)) (dig ad.natAbs) (decide (bn<0)) (dig bn.natAbs) (decide (bd<0)) (dig bd.natAbs) (by omega) (by omega) (by omega) (by omega)
 rw [g1,g2,g3,g4] at hJ
 refine opP func188 ntmps188 (hp3:=rfl) ?_
 simp only [resQ,raA,qA,ratA,digA] at hJ ⊢
 simp (maxSteps:=10^6)+contextual(disch:=try exact dqd)only[ev1,simprocAttr,AV.int,AV.bool,AV.str,results188,raA,qA,ratA,digA,wF,wn,hJ]
 exact ⟨rfl,rfl⟩
theorem Aec (a b:Q) (ha:okW a) (hb:okW b):cL prog 185 [.agg [],raA a,raA b] S tk k=some (raA (wF.over a b).1,S,tk,k):=by
 obtain ⟨l1,l2⟩:=Lu ha
 obtain ⟨l3,l4⟩:=Lu hb
 obtain ⟨g1,g2⟩:=qz_n ha
 obtain ⟨g3,g4⟩:=qz_n hb
 obtain ⟨an,ad⟩:=a
 obtain ⟨bn,bd⟩:=b
 simp only at l1 l2 l3 l4 g1 g2 g3 g4
 have hJ:=fun S tk k=>Aml S tk k (decide (an<0)) (dig an.natAbs) (decide (ad<0)) (dig ad.natAbs) (decide (bn<0)) (dig bn.natAbs) (decide (bd<0)) (dig bd.natAbs) (by omega) (by omega) (by omega) (by omega)
 rw [g1,g2,g3,g4] at hJ
 refine opP func185 ntmps185 (hp3:=rfl) ?_
 simp only [resQ,raA,qA,ratA,digA] at hJ ⊢
 simp (maxSteps:=10^6)+contextual(disch:=try exact dqd)only[ev1,simprocAttr,AV.int,AV.bool,AV.str,results185,raA,qA,ratA,digA,wF,wn,hJ]
 exact ⟨rfl,rfl⟩
theorem Adu (n:Int) (hn:i64 n):cL prog 189 [.agg [],.int n] S tk k=some (raA (wF.whole n).1,S,tk,k):=by
 have hJ:=fun S tk k=>Rm S tk k n hn
 refine opP func189 ntmps189 (hp3:=rfl) ?_
 simp only [raA,qA,ratA,digA,wF] at hJ ⊢
 simp (maxSteps:=10^6)+contextual(disch:=try exact dqd)only[ev1,simprocAttr,AV.int,AV.bool,AV.str,results189,raA,qA,ratA,digA,wF,hJ]
 first|rfl|exact ⟨rfl,rfl⟩
theorem Afh (a:Q) (ha:okW a):cL prog 187 [.agg [],raA a] S tk k=some (.int (sgn a),S,tk,k):=by
 have hI:=fun S tk k=>Rm S tk k 0 (by unfold i64; omega)
 obtain ⟨l1,l2⟩:=Lu ha
 obtain ⟨g1,g2⟩:=qz_n ha
 have mr:=Apl ha
 obtain ⟨an,ad⟩:=a
 simp only at l1 l2 g1 g2
 have g0:H4 0 1:=Wj
 have hJ:=fun S tk k=>Am2 S tk k (decide (an<0)) (dig an.natAbs) (decide (ad<0)) (dig ad.natAbs) (decide ((0:Int)<0)) (dig (0:Int).natAbs) (decide ((1:Int)<0)) (dig (1:Int).natAbs) (by omega) (by omega) (by decide +kernel) (by decide +kernel)
 rw [g1,g2,g0.nQ,g0.dQ] at hJ
 have hs:cmpZ ((qz (an,ad)).1*1) (0*(qz (an,ad)).2)=sgn (an,ad):=by rw [<- mr]; simp only [cmpZ,sgn,Int.mul_one,Int.zero_mul]
 rw [hs] at hJ
 refine opP func187 ntmps187 (hp3:=rfl) ?_
 have z1:decide ((0:Int)<0)=false:=rfl
 have z2:decide ((1:Int)<0)=false:=rfl
 have z3:(0:Int).natAbs=0:=rfl
 have z4:(1:Int).natAbs=1:=rfl
 simp only [raA,qA,ratA,digA,z1,z2,z3,z4] at hI hJ ⊢
 simp (maxSteps:=10^6)+contextual(disch:=try exact dqd)only[ev1,simprocAttr,AV.int,AV.bool,AV.str,results187,raA,qA,ratA,digA,hI,hJ]
theorem V0 (a:Q):cL prog 186 [.agg [],raA a] S tk k=some (raA a,S,tk,k):=by
 refine opP func186 ntmps186 (hp3:=rfl) ?_
 simp (maxSteps:=10^6)+contextual(disch:=try exact dqd)only[ev1,simprocAttr,AV.int,AV.bool,AV.str,results186,raA,qA,ratA,digA]
theorem Adh:cL prog 183 [.agg []] S tk k=some (.bool true,S,tk,k):=by
 refine opP func183 ntmps183 (hp3:=rfl) ?_
 simp (maxSteps:=10^6)+contextual(disch:=try exact dqd)only[ev1,simprocAttr,AV.int,AV.bool,AV.str,results183]
end
end
section
open Go
section
variable {P:Program} {fn:Func} {k:List Kont}
abbrev Rs:=AV × List Ent × List Nat × Nat
def Gd (fin:Option (AV × St)->Option Rs) (Φ:Rs->Prop) (x:Option (AV × St)):Prop:=∃ r,fin x=some r/\Φ r
theorem Apm {m:Nat} {Φ:Rs->Prop} {t:Bool} {a b:Option (AV × St)} {tg:Tag (a,b)} : Gd (finS m) Φ (BR (some t) a b tg)↔(t=true->Gd (finS m) Φ a)/\(t=false->Gd (finS m) Φ b):=by
 cases t <;> simp [BR,br]
theorem Apa {Φ:Rs->Prop} {t:Bool} {a b:Option (AV × St)} {tg:Tag (a,b)} : Gd finM Φ (BR (some t) a b tg)↔(t=true->Gd finM Φ a)/\(t=false->Gd finM Φ b):=by
 cases t <;> simp [BR,br]
theorem Aiv {m:Nat} {Φ:Rs->Prop} {r:AV} {s:St} : Gd (finS m) Φ (some (r,s))↔Φ (fz3 m s.S r,s.S.take m,s.tk,s.n):=by simp [Gd,finS]
theorem Ai9 {Φ:Rs->Prop} {r:AV} {s:St} : Gd finM Φ (some (r,s))↔Φ (r,s.S,s.tk,s.n):=by simp [Gd,finM]
theorem Ef [Globs] [Ext P] {ι:Type} {c:Code} {fin:Option (AV × St)->Option Rs} {Φ:Rs->Prop} {tg:Tag (Code.loop c,k)} (I:ι->St->Prop) (μ:ι->Nat) (x:ι)
  (h:∀ x st,I x st->(∀ y st',μ y<μ x->I y st'->Gd fin Φ (KX P fn (.loop c) st' k .mk))->Gd fin Φ (KX P fn c st (.loop c st.S.length :: k) .mk)) {st:St} (h0:I x st):Gd fin Φ (KX P fn (.loop c) st k tg):=by
 have key:∀ n x st,μ x=n->I x st->Gd fin Φ (KX P fn (.loop c) st k .mk):=by
  intro n
  induction n using Nat.strongRecOn with
  | _ n ih =>
   intro x st hn hI
   show Gd fin Φ (RK P fn (.loop c) st k)
   rw [Zt]
   exact h x st hI fun y st' hlt hy=>ih (μ y) (hn ▸ hlt) y st' rfl hy
 exact key _ x st rfl h0
theorem V4 [Globs] [Ext P] {f : FuncId} {c : Code} (hf : P.funcs[f]? = some fn) (hx : (Ext.on P f || Ext.mv P f) = false) (hb : fn.body = some c) (aq : (fn.name == "runtime.NumGoroutine") = false) {args : List AV} {nt : Nat} (j6 : fn.ntmps = nt) (hp : (args.map w2).all pure2 = false) {S : List Ent} {tk : List Nat} {n : Nat} {Φ : Rs → Prop}
  (h:Gd (finS S.length) Φ (RK P fn c ⟨args++bots (nt - args.length),S,tk,n⟩ [])):∃ r,cL P f args S tk n=some r/\Φ r:=by
 obtain ⟨r,h1,h2⟩:=h
 exact ⟨r,R3 hf hx hb aq j6 hp h1,h2⟩
theorem Ajx [Globs] [Ext P] {f : FuncId} {c : Code} (hf : P.funcs[f]? = some fn) (hx : (!Ext.on P f && Ext.mv P f) = true) (hb : fn.body = some c) (aq : (fn.name == "runtime.NumGoroutine") = false) {args : List AV} {nt : Nat} (j6 : fn.ntmps = nt) {S : List Ent} {tk : List Nat} {n : Nat} {Φ : Rs → Prop}
  (h:Gd finM Φ (RK P fn c ⟨args++bots (nt - args.length),S,tk,n⟩ [])):∃ r,cL P f args S tk n=some r/\Φ r:=by
 obtain ⟨r,h1,h2⟩:=h
 exact ⟨r,Amm hf hx hb aq j6 h1,h2⟩
end
section
variable {P:Program} {fn:Func} [Globs] [Ext P] {f:FuncId} {c:Code} {args:List AV} {nt:Nat} {S:List Ent} {tk:List Nat} {n:Nat} {Φ:Rs->Prop}
theorem opG (hf : P.funcs[f]? = some fn) (j6 : fn.ntmps = nt) (h : Gd (finS S.length) Φ (KX P fn c ⟨args ++ bots (nt - args.length), S, tk, n⟩ [] .mk)) (hx : (Ext.on P f || Ext.mv P f) = false := by exact rfl) (hb : fn.body = some c := by exact rfl) (aq : (fn.name == "runtime.NumGoroutine") = false := by decide +kernel) (hp : (args.map w2).all pure2 = false := by exact rfl) : ∃ r, cL P f args S tk n = some r ∧ Φ r := V4 hf hx hb aq j6 hp h
theorem opM (hf : P.funcs[f]? = some fn) (j6 : fn.ntmps = nt) (h : Gd finM Φ (KX P fn c ⟨args ++ bots (nt - args.length), S, tk, n⟩ [] .mk)) (hx : (!Ext.on P f && Ext.mv P f) = true := by exact rfl) (hb : fn.body = some c := by exact rfl) (aq : (fn.name == "runtime.NumGoroutine") = false := by decide +kernel) : ∃ r, cL P f args S tk n = some r ∧ Φ r := Ajx hf hx hb aq j6 h
end
set_option linter.defProp false in
def evg1:=And.intro @Apm <| And.intro @Apa <| And.intro @Aiv <| And.intro @Ai9 evs1
/- rows of cells -/
theorem Mj {sz:Nat} : ∀ {e r:List AV},e.length=sz->takeN sz (e++r)=some e:=by
 induction sz with
 | zero=>intro e r h; rw [List.length_eq_zero_iff.1 h]; rfl
 | succ n ih =>
  intro e r h
  cases e with
  | nil=>simp at h
  | cons x e=>simp only [List.cons_append,takeN,ih (by simpa using h),Option.map_some]
theorem Ps {e':List AV} : ∀ {e r:List AV},e.length=e'.length->over (e++r) 0 e'=some (e'++r):=by
 induction e' with
 | nil=>intro e r h; rw [List.length_eq_zero_iff.1 h]; simp [over]
 | cons x e' ih =>
  intro e r h
  cases e with
  | nil=>simp at h
  | cons y e=>simp only [List.cons_append,over,ih (by simpa using h),Option.map_some]
section
variable {sz:Nat}
theorem Wp:∀ {es:List (List AV)} {k:Nat} {e:List AV},(∀ e ∈ es,e.length=sz)->nth es k=some e->takeN sz (es.flatten.drop (k*sz))=some e
 | x :: es,0,e,h,hk=>by
  simp only [nth,Option.some.injEq] at hk
  subst hk
  simp only [Nat.zero_mul,List.drop_zero,List.flatten_cons]
  exact Mj (h _ (by simp))
 | x :: es,k+1,e,h,hk=>by
  have hx:=h x (by simp)
  have e1:(k+1)*sz=x.length+k*sz:=by rw [hx,Nat.succ_mul,Nat.add_comm]
  rw [e1,List.flatten_cons,List.drop_append]
  simp only [Nat.add_sub_cancel_left]
  rw [List.drop_eq_nil_of_le (by omega),List.nil_append]
  exact Wp (fun e he=>h e (by simp [he])) hk
 | [],_,_,_,hk=>by simp [nth] at hk
theorem Mg:∀ {es:List (List AV)} {k:Nat} {e e':List AV},(∀ e ∈ es,e.length=sz)->nth es k=some e->e'.length=sz->over es.flatten (k*sz) e'=some (put es k e').flatten
 | x :: es,0,e,e',h,_,he=>by
  simp only [Nat.zero_mul,List.flatten_cons,put]
  exact Ps (by rw [h x (by simp),he])
 | x :: es,k+1,e,e',h,hk,he=>by
  have hx:=h x (by simp)
  have e1:(k+1)*sz=x.length+k*sz:=by rw [hx,Nat.succ_mul,Nat.add_comm]
  have ih:=Mg (es:=es) (k:=k) (fun e he=>h e (by simp [he])) hk he
  have gen:∀ (p cs:List AV) (o:Nat) (r:List AV),over cs o e'=some r->over (p++cs) (p.length+o) e'=some (p++r):=by
   intro p
   induction p with
   | nil=>intro cs o r h; simpa using h
   | cons y p ih =>
    intro cs o r h
    have:=ih cs o r h
    have e2:(y :: p).length+o=(p.length+o)+1:=by simp; omega
    rw [e2]
    cases e' <;> simp only [List.cons_append,over,this,Option.map_some]
  rw [e1,List.flatten_cons]
  simp only [put,List.flatten_cons]
  exact gen x _ _ _ ih
 | [],_,_,_,_,hk,_=>by simp [nth] at hk
end
def flat (ce:Q->List AV) (l:List Q):List AV:=(l.map ce).flatten
section
variable {ce:Q->List AV} {sz:Nat} (hce:∀ q,(ce q).length=sz)
include hce
theorem Ar {l:List Q} {k:Nat} {q:Q} (h:nth l k=some q):takeN sz ((flat ce l).drop (k*sz))=some (ce q):=by
 unfold flat
 refine Wp (fun e he=>?_) ?_
 ·obtain ⟨x,-,rfl⟩:=List.mem_map.1 he
  exact hce x
 ·rw [Ae] at h ⊢; rw [List.getElem?_map,h]; rfl
theorem A4 {l:List Q} {k:Nat} {q':Q} (h:k<l.length):over (flat ce l) (k*sz) (ce q')=some (flat ce (put l k q')):=by
 unfold flat
 rw [<- R2]
 refine Mg (e:=ce l[k]) (fun e he=>?_) ?_ (hce q')
 ·obtain ⟨x,-,rfl⟩:=List.mem_map.1 he
  exact hce x
 ·rw [Ae,List.getElem?_map,List.getElem?_eq_getElem h]; rfl
end
end
section
open Go Tryz
def ceQ (a:Q):List AV:=[.int a.1,.int a.2]
def ceW (a:Q):List AV:=[.prim (.bool (decide (a.1<0))),digA (dig a.1.natAbs),.prim (.bool (decide (a.2<0))),digA (dig a.2.natAbs)]
theorem Ao (a:Q):(ceQ a).length=2:=rfl
theorem Ap (a:Q):(ceW a).length=4:=rfl
theorem Bg (a:Q):(ceQ a).all leafOk=true:=rfl
theorem A9 (a:Q):(ceW a).all leafOk=true:=rfl
theorem Ala (m:Nat) (S:List Ent) (a:Q):(ceQ a).map (fz1 m S)=ceQ a:=rfl
theorem Ag2 (m:Nat) (S:List Ent) (a:Q):(ceW a).map (fz1 m S)=ceW a:=rfl
theorem ovQ (a:Q):over [.int 0,.int 0] 0 (ceQ a)=some (ceQ a):=rfl
theorem ovQ2 (a b:Q):over (ceQ b) 0 (ceQ a)=some (ceQ a):=rfl
theorem ovW (a:Q):over [.prim (.bool false),.frz [] .nilc,.prim (.bool false),.frz [] .nilc] 0 (ceW a)=some (ceW a):=rfl
theorem ovW2 (a b:Q):over (ceW b) 0 (ceW a)=some (ceW a):=rfl
theorem tkQ (a:Q):takeN 2 (ceQ a)=some (ceQ a):=rfl
theorem tkW (a:Q):takeN 4 (ceW a)=some (ceW a):=rfl
theorem puQ (a:Q):((ceQ a).map w1).all pure1=true:=rfl
theorem puW (a:Q):((ceW a).map w1).all pure1=true:=rfl
theorem Qo (a:Q):(ceW a).all pure1=true:=rfl
theorem T5 (a:Q):(ceW a).map w1=ceW a:=rfl
def FAq (S:List Ent) (iq eq:Nat) (b:Bool):Prop:=entAt S iq eq=some [.prim (.bool b)]
structure FAw (_:List Ent) (_ _:Nat) (_:Bool):Prop where
def flW (S:List Ent) (_ _:Nat) (_:Bool):List Ent:=S
theorem Eg {S:List Ent} {iq eq:Nat} {b c:Bool} (_:FAw S iq eq b):gO S (flW S iq eq c)=some ():=gO_refl
theorem D4 {S:List Ent} {iq eq:Nat} {b c:Bool} (h:FAq S iq eq b):gO S (flS S iq eq c)=some ():=Apg h
theorem FAq.fS {S:List Ent} {iq eq:Nat} {b c:Bool} (h:FAq S iq eq b):FAq (flS S iq eq c) iq eq (b || c):=Ae7 h
theorem FAw.fS {S:List Ent} {iq eq:Nat} {b c:Bool} (_:FAw S iq eq b):FAw (flW S iq eq c) iq eq (b || c):=⟨⟩
theorem FAq.app {S L:List Ent} {iq eq:Nat} {b:Bool} (h:FAq S iq eq b):FAq (S++L) iq eq b:=Aa h
theorem FAw.app {S L:List Ent} {iq eq:Nat} {b:Bool} (_:FAw S iq eq b):FAw (S++L) iq eq b:=⟨⟩
theorem Gp {S L:List Ent} {iq eq:Nat} {b c:Bool} (h:FAq S iq eq c):flS (S++L) iq eq b=flS S iq eq b++L:=Ug (A7 h)
theorem Ha {S L:List Ent} {iq eq:Nat} {b c:Bool} (_:FAw S iq eq c):flW (S++L) iq eq b=flW S iq eq b++L:=rfl
theorem Bq {S:List Ent} {iq eq:Nat} {b:Bool} : (flW S iq eq b).length=S.length:=rfl
theorem Bi {S:List Ent} {iq eq j:Nat} {b:Bool} (_:j≠iq):nth (flW S iq eq b) j=nth S j:=rfl
theorem FAq.put {S:List Ent} {iq eq i:Nat} {b:Bool} {x:Ent} (h:FAq S iq eq b) (hne:i≠iq):FAq (put S i x) iq eq b:=by unfold FAq; rw [Aj hne]; exact h
theorem FAw.put {S:List Ent} {iq eq i:Nat} {b:Bool} {x:Ent} (_:FAw S iq eq b) (_:i≠iq):FAw (put S i x) iq eq b:=⟨⟩
theorem FAq.of {S S':List Ent} {iq eq:Nat} {b:Bool} (h:FAq S iq eq b) (hne:nth S' iq=nth S iq):FAq S' iq eq b:=by unfold FAq; rw [Ab hne]; exact h
theorem FAw.of {S S':List Ent} {iq eq:Nat} {b:Bool} (_:FAw S iq eq b) (_:nth S' iq=nth S iq):FAw S' iq eq b:=⟨⟩
section
variable (S:List Ent) (tk:List Nat) (k iq eq:Nat) (fl:Bool)
theorem J4 (a b:Q) (ha:qF.ok a) (hb:qF.ok b) (hq:FAq S iq eq fl):cL prog 158 [.ref iq eq 0,.agg (ceQ a),.agg (ceQ b)] S tk k=some (.agg (ceQ (qF.minus a b).1),flS S iq eq (qF.minus a b).2,tk,k+4):=Zo S tk k iq eq fl a b ha hb hq
theorem Aaz (a b:Q) (ha:qF.ok a) (hb:qF.ok b) (hq:FAq S iq eq fl):cL prog 162 [.ref iq eq 0,.agg (ceQ a),.agg (ceQ b)] S tk k=some (.agg (ceQ (qF.times a b).1),flS S iq eq (qF.times a b).2,tk,k+4):=Y6 S tk k iq eq fl a b ha hb hq
theorem Aog (a b:Q) (ha:qF.ok a) (hb:qF.ok b) (hq:FAq S iq eq fl):cL prog 159 [.ref iq eq 0,.agg (ceQ a),.agg (ceQ b)] S tk k=some (.agg (ceQ (qF.over a b).1),flS S iq eq (qF.over a b).2,tk,k+Wg b):=Adj S tk k iq eq fl a b ha hb hq
theorem Hz (n:Int) (_:i64 n) (hq:FAq S iq eq fl):cL prog 163 [.ref iq eq 0,.int n] S tk k=some (.agg (ceQ (qF.whole n).1),flS S iq eq (qF.whole n).2,tk,k+1):=Zg S tk k iq eq fl n hq
theorem Wk (a:Q) (_:qF.ok a) (hq:FAq S iq eq fl):cL prog 161 [.ref iq eq 0,.agg (ceQ a)] S tk k=some (.int (sgn a),S,tk,k+1):=Adp S tk k iq eq fl a hq
theorem Q4 (hq:FAq S iq eq fl):cL prog 157 [.ref iq eq 0] S tk k=some (.bool (!(qF.stop && fl)),S,tk,k):=Zd S tk k iq eq fl hq
theorem Abb (_:FAw S iq eq fl):cL prog 183 [.agg []] S tk k=some (.bool (!(wF.stop && fl)),S,tk,k):=Adh S tk k
theorem Mr (a:Q) (ha:qF.ok a) (hq:FAq S iq eq fl):cL prog 160 [.ref iq eq 0,.agg (ceQ a)] S tk k=some (.agg (ceW (qF.rat a)),S,tk,k+3):=Tj S tk k iq eq fl a ha hq
theorem R4 (a:Q) (_:wF.ok a) (_:FAw S iq eq fl):cL prog 186 [.agg [],.agg (ceW a)] S tk k=some (.agg (ceW (wF.rat a)),S,tk,k+0):=V0 S tk k a
def Ahs (_:Q):Nat:=0
theorem Lo (a b:Q) (ha:wF.ok a) (hb:wF.ok b) (_:FAw S iq eq fl):cL prog 184 [.agg [],.agg (ceW a),.agg (ceW b)] S tk k=some (.agg (ceW (wF.minus a b).1),flW S iq eq (wF.minus a b).2,tk,k+0):=Ac0 S tk k a b ha hb
theorem Aaw (a b:Q) (ha:wF.ok a) (hb:wF.ok b) (_:FAw S iq eq fl):cL prog 188 [.agg [],.agg (ceW a),.agg (ceW b)] S tk k=some (.agg (ceW (wF.times a b).1),flW S iq eq (wF.times a b).2,tk,k+0):=Ac1 S tk k a b ha hb
theorem Apv (a b:Q) (ha:wF.ok a) (hb:wF.ok b) (_:FAw S iq eq fl):cL prog 185 [.agg [],.agg (ceW a),.agg (ceW b)] S tk k=some (.agg (ceW (wF.over a b).1),flW S iq eq (wF.over a b).2,tk,k+Ahs b):=Aec S tk k a b ha hb
theorem Kd (n:Int) (hn:i64 n) (_:FAw S iq eq fl):cL prog 189 [.agg [],.int n] S tk k=some (.agg (ceW (wF.whole n).1),flW S iq eq (wF.whole n).2,tk,k+0):=Adu S tk k n hn
theorem Zz (a:Q) (ha:wF.ok a) (_:FAw S iq eq fl):cL prog 187 [.agg [],.agg (ceW a)] S tk k=some (.int (sgn a),S,tk,k+0):=Afh S tk k a ha
end
/- the algorithm -/
def Ji (F:Fld) (b a r:Q):Q × Bool:=if sgn r=0 then (a,false) else ((F.minus a (F.times b r).1).1,(F.times b r).2 || (F.minus a (F.times b r).1).2)
def lessL (F:Fld) (b:Q):List Q->List Q->List Q × Bool
 | a :: l,r :: m=>((Ji F b a r).1 :: (lessL F b l m).1,(Ji F b a r).2 || (lessL F b l m).2)
 | l,_=>(l,false)
def lessT (F:Fld) (a r:List Q) (c:Nat):List Q × Bool:=match nth a c with|some b=>if sgn b=0 then (a,false) else lessL F b a r|none=>(a,false)
theorem Ee {α:Type} {p u:List α} {x:α} : nth (p++x :: u) p.length=some x:=by
 rw [Ae,List.getElem?_append_right (Nat.le_refl _),Nat.sub_self]; rfl
theorem Ge {α:Type} {p u:List α} {x y:α} : put (p++x :: u) p.length y=p++y :: u:=by
 rw [Rl,List.set_append_right _ _ (Nat.le_refl _),Nat.sub_self]; rfl
def okL (F:Fld) (l:List Q):Prop:=∀ q ∈ l,F.ok q
theorem Ais {F:Fld} (hF:F.Keeps) {b a r:Q} (hb:F.ok b) (ha:F.ok a) (hr:F.ok r):F.ok (Ji F b a r).1:=by
 unfold Ji
 split
 ·exact ha
 ·exact hF.minus _ _ ha (hF.times _ _ hb hr)
theorem Mu {F:Fld} {b:Q} : ∀ {l m:List Q},(lessL F b l m).1.length=l.length
 | [],_=>by simp [lessL]
 | a :: l,[]=>rfl
 | a :: l,r :: m=>by simp only [lessL,List.length_cons,Mu]
theorem Vc {F:Fld} (hF:F.Keeps) {b:Q} (hb:F.ok b):∀ {l m:List Q},okL F l->okL F m->okL F (lessL F b l m).1
 | [],_,h,_=>by simpa [lessL] using h
 | a :: l,[],h,_=>h
 | a :: l,r :: m,h,h'=>by
  intro q hq
  simp only [lessL,List.mem_cons] at hq
  rcases hq with rfl|hq
  ·exact Ais hF hb (h _ (by simp)) (h' _ (by simp))
  ·exact Vc hF hb (fun q hq=>h q (by simp [hq])) (fun q hq=>h' q (by simp [hq])) q hq
end
section
open Go Tryz
theorem D3 : mRow prog 95 "liquidcheck/simplex.whole" = some 163 ∧ mRow prog 95 "liquidcheck/simplex.minus" = some 158 ∧
  mRow prog 95 "liquidcheck/simplex.times" = some 162 ∧ mRow prog 95 "liquidcheck/simplex.over" = some 159 ∧
  mRow prog 95 "liquidcheck/simplex.sign" = some 161 ∧ mRow prog 95 "liquidcheck/simplex.rational" = some 160 ∧
  mRow prog 95 "liquidcheck/simplex.exact" = some 157 := by decide +kernel
theorem Et : mRow prog 100 "liquidcheck/simplex.whole" = some 189 ∧ mRow prog 100 "liquidcheck/simplex.minus" = some 184 ∧
  mRow prog 100 "liquidcheck/simplex.times" = some 188 ∧ mRow prog 100 "liquidcheck/simplex.over" = some 185 ∧
  mRow prog 100 "liquidcheck/simplex.sign" = some 187 ∧ mRow prog 100 "liquidcheck/simplex.rational" = some 186 ∧
  mRow prog 100 "liquidcheck/simplex.exact" = some 183 := by decide +kernel
theorem xfs:xF 157=true/\xF 158=true/\xF 159=true/\xF 160=true/\xF 161=true/\xF 162=true/\xF 163=true/\xF 110=true/\xF 115=true/\xF 37=true/\xF 60=true/\xF 39=true/\xF 63=true/\xF 40=true/\xF 36=true/\xF 112=true/\xF 117=true:=⟨rfl,rfl,rfl,rfl,rfl,rfl,rfl,rfl,rfl,rfl,rfl,rfl,rfl,rfl,rfl,rfl,rfl⟩
end
section
open Go
structure Tb where
 vars:Nat
 real:Nat
 rows:List (List Q)
 cost:List Q
 basis:List Nat
 flip:List Bool
 fl:Bool
def dvS (F:Fld) (b x:Q):Q × Bool:=if sgn x=0 then (x,false) else F.over x b
def divL (F:Fld) (b:Q):List Q->List Q × Bool
 | []=>([],false)
 | x :: l=>((dvS F b x).1 :: (divL F b l).1,(dvS F b x).2 || (divL F b l).2)
def lessK (F:Fld) (row:List Q) (c i k:Nat) (r:List Q):List Q × Bool:=if k=i then (r,false) else lessT F r row c
def lessRows (F:Fld) (row:List Q) (c i:Nat):Nat->List (List Q)->List (List Q) × Bool
 | _,[]=>([],false)
 | k,r :: l=>((lessK F row c i k r).1 :: (lessRows F row c i (k+1) l).1,(lessK F row c i k r).2 || (lessRows F row c i (k+1) l).2)
def at_ {α:Type} (d:α) (l:List α) (k:Nat):α:=(nth l k).getD d
def q0:Q:=(0,1)
def Bx (t:Tb) (i:Nat):List Q:=at_ [] t.rows i
def Dq (F:Fld) (t:Tb) (i c:Nat):Tb :=
 let d:=divL F (at_ q0 (Bx t i) c) (Bx t i)
 let rs:=lessRows F d.1 c i 0 (put t.rows i d.1)
 let k:=lessT F t.cost d.1 c
 { t with rows:=rs.1,cost:=k.1,basis:=put t.basis i c,fl:=((t.fl || d.2) || rs.2) || k.2 }
def worse (basis:List Nat) (s:Int) (k bi:Nat):Bool:=decide (0<s) || (s == 0 && decide (at_ 0 basis bi<at_ 0 basis k))
def Bs (F:Fld) (basis:List Nat) (c W:Nat):Nat->List (List Q)->Option (Nat × Q)->Option (Nat × Q) × Bool
 | _,[],b=>(b,false)
 | k,r :: l,b =>
  if sgn (at_ q0 r c)<=0 then Bs F basis c W (k+1) l b else
   let q:=F.over (at_ q0 r (W - 1)) (at_ q0 r c)
   match b with
   | none=>((Bs F basis c W (k+1) l (some (k,q.1))).1,q.2 || (Bs F basis c W (k+1) l (some (k,q.1))).2)
   | some (bi,least) =>
    let d:=F.minus q.1 least
    let b':=if worse basis (sgn d.1) k bi=true then some (bi,least) else some (k,q.1)
    ((Bs F basis c W (k+1) l b').1,(q.2 || d.2) || (Bs F basis c W (k+1) l b').2)
def Bl (F:Fld) (t:Tb) (c:Nat):Option (Nat × Q) × Bool:=Bs F t.basis c t.cost.length 0 t.rows none
def colF (cost:List Q):Nat->Nat->Option Nat
 | 0,_=>none
 | n+1,k=>if sgn (at_ q0 cost k)<0 then some k else colF cost n (k+1)
def Gu (F:Fld):Nat->Tb->Option (Bool × Tb)
 | 0,_=>none
 | n+1,t=>if (F.stop && t.fl)=true then some (true,t) else
  match colF t.cost t.real 0 with
  | none=>some (true,t)
  | some c=>match Bl F t c with
   | (none,f)=>some (false,{ t with fl:=t.fl || f })
   | (some (i,_),f)=>Gu F n (Dq F { t with fl:=t.fl || f } i c)
def H5 (t:Tb):Bool:=sgn (at_ q0 t.cost (t.cost.length - 1)) == 0
def Ka (basis:List Nat) (k:Nat):Nat->List (List Q)->Option Nat
 | _,[]=>none
 | i,_ :: l=>if at_ 0 basis i=k then some i else Ka basis k (i+1) l
def Db (F:Fld) (t:Tb) (k:Nat):Q × Bool:=match Ka t.basis k 0 t.rows with|some i=>(at_ q0 (Bx t i) (t.cost.length - 1),false)|none=>F.whole 0
def ptF (F:Fld) (t:Tb) (k:Nat):Q × Bool :=
 let a:=Db F t (2*k)
 let b:=Db F t (2*k+1)
 let d:=F.minus a.1 b.1
 (d.1,(a.2 || b.2) || d.2)
def Ek (f:Nat->Q × Bool):Nat->Nat->List Q × Bool
 | 0,_=>([],false)
 | n+1,k=>((f k).1 :: (Ek f n (k+1)).1,(f k).2 || (Ek f n (k+1)).2)
def B6 (F:Fld) (t:Tb):List Q × Bool:=Ek (ptF F t) t.vars 0
def mulF (F:Fld) (t:Tb) (i:Nat):Q × Bool :=
 let y:=F.minus (at_ q0 t.cost (t.real+i)) (F.whole 1).1
 if at_ false t.flip i=true then
  let z:=F.minus (F.whole 0).1 y.1
  (z.1,y.2 || ((F.whole 0).2 || z.2))
 else y
def Gw (F:Fld) (t:Tb):List Q × Bool:=((Ek (mulF F t) t.rows.length 0).1,(F.whole 1).2 || (Ek (mulF F t) t.rows.length 0).2)
def nzF (row:List Q):Nat->Nat->Option Nat
 | 0,_=>none
 | n+1,k=>if sgn (at_ q0 row k)=0 then nzF row n (k+1) else some k
def G9 (F:Fld) (t:Tb) (i:Nat):Tb:=if at_ 0 t.basis i<t.real then t else match nzF (Bx t i) t.real 0 with|some k=>Dq F t i k|none=>t
def Gc (F:Fld):Nat->Nat->Tb->Tb
 | 0,_,t=>t
 | n+1,i,t=>Gc F n (i+1) (G9 F t i)
end
section
open Go
structure TI where
 it:Nat
 et:Nat
 ir:Nat
 er:Nat
 ic:Nat
 ec:Nat
 ib:Nat
 eb:Nat
 ids:List (Nat × Nat)
structure Apart (I:TI) (iq:Nat):Prop where
 tr:I.it≠I.ir
 tc:I.it≠I.ic
 tb:I.it≠I.ib
 rc:I.ir≠I.ic
 rb:I.ir≠I.ib
 cb:I.ic≠I.ib
 qt:iq≠I.it
 qr:iq≠I.ir
 qc:iq≠I.ic
 qb:iq≠I.ib
 row:∀ p ∈ I.ids,p.1≠I.it/\p.1≠I.ir/\p.1≠I.ic/\p.1≠I.ib/\p.1≠iq
 rows:∀ i j p q,nth I.ids i=some p->nth I.ids j=some q->i≠j->p.1≠q.1
def gt (W sz:Nat) (x:Nat × Nat):AV:=.sref x.1 x.2 0 W sz
def cw (id ep sz:Nat):Nat->AV
 | 0=>.frz [] .nilc
 | n+1=>.sref id ep 0 (n+1) sz
def D5 (b:Bool):List AV:=[.bool b]
def intA (n:Nat):AV:=.int (n:Int)
theorem Al {α:Type} {l:List α} {i:Nat} {x:α} (h:nth l i=some x):x ∈ l:=by rw [Ae] at h; exact List.mem_of_getElem? h
theorem Az {α:Type} {d:α} {l:List α} {k:Nat} {x:α} (h:nth l k=some x):at_ d l k=x:=by unfold at_; rw [h]; rfl
theorem U6 {α:Type} {l:List α} {i j:Nat} {x:α} (h:i<l.length):nth (put l i x) j=if j=i then some x else nth l j:=by
 by_cases e:j=i
 ·subst e; rw [if_pos rfl,B3 h]
 ·rw [if_neg e,Ac (Ne.symm e)]
theorem Ak {α:Type} {l:List α} {i:Nat} {x:α} : (put l i x).length=l.length:=Ah
theorem Mw {α:Type} {l:List α} {i:Nat} {x y:α} : put (put l i x) i y=put l i y:=by
 induction l generalizing i with
 | nil=>rfl
 | cons z l ih=>cases i with
  | zero=>rfl
  | succ i=>simp only [put,ih]
theorem Wr {α:Type} {l:List α} {i:Nat} {x:α} (h:nth l i=some x):put l i x=l:=by
 induction l generalizing i with
 | nil=>rfl
 | cons z l ih=>cases i with
  | zero=>simp only [nth,Option.some.injEq] at h; subst h; rfl
  | succ i=>simp only [nth] at h; simp only [put,ih h]
theorem Bw {α:Type} {l:List α} {i:Nat} {x y:α} (h:y ∈ put l i x):y=x\/y ∈ l:=by
 rw [Rl] at h
 rcases List.mem_or_eq_of_mem_set h with h|h
 ·exact .inr h
 ·exact .inl h
theorem Ba {id ep sz n:Nat} (h:0<n):cw id ep sz n=.sref id ep 0 n sz:=by
 cases n with
 | zero=>omega
 | succ n=>rfl
theorem D6 {S:List Ent} {n i e:Nat} (h:i<n):entAt (S.take n) i e=entAt S i e:=by
 unfold entAt
 rw [Ae,Ae,List.getElem?_take]; simp [h]
theorem FAq.take {S:List Ent} {n iq eq:Nat} {b:Bool} (h:FAq S iq eq b) (hi:iq<n):FAq (S.take n) iq eq b:=by unfold FAq; rw [D6 hi]; exact h
theorem FAw.take {S:List Ent} {n iq eq:Nat} {b:Bool} (_:FAw S iq eq b) (_:True):FAw (S.take n) iq eq b:=⟨⟩
theorem Du {α:Type} {l:List α} {n j:Nat} (h:j<n):nth (l.take n) j=nth l j:=by
 rw [Ae,Ae,List.getElem?_take]; simp [h]
theorem A6 {α:Type} {l m:List α} {j:Nat} (h:j<l.length):nth (l++m) j=nth l j:=by
 rw [Ae,Ae,List.getElem?_append_left h]
theorem Afp {α:Type} {l:List α} {i:Nat} {x:α} : put l i x=[]↔l=[]:=by
 cases l with
 | nil=>simp [put]
 | cons y l=>cases i <;> simp [put]
end
section
open Go Tryz
def Dv (c:ByteArray × Int):List AV:=[.prim (.string c.1),.prim (.int .i64 c.2)]
def An (cs:List (ByteArray × Int)):AV:=.frz (cs.map Dv) .unk
def linA (cs:List (ByteArray × Int)) (n:Int):AV:=.agg [An cs,.prim (.int .i64 n)]
def Dr (s:ByteArray):Bool:=sEq s ⟨#[]⟩ || decide ((s.size:Int) > 400)
def H0:Option ByteArray->ByteArray->Bool
 | none,_=>false
 | some p,s=>sLt s p || sEq s p
def A1 (n:Int):Option ByteArray->List (ByteArray × Int)->Int
 | _,[]=>if inB n then 0 else 2
 | p,c :: cs=>if Dr c.1 then 3 else if c.2 == 0 || !inB c.2 then 2 else if H0 p c.1 then 9 else A1 n (some c.1) cs
def B1 (cs:List (ByteArray × Int)) (n:Int):Int:=if 24<cs.length then 7 else A1 n none cs
def E5 (cs:List (ByteArray × Int)):Nat->Option ByteArray
 | 0=>none
 | j+1=>(nth cs j).map (·.1)
section
variable (S:List Ent) (tk:List Nat) (k:Nat)
theorem Zi (n:Int):cL prog 54 [.int n] S tk k=some (.bool (inB n),S,tk,k):=by
 refine opP func54 ntmps54 ?_
 simp +contextual only [ev0,reduceIte,reduceCtorEq,Nat.reduceAdd,Nat.reduceSub,Nat.reduceBEq,Nat.reduceEqDiff,Nat.reduceMul,Nat.reduceLT,Nat.reduceLeDiff,Int.reduceNeg,AV.int,AV.bool,AV.str,results54]
 unfold inB
 exact ⟨fun h=>by simp at h ⊢; omega,fun h=>by simp at h ⊢; omega⟩
theorem Ya (n:Int):cL prog 56 [.int n] S tk k=some (.bool (inB n),S,tk,k):=by
 refine opP func56 ntmps56 ?_
 simp +contextual only [ev0,reduceIte,reduceCtorEq,Nat.reduceAdd,Nat.reduceSub,Nat.reduceBEq,Nat.reduceEqDiff,Nat.reduceMul,Nat.reduceLT,Nat.reduceLeDiff,Int.reduceNeg,AV.int,AV.bool,AV.str,results56]
 unfold inB
 exact ⟨fun h=>by simp at h ⊢; omega,fun h=>by simp at h ⊢; omega⟩
theorem N7 (cs:List (ByteArray × Int)) (n:Int) (hlen:cs.length<=1048576):cL prog 27 [linA cs n] S tk k=some (.int (B1 cs n),S,tk,k):=by
 refine opP func27 ntmps27 ?_
 simp (maxSteps:=10^6)+contextual(disch:=try exact dqd)only[ev1,reduceIte,reduceCtorEq,Nat.reduceAdd,Nat.reduceSub,Nat.reduceBEq,Nat.reduceEqDiff,Nat.reduceMul,Nat.reduceLT,Nat.reduceLeDiff,Int.reduceNeg,AV.int,AV.bool,AV.str,results27,linA,An]
 refine ⟨fun h=>?_,fun h=>?_⟩
 ·unfold B1; rw [if_pos (by simp at h; omega)]
 have hc:B1 cs n=A1 n none cs:=by unfold B1; rw [if_neg (by simp at h; omega)]
 rw [hc]
 refine loop1 (fun i st=>st.T.length=57/\i<=cs.length/\getT st.T 1=.ref 0 0 0/\getT st.T 10=An cs/\getT st.T 11=.int cs.length/\getT st.T 12=.int (i:Nat)/\st.S=[⟨0,[An cs,.int n]⟩]) (fun i=>cs.length - i) (fun i=>.int (A1 n (E5 cs i) (cs.drop i))) 0 ?_ ?_
 case refine_2=>exact ⟨rfl,Nat.zero_le _,rfl,rfl,rfl,rfl,rfl⟩
 rintro i ⟨T,S',tk',n'⟩ ⟨hl,hi,e1,e10,e11,e12,rfl⟩ IH
 obtain ⟨g,hg,hT⟩:=Av hl
 rw [hg] at e1 e10 e11 e12
 subst hT
 clear hg hl h hc
 by_cases hlt:i<cs.length
 ·have d1:decide ((i:Int)<(cs.length:Int))=true:=by simpa using hlt
  obtain ⟨c,hc⟩:=Ag hlt
  have eh:nth (cs.map Dv) i=some (Dv c):=by rw [El,hc]; rfl
  have hw:=B9 (i:=i) (by omega)
  have hp:E5 cs (i+1)=some c.1:=by simp [E5,hc]
  rw [Bc hc]
  rcases i with _|j
  ·have d2:decide (((0:Nat):Int) > 0)=false:=rfl
   simp (maxSteps:=10^6)+contextual(disch:=try exact dqd)only[ev1,reduceIte,reduceCtorEq,Nat.reduceAdd,Nat.reduceSub,Nat.reduceBEq,Nat.reduceEqDiff,Nat.reduceMul,Nat.reduceLT,Nat.reduceLeDiff,Int.reduceNeg,AV.int,AV.bool,AV.str,results27,e1,e10,e11,e12,d1,d2,An,eh,hw,Dv,Zi]
   refine ⟨fun h1=>?_,fun h1=>⟨fun h2=>?_,fun h2=>⟨fun h3=>?_,fun h3=>⟨fun h4=>?_,fun h4=>?_⟩⟩⟩⟩
   ·simp [A1,Dr,h1]
   ·simp only [A1,Dr,h1,h2]; rfl
   ·simp only [A1,Dr,h1,h2,h3]; rfl
   ·rw [IH 1 _ (by omega) ⟨rfl,by omega,rfl,rfl,rfl,rfl,rfl⟩,hp]
    simp only [A1,Dr,h1,h2,h3,h4,E5,H0]; rfl
   ·simp only [A1,Dr,h1,h2,h3,h4]; rfl
  ·have d2:decide (((j+1:Nat):Int) > 0)=true:=decide_eq_true (by omega)
   obtain ⟨p,ny⟩:=Ag (show j<cs.length by omega)
   have ip:nth (cs.map Dv) j=some (Dv p):=by rw [El,ny]; rfl
   have hw':=Wd (j:=j) (by omega)
   have hpp:E5 cs (j+1)=some p.1:=by simp [E5,ny]
   simp (maxSteps:=10^6)+contextual(disch:=try exact dqd)only[ev1,reduceIte,reduceCtorEq,Nat.reduceAdd,Nat.reduceSub,Nat.reduceBEq,Nat.reduceEqDiff,Nat.reduceMul,Nat.reduceLT,Nat.reduceLeDiff,Int.reduceNeg,AV.int,AV.bool,AV.str,results27,e1,e10,e11,e12,d1,d2,An,eh,hw,Dv,Zi,ip,hw']
   refine ⟨fun h1=>?_,fun h1=>⟨fun h2=>?_,fun h2=>⟨fun h3=>?_,fun h3=>⟨fun h4=>?_,fun h4=>?_⟩⟩⟩⟩
   ·simp [A1,Dr,h1]
   ·simp only [A1,Dr,h1,h2]; rfl
   ·simp only [A1,Dr,h1,h2,h3]; rfl
   ·refine ⟨fun h5=>?_,fun h5=>?_⟩
    ·simp only [A1,Dr,h1,h2,h3,h4,hpp,H0,h5]; rfl
    ·rw [IH (j+1+1) _ (by omega) ⟨rfl,by omega,rfl,rfl,rfl,rfl,rfl⟩,hp]
     simp only [A1,Dr,h1,h2,h3,h4,hpp,H0,h5]; rfl
   ·simp only [A1,Dr,h1,h2,h3,h4]; rfl
 ·have d1:decide ((i:Int)<(cs.length:Int))=false:=by simpa using hlt
  have he:i=cs.length:=by omega
  simp (maxSteps:=10^6)+contextual(disch:=try exact dqd)only[ev1,reduceIte,reduceCtorEq,Nat.reduceAdd,Nat.reduceSub,Nat.reduceBEq,Nat.reduceEqDiff,Nat.reduceMul,Nat.reduceLT,Nat.reduceLeDiff,Int.reduceNeg,AV.int,AV.bool,AV.str,results27,e1,e10,e11,e12,d1,An,Zi]
  rw [he,List.drop_length]
  exact ⟨fun h=>by simp [A1,h],fun h=>by simp [A1,h]⟩
theorem Xy (cs:List (ByteArray × Int)) (n:Int) (hlen:cs.length<=1048576):cL prog 29 [linA cs n] S tk k=some (.int (B1 cs n),S,tk,k):=by
 refine opP func29 ntmps29 ?_
 simp (maxSteps:=10^6)+contextual(disch:=try exact dqd)only[ev1,reduceIte,reduceCtorEq,Nat.reduceAdd,Nat.reduceSub,Nat.reduceBEq,Nat.reduceEqDiff,Nat.reduceMul,Nat.reduceLT,Nat.reduceLeDiff,Int.reduceNeg,AV.int,AV.bool,AV.str,results29,linA,An]
 refine ⟨fun h=>?_,fun h=>?_⟩
 ·unfold B1; rw [if_pos (by simp at h; omega)]
 have hc:B1 cs n=A1 n none cs:=by unfold B1; rw [if_neg (by simp at h; omega)]
 rw [hc]
 refine loop1 (fun i st=>st.T.length=60/\i<=cs.length/\getT st.T 1=.ref 0 0 0/\getT st.T 3=.int (i:Nat)/\st.S=[⟨0,[An cs,.int n]⟩]) (fun i=>cs.length - i) (fun i=>.int (A1 n (E5 cs i) (cs.drop i))) 0 ?_ ?_
 case refine_2=>exact ⟨rfl,Nat.zero_le _,rfl,rfl,rfl⟩
 rintro i ⟨T,S',tk',n'⟩ ⟨hl,hi,e1,e3,rfl⟩ IH
 obtain ⟨g,hg,hT⟩:=Av hl
 rw [hg] at e1 e3
 subst hT
 clear hg hl h hc
 by_cases hlt:i<cs.length
 ·have d1:decide ((i:Int)<(cs.length:Int))=true:=by simpa using hlt
  obtain ⟨c,hc⟩:=Ag hlt
  have eh:nth (cs.map Dv) i=some (Dv c):=by rw [El,hc]; rfl
  have hw:=B9 (i:=i) (by omega)
  have hp:E5 cs (i+1)=some c.1:=by simp [E5,hc]
  rw [Bc hc]
  rcases i with _|j
  ·have d2:decide (((0:Nat):Int) > 0)=false:=rfl
   simp (maxSteps:=10^6)+contextual(disch:=try exact dqd)only[ev1,reduceIte,reduceCtorEq,Nat.reduceAdd,Nat.reduceSub,Nat.reduceBEq,Nat.reduceEqDiff,Nat.reduceMul,Nat.reduceLT,Nat.reduceLeDiff,Int.reduceNeg,AV.int,AV.bool,AV.str,results29,e1,e3,d1,d2,An,eh,hw,Dv,Ya]
   refine ⟨fun h1=>?_,fun h1=>⟨fun h2=>?_,fun h2=>⟨fun h3=>?_,fun h3=>⟨fun h4=>?_,fun h4=>?_⟩⟩⟩⟩
   ·simp [A1,Dr,h1]
   ·simp only [A1,Dr,h1,h2]; rfl
   ·simp only [A1,Dr,h1,h2,h3]; rfl
   ·rw [IH 1 _ (by omega) ⟨rfl,by omega,rfl,rfl,rfl⟩,hp]
    simp only [A1,Dr,h1,h2,h3,h4,E5,H0]; rfl
   ·simp only [A1,Dr,h1,h2,h3,h4]; rfl
  ·have d2:decide (((j+1:Nat):Int) > 0)=true:=decide_eq_true (by omega)
   obtain ⟨p,ny⟩:=Ag (show j<cs.length by omega)
   have ip:nth (cs.map Dv) j=some (Dv p):=by rw [El,ny]; rfl
   have hw':=Wd (j:=j) (by omega)
   have hpp:E5 cs (j+1)=some p.1:=by simp [E5,ny]
   simp (maxSteps:=10^6)+contextual(disch:=try exact dqd)only[ev1,reduceIte,reduceCtorEq,Nat.reduceAdd,Nat.reduceSub,Nat.reduceBEq,Nat.reduceEqDiff,Nat.reduceMul,Nat.reduceLT,Nat.reduceLeDiff,Int.reduceNeg,AV.int,AV.bool,AV.str,results29,e1,e3,d1,d2,An,eh,hw,Dv,Ya,ip,hw']
   refine ⟨fun h1=>?_,fun h1=>⟨fun h2=>?_,fun h2=>⟨fun h3=>?_,fun h3=>⟨fun h4=>?_,fun h4=>?_⟩⟩⟩⟩
   ·simp [A1,Dr,h1]
   ·simp only [A1,Dr,h1,h2]; rfl
   ·simp only [A1,Dr,h1,h2,h3]; rfl
   ·refine ⟨fun h5=>?_,fun h5=>?_⟩
    ·simp only [A1,Dr,h1,h2,h3,h4,hpp,H0,h5]; rfl
    ·rw [IH (j+1+1) _ (by omega) ⟨rfl,by omega,rfl,rfl,rfl⟩,hp]
     simp only [A1,Dr,h1,h2,h3,h4,hpp,H0,h5]; rfl
   ·simp only [A1,Dr,h1,h2,h3,h4]; rfl
 ·have d1:decide ((i:Int)<(cs.length:Int))=false:=by simpa using hlt
  have he:i=cs.length:=by omega
  simp (maxSteps:=10^6)+contextual(disch:=try exact dqd)only[ev1,reduceIte,reduceCtorEq,Nat.reduceAdd,Nat.reduceSub,Nat.reduceBEq,Nat.reduceEqDiff,Nat.reduceMul,Nat.reduceLT,Nat.reduceLeDiff,Int.reduceNeg,AV.int,AV.bool,AV.str,results29,e1,e3,d1,An,Ya]
  rw [he,List.drop_length]
  exact ⟨fun h=>by simp [A1,h],fun h=>by simp [A1,h]⟩
end
end
section
open Go Tryz
abbrev RowT:=List (ByteArray × Int) × Int × Bool
def rowC (r:RowT):List AV:=[An r.1,.prim (.int .i64 r.2.1),.prim (.bool r.2.2)]
def Au (l:List RowT):AV:=.frz (l.map rowC) .unk
theorem H7 {l:List RowT} {i:Nat} {r:RowT} (h:nth l i=some r):nth (l.map rowC) i=some (rowC r):=by rw [El,h]; rfl
theorem Abk {l:List (ByteArray × Int)} {i:Nat} {c:ByteArray × Int} (h:nth l i=some c):nth (l.map Dv) i=some (Dv c):=by rw [El,h]; rfl
theorem Z5 {l:List ByteArray} {i:Nat} {s:ByteArray} (h:nth l i=some s):nth (l.map strC) i=some [.prim (.string s)]:=by rw [El,h]; rfl
theorem Gy (l:List ByteArray):Da 1 (l.map strC)=true:=Gx (f:=strC) (sz:=1) (fun _=>rfl) l
def Bm (l:List RowT):List ByteArray:=(l.map fun r=>r.1.map (·.1)).flatten
def B8 (l:List RowT):List ByteArray:=uniS (Bm l)
theorem Ac4 (l:List RowT) (r:RowT):Bm (l++[r])=Bm l++r.1.map (·.1):=by simp [Bm]
theorem Dp {α:Type} : ∀ {l:List α} {i:Nat} {x:α},nth l i=some x->l.take (i+1)=l.take i++[x]
 | a :: l,0,x,h=>by simp only [nth,Option.some.injEq] at h; subst h; rfl
 | a :: l,i+1,x,h=>by simp only [List.take_succ_cons,List.cons_append,Dp (l:=l) (i:=i) h]
 | [],_,_,h=>by simp [nth] at h
def fewC (l:List RowT):Prop:=∀ r ∈ l,r.1.length<=24
theorem X5:∀ {l:List RowT},fewC l->(Bm l).length<=24*l.length
 | [],_=>by simp [Bm]
 | r :: l,h=>by
  have h1:=h r (by simp)
  have h2:=X5 (l:=l) fun x hx=>h x (by simp [hx])
  simp only [Bm,List.map_cons,List.flatten_cons,List.length_append,List.length_map,List.length_cons] at h2 ⊢
  omega
theorem U7 {α:Type} {l:List α} {i:Nat} {x:α} (h:nth l i=some x):x ∈ l:=List.mem_of_getElem? (by rw [Ae] at h; exact h)
theorem Xn:∀ (l:List ByteArray) (s:ByteArray),∃ i,i<=l.length/\(∀ j x,j<i->nth l j=some x->sLt x s=true)/\(∀ x,nth l i=some x->sLt x s=false) /\
  putS l s=l.take i++[s]++l.drop (match nth l i with|some x=>if sEq x s=true then i+1 else i|none=>i)
 | [],s=>⟨0,Nat.le_refl _,fun j x h=>by omega,fun x h=>by simp [nth] at h,rfl⟩
 | y :: r,s=>by
  cases h1:sLt y s with
  | true =>
   obtain ⟨i,a,b,c,d⟩:=Xn r s
   refine ⟨i+1,by simp; exact a,fun j x hj hx=>?_,c,?_⟩
   ·cases j with
    | zero=>simp only [nth,Option.some.injEq] at hx; subst hx; exact h1
    | succ j=>exact b j x (by omega) hx
   ·rw [putS,if_pos h1,d]
    simp only [nth]
    cases nth r i with
    | none=>simp
    | some x=>by_cases h:sEq x s=true <;> simp [h]
  | false =>
   refine ⟨0,Nat.zero_le _,fun j x hj=>by omega,fun x hx=>?_,?_⟩
   ·simp only [nth,Option.some.injEq] at hx; subst hx; exact h1
   ·rw [putS,if_neg (by simp [h1])]
    simp only [nth]
    by_cases h:sEq y s=true
    ·have:y=s:=by rw [Qp] at h; simpa using h
     rw [if_pos h,if_pos h,this]; simp
    ·rw [if_neg h,if_neg h]; simp
section
variable (S:List Ent) (tk:List Nat) (k:Nat)
set_option maxRecDepth 100000 in
theorem Agw (l:List ByteArray) (s:ByteArray) (c:Cap) (hl:l.length<=100000):cL prog 80 [.frz (l.map strC) c,.str s] S tk k=some (Am (putS l s),S,tk,k):=by
 obtain ⟨i,ub,h2,h3,h4⟩:=Xn l s
 rw [h4]
 refine opP func80 ntmps80 ?_
 simp (maxSteps:=10^6)+contextual(disch:=try exact dqd)only[ev1,simprocAttr,AV.int,AV.bool,AV.str,results80]
 refine loop1 (P:=prog) (fun x st=>st.T.length=52/\(x.1<=i)/\(x.2.1=l.take x.1)/\(Be st.tk x.2.2 1=true)/\getT st.T 0=Am l/\getT st.T 1=.str s/\getT st.T 5=.frz (x.2.1.map strC) x.2.2/\getT st.T 6=.int (x.1:Nat)/\st.S=[]) (fun x=>i - x.1) (fun x=>Am (l.take i++[s]++l.drop (match nth l i with|some x=>if sEq x s=true then i+1 else i|none=>i))) (0,[],.nilc) ?_ ?_
 case refine_2=>exact ⟨rfl,Nat.zero_le _,rfl,rfl,rfl,rfl,rfl,rfl,rfl⟩
 rintro ⟨j,out,c⟩ ⟨T,S',tk',n'⟩ ⟨hl,hj,ho,ab,e0,e1,e5,e6,eS⟩ IH
 simp only at hj ho ab e0 e1 e5 e6 eS
 subst eS
 obtain ⟨g,hg,hT⟩:=Av hl
 rw [hg] at e0 e1 e5 e6
 subst hT
 clear hg hl
 have qj:out.length<=l.length:=by rw [ho]; simp; omega
 have htl:(l.map strC).take l.length=l.map strC:=List.take_of_length_le (by simp)
 have hr:=Gy out
 have dc:=Bv ab
 have bl:(out.map strC).length+1<=1048576:=by simp; omega
 have zj:=B9 (i:=j) (by omega)
 by_cases hlt:j<i
 ·have d1:decide ((j:Int)<(l.length:Int))=true:=by simp; omega
  obtain ⟨x,hx⟩:=Ag (show j<l.length by omega)
  have hx':=Z5 hx
  have d2:=h2 j x hlt hx
  have hts:=Dp hx
  simp (maxSteps:=10^6)+contextual(disch:=try exact dqd)only[ev1,simprocAttr,AV.int,AV.bool,AV.str,results80,e0,e1,e5,e6,d1,d2,Am,hx',hr,zj]
  exact IH (j+1,out++[x],Bb tk' c 1) _ (by first|omega|(simp only; omega)) ⟨rfl,by first|omega|(dsimp only; omega),by rw [hts,ho],dc,(by first|rfl|simp only [getT,List.map_append,List.map_cons,List.map_nil,strC,Am,and_self]),(by first|rfl|simp only [getT,List.map_append,List.map_cons,List.map_nil,strC,Am,and_self]),(by first|rfl|simp only [getT,List.map_append,List.map_cons,List.map_nil,strC,Am,and_self]),(by first|rfl|simp only [getT,List.map_append,List.map_cons,List.map_nil,strC,Am,and_self]),(by first|rfl|simp only [getT,List.map_append,List.map_cons,List.map_nil,strC,Am,and_self])⟩
 have y5:j=i:=by omega
 subst y5
 subst ho
 have ae:=Gy (l.take j++[s])
 have hr3:=Gy l
 have d7:=Bv dc
 simp only [List.map_append,List.map_cons,List.map_nil,strC] at ae
 by_cases fu:j<l.length
 case neg =>
  have d1:decide ((j:Int)<(l.length:Int))=false:=by simp; omega
  have hjn:nth l j=none:=by rw [Ae]; exact List.getElem?_eq_none (by omega)
  have hr4:Da 1 (((l.map strC).take l.length).drop j)=true:=by rw [<- List.map_take,<- List.map_drop]; exact Gy _
  have a7:((l.take j).map strC++[[(.prim (.string s):AV)]]).length+(((l.map strC).take l.length).drop j).length<=1048576:=by simp; omega
  simp (maxSteps:=10^6)+contextual(disch:=try exact dqd)only[ev1,simprocAttr,AV.int,AV.bool,AV.str,results80,e0,e1,e5,e6,d1,Am,hr,J9,hr3,bound,ub,Nat.le_refl,Nat.zero_le,ae,hr4]
  simp [hjn,strC,htl]
 have d1:decide ((j:Int)<(l.length:Int))=true:=by simp; omega
 obtain ⟨x,hx⟩:=Ag fu
 have hx':=Z5 hx
 have d2:=h3 x hx
 have hj1:j+1<=l.length:=fu
 cases d3:sEq x s with
 | true =>
  have hr4:Da 1 (((l.map strC).take l.length).drop (j+1))=true:=by rw [<- List.map_take,<- List.map_drop]; exact Gy _
  have a7:((l.take j).map strC++[[(.prim (.string s):AV)]]).length+(((l.map strC).take l.length).drop (j+1)).length<=1048576:=by simp; omega
  simp (maxSteps:=10^6)+contextual(disch:=try exact dqd)only[ev1,simprocAttr,AV.int,AV.bool,AV.str,results80,e0,e1,e5,e6,d1,d2,d3,hx',zj,Am,hr,J9,hr3,bound,hj1,Nat.le_refl,Nat.zero_le,ae,hr4]
  simp [hx,d3,strC,htl]
 | false =>
  have hr4:Da 1 (((l.map strC).take l.length).drop j)=true:=by rw [<- List.map_take,<- List.map_drop]; exact Gy _
  have a7:((l.take j).map strC++[[(.prim (.string s):AV)]]).length+(((l.map strC).take l.length).drop j).length<=1048576:=by simp; omega
  simp (maxSteps:=10^6)+contextual(disch:=try exact dqd)only[ev1,simprocAttr,AV.int,AV.bool,AV.str,results80,e0,e1,e5,e6,d1,d2,d3,hx',zj,Am,hr,J9,hr3,bound,ub,Nat.le_refl,Nat.zero_le,ae,hr4]
  simp [hx,d3,strC,htl]
set_option maxRecDepth 100000 in
theorem Agg (l:List ByteArray) (s:ByteArray) (c c2:Cap) (hi:Inc l) (hl:l.length<=90000):cL prog 57 [.frz (l.map strC) c,.frz [[.prim (.string s)]] c2] S tk k=some (Am (putS l s),S,tk,k):=by
 refine opP func57 ntmps57 ?_
 simp (maxSteps:=10^6)+contextual(disch:=try exact dqd)only[ev1,simprocAttr,AV.int,AV.bool,AV.str,results57]
 refine loop1 (P:=prog) (fun x st=>st.T.length=33/\(x.1<=l.length)/\(x.2.1=l.take x.1)/\getT st.T 0=Am l/\getT st.T 1=.frz [[.prim (.string s)]] .unk/\getT st.T 5=.frz (x.2.1.map strC) x.2.2/\getT st.T 8=Am l/\getT st.T 9=.int l.length/\getT st.T 10=.int (x.1:Nat)/\st.S=[]) (fun x=>l.length - x.1) (fun x=>Am (putS l s)) (0,[],.nilc) ?_ ?_
 case refine_2=>exact ⟨rfl,Nat.zero_le _,rfl,rfl,rfl,rfl,rfl,rfl,rfl,rfl⟩
 rintro ⟨j,out,c3⟩ ⟨T,S',tk',n'⟩ ⟨hl,hj,ho,e0,e1,e5,e8,e9,e10,eS⟩ IH
 simp only at hj ho e0 e1 e5 e8 e9 e10 eS
 subst eS
 obtain ⟨g,hg,hT⟩:=Av hl
 rw [hg] at e0 e1 e5 e8 e9 e10
 subst hT
 clear hg hl
 have zj:=B9 (i:=j) (by omega)
 have qj:out.length<=l.length:=by rw [ho]; simp; omega
 by_cases hlt:j<l.length
 ·have d1:decide ((j:Int)<(l.length:Int))=true:=by simpa using hlt
  obtain ⟨x,hx⟩:=Ag hlt
  have hx':=Z5 hx
  have hP:=fun S tk k=>Agw S tk k out x c3 (by omega)
  have hpe:putS out x=out++[x]:=Aai fun y hy=>by
   rw [ho] at hy
   have h1:Inc (l.take j++l.drop j):=by rw [List.take_append_drop]; exact hi
   exact (List.pairwise_append.1 h1).2.2 y hy x (by rw [Bc hx]; simp)
  rw [hpe] at hP
  simp only [Am] at hP
  have hts:=Dp hx
  simp (maxSteps:=10^6)+contextual(disch:=try exact dqd)only[ev1,simprocAttr,AV.int,AV.bool,AV.str,results57,e0,e1,e5,e8,e9,e10,d1,Am,hx',zj,hP]
  exact IH (j+1,out++[x],.unk) _ (by first|omega|(simp only; omega)) ⟨rfl,by first|omega|(dsimp only; omega),by rw [hts,ho],(by first|rfl|simp only [getT,List.map_append,List.map_cons,List.map_nil,strC,Am,and_self]),(by first|rfl|simp only [getT,List.map_append,List.map_cons,List.map_nil,strC,Am,and_self]),(by first|rfl|simp only [getT,List.map_append,List.map_cons,List.map_nil,strC,Am,and_self]),(by first|rfl|simp only [getT,List.map_append,List.map_cons,List.map_nil,strC,Am,and_self]),(by first|rfl|simp only [getT,List.map_append,List.map_cons,List.map_nil,strC,Am,and_self]),(by first|rfl|simp only [getT,List.map_append,List.map_cons,List.map_nil,strC,Am,and_self]),(by first|rfl|simp only [getT,List.map_append,List.map_cons,List.map_nil,strC,Am,and_self])⟩
 ·have d1:decide ((j:Int)<(l.length:Int))=false:=by simpa using hlt
  have y5:j=l.length:=by omega
  subst y5
  rw [List.take_length] at ho
  subst ho
  have hP:=fun S tk k=>Agw S tk k out s c3 (by omega)
  simp only [Am] at hP
  simp (maxSteps:=10^6)+contextual(disch:=try exact dqd)only[ev1,simprocAttr,AV.int,AV.bool,AV.str,results57,e0,e1,e5,e8,e9,e10,d1,Am]
  refine loop1 (P:=prog) (fun x st=>st.T.length=33/\(x<=1)/\getT st.T 1=.frz [[.prim (.string s)]] .unk/\getT st.T 5=(if x=0 then .frz (out.map strC) c3 else Am (putS out s))/\getT st.T 20=.frz [[.prim (.string s)]] .unk/\getT st.T 21=.int ((1:Nat):Int)/\getT st.T 22=.int (x:Nat)/\st.S=[]) (fun x=>1 - x) (fun x=>Am (putS out s)) (0) ?_ ?_
  case refine_2=>exact ⟨rfl,Nat.zero_le _,rfl,rfl,rfl,rfl,rfl,rfl⟩
  rintro j ⟨T,S',tk',n'⟩ ⟨hl,hj,e1,e5,e20,e21,e22,eS⟩ IH
  subst eS
  obtain ⟨g,hg,hT⟩:=Av hl
  rw [hg] at e1 e5 e20 e21 e22
  subst hT
  clear hg hl
  by_cases h0:j=0
  ·subst h0
   rw [if_pos rfl] at e5
   have d2:decide (((0:Nat):Int)<((1:Nat):Int))=true:=rfl
   have a2t:IntKind.i64.wrap (((0:Nat):Int)+1)=((1:Nat):Int):=Ad (by unfold i64; omega)
   simp (maxSteps:=10^6)+contextual(disch:=try exact dqd)only[ev1,simprocAttr,AV.int,AV.bool,AV.str,results57,e1,e5,e20,e21,e22,d2,a2t,hP]
   exact IH (1) _ (by first|omega|(simp only; omega)) ⟨rfl,by first|omega|(dsimp only; omega),(by first|rfl|simp only [getT,List.map_append,List.map_cons,List.map_nil,strC,Am,and_self]),(by first|rfl|simp only [getT,List.map_append,List.map_cons,List.map_nil,strC,Am,and_self]),(by first|rfl|simp only [getT,List.map_append,List.map_cons,List.map_nil,strC,Am,and_self]),(by first|rfl|simp only [getT,List.map_append,List.map_cons,List.map_nil,strC,Am,and_self]),(by first|rfl|simp only [getT,List.map_append,List.map_cons,List.map_nil,strC,Am,and_self]),(by first|rfl|simp only [getT,List.map_append,List.map_cons,List.map_nil,strC,Am,and_self])⟩
  ·have hj1:j=1:=by omega
   subst hj1
   rw [if_neg (by omega)] at e5
   have d2:decide (((1:Nat):Int)<((1:Nat):Int))=false:=rfl
   simp (maxSteps:=10^6)+contextual(disch:=try exact dqd)only[ev1,simprocAttr,AV.int,AV.bool,AV.str,results57,e1,e5,e20,e21,e22,d2,Am]
end
end
section
open Go Tryz
theorem T3 {l:List RowT} {i:Nat} {r:RowT} (h:nth l i=some r):Bm (l.take (i+1))=Bm (l.take i)++r.1.map (·.1):=by
 rw [Dp h,Ac4]
theorem Ajo {l:List RowT} (h:fewC l) (i:Nat):fewC (l.take i):=fun r hr=>h r (List.mem_of_mem_take hr)
theorem Agy {l:List RowT} (h:fewC l) (hl:l.length<=64) (i:Nat):(Bm (l.take i)).length<=1536:=by
 have h1:=X5 (Ajo h i)
 have:(l.take i).length<=64:=by simp; omega
 omega
theorem Alo (l:List ByteArray):(uniS l).length<=l.length:=(Jg l).2.2
section
variable (S:List Ent) (tk:List Nat) (k:Nat)
set_option maxRecDepth 100000 in
theorem Xs (l:List RowT) (hf:fewC l) (hl:l.length<=64):cL prog 30 [Au l] S tk k=some (Am (B8 l),S,tk,k):=by
 refine opP func30 ntmps30 ?_
 simp (maxSteps:=10^6)+contextual(disch:=try exact dqd)only[ev1,simprocAttr,AV.int,AV.bool,AV.str,results30,Au]
 refine loop1 (P:=prog) (fun x st=>st.T.length=30/\(x.1<=l.length)/\(x.2.1=uniS (Bm (l.take x.1)))/\getT st.T 3=.frz (x.2.1.map strC) x.2.2/\getT st.T 8=Au l/\getT st.T 9=.int l.length/\getT st.T 10=.int (x.1:Nat)/\st.S=[]) (fun x=>l.length - x.1) (fun x=>Am (B8 l)) (0,[],.nilc) ?_ ?_
 case refine_2=>exact ⟨rfl,Nat.zero_le _,rfl,rfl,rfl,rfl,rfl,rfl⟩
 rintro ⟨i,out,c⟩ ⟨T,S',tk',n'⟩ ⟨hl,hi,ho,e3,e8,e9,e10,eS⟩ IH
 simp only at hi ho e3 e8 e9 e10 eS
 subst eS
 obtain ⟨g,hg,hT⟩:=Av hl
 rw [hg] at e3 e8 e9 e10
 subst hT
 clear hg hl
 have OUT:=IH
 clear IH
 have jf:=B9 (i:=i) (by omega)
 by_cases hlt:i<l.length
 ·have d1:decide ((i:Int)<(l.length:Int))=true:=by simpa using hlt
  obtain ⟨r,hx⟩:=Ag hlt
  have hx':=H7 hx
  have j7:=hf r (U7 hx)
  have y9:=Agy hf hl i
  have j6:=T3 hx
  simp only [rowC,An] at hx'
  simp (maxSteps:=10^6)+contextual(disch:=try exact dqd)only[ev1,simprocAttr,AV.int,AV.bool,AV.str,results30,e3,e8,e9,e10,d1,Au,hx']
  refine loop1 (P:=prog) (fun x st=>st.T.length=30/\(x.1<=r.1.length)/\(x.2.1=uniS (Bm (l.take i)++(r.1.take x.1).map (·.1)))/\getT st.T 3=.frz (x.2.1.map strC) x.2.2/\getT st.T 8=Au l/\getT st.T 9=.int l.length/\getT st.T 10=.int (i:Nat)/\getT st.T 16=.frz (r.1.map Dv) .unk/\getT st.T 17=.int r.1.length/\getT st.T 18=.int (x.1:Nat)/\st.S=[⟨n',[.frz (r.1.map Dv) .unk,.int r.2.1,.bool r.2.2]⟩]) (fun x=>r.1.length - x.1) (fun x=>Am (B8 l)) (0,out,c) ?_ ?_
  case refine_2=>exact ⟨rfl,Nat.zero_le _,by simp [ho],rfl,rfl,rfl,rfl,rfl,rfl,rfl,rfl⟩
  rintro ⟨j,out2,c2⟩ ⟨T,S',tk',n'⟩ ⟨hl,hj,gz,e3,e8,e9,e10,e16,e17,e18,eS⟩ IH
  simp only at hj gz e3 e8 e9 e10 e16 e17 e18 eS
  subst eS
  obtain ⟨g,hg,hT⟩:=Av hl
  rw [hg] at e3 e8 e9 e10 e16 e17 e18
  subst hT
  clear hg hl
  have zj:=B9 (i:=j) (by omega)
  have uq:(Bm (l.take i)++(r.1.take j).map (·.1)).length<=1600:=by simp; omega
  have hul:=Alo (Bm (l.take i)++(r.1.take j).map (·.1))
  by_cases cu:j<r.1.length
  ·have d2:decide ((j:Int)<(r.1.length:Int))=true:=by simpa using cu
   obtain ⟨q,hq⟩:=Ag cu
   have kz:=Abk hq
   simp only [Dv] at kz
   have hU:=fun S tk k=>Agg S tk k out2 q.1 c2 .tight (by rw [gz]; exact (Jg _).1) (by rw [gz]; omega)
   have hts:=Dp hq
   simp only [Am] at hU
   simp (maxSteps:=10^6)+contextual(disch:=try exact dqd)only[ev1,simprocAttr,AV.int,AV.bool,AV.str,results30,e3,e8,e9,e10,e16,e17,e18,d2,kz,zj,hU]
   exact IH (j+1,putS out2 q.1,.unk) _ (by first|omega|(simp only; omega)) ⟨rfl,by first|omega|(dsimp only; omega),by rw [hts,List.map_append,<- List.append_assoc,List.map_cons,List.map_nil,Aat,gz],(by first|rfl|simp only [getT,List.map_append,List.map_cons,List.map_nil,strC,Am,and_self]),(by first|rfl|simp only [getT,List.map_append,List.map_cons,List.map_nil,strC,Am,and_self]),(by first|rfl|simp only [getT,List.map_append,List.map_cons,List.map_nil,strC,Am,and_self]),(by first|rfl|simp only [getT,List.map_append,List.map_cons,List.map_nil,strC,Am,and_self]),(by first|rfl|simp only [getT,List.map_append,List.map_cons,List.map_nil,strC,Am,and_self]),(by first|rfl|simp only [getT,List.map_append,List.map_cons,List.map_nil,strC,Am,and_self]),(by first|rfl|simp only [getT,List.map_append,List.map_cons,List.map_nil,strC,Am,and_self]),(by first|rfl|simp only [getT,List.map_append,List.map_cons,List.map_nil,strC,Am,and_self])⟩
  ·have d2:decide ((j:Int)<(r.1.length:Int))=false:=by simpa using cu
   have y5:j=r.1.length:=by omega
   subst y5
   rw [List.take_length] at gz
   simp (maxSteps:=10^6)+contextual(disch:=try exact dqd)only[ev1,simprocAttr,AV.int,AV.bool,AV.str,results30,e3,e8,e9,e10,e16,e17,e18,d2,jf]
   exact OUT (i+1,out2,c2) _ (by first|omega|(simp only; omega)) ⟨rfl,by first|omega|(dsimp only; omega),by rw [j6,gz],(by first|rfl|simp only [getT,List.map_append,List.map_cons,List.map_nil,strC,Am,and_self]),(by first|rfl|simp only [getT,List.map_append,List.map_cons,List.map_nil,strC,Am,and_self]),(by first|rfl|simp only [getT,List.map_append,List.map_cons,List.map_nil,strC,Am,and_self]),(by first|rfl|simp only [getT,List.map_append,List.map_cons,List.map_nil,strC,Am,and_self]),(by first|rfl|simp only [getT,List.map_append,List.map_cons,List.map_nil,strC,Am,and_self])⟩
 ·have d1:decide ((i:Int)<(l.length:Int))=false:=by simpa using hlt
  have ko:i=l.length:=by omega
  subst ko
  rw [List.take_length] at ho
  simp (maxSteps:=10^6)+contextual(disch:=try exact dqd)only[ev1,simprocAttr,AV.int,AV.bool,AV.str,results30,e3,e8,e9,e10,d1,Au]
  rw [ho]; rfl
set_option maxRecDepth 100000 in
theorem B2 (l:List RowT) (hf:fewC l) (hl:l.length<=64):cL prog 28 [Au l] S tk k=some (Am (B8 l),S,tk,k):=by
 refine opP func28 ntmps28 ?_
 simp (maxSteps:=10^6)+contextual(disch:=try exact dqd)only[ev1,simprocAttr,AV.int,AV.bool,AV.str,results28,Au]
 refine loop1 (P:=prog) (fun x st=>st.T.length=31/\(x.1<=l.length)/\(x.2.1=Bm (l.take x.1))/\(Be st.tk x.2.2 1=true)/\((!x.2.1.isEmpty || Qd x.2.2)=true)/\getT st.T 3=.frz (x.2.1.map strC) x.2.2/\getT st.T 8=Au l/\getT st.T 9=.int l.length/\getT st.T 10=.int (x.1:Nat)/\st.S=[]) (fun x=>l.length - x.1) (fun x=>Am (B8 l)) (0,[],.nilc) ?_ ?_
 case refine_2=>exact ⟨rfl,Nat.zero_le _,rfl,rfl,rfl,rfl,rfl,rfl,rfl,rfl⟩
 rintro ⟨i,out,c⟩ ⟨T,S',tk',n'⟩ ⟨hl,hi,ho,ab,hc,e3,e8,e9,e10,eS⟩ IH
 simp only at hi ho ab hc e3 e8 e9 e10 eS
 subst eS
 obtain ⟨g,hg,hT⟩:=Av hl
 rw [hg] at e3 e8 e9 e10
 subst hT
 clear hg hl
 have OUT:=IH
 clear IH
 have jf:=B9 (i:=i) (by omega)
 have y9:=Agy hf hl i
 by_cases hlt:i<l.length
 ·have d1:decide ((i:Int)<(l.length:Int))=true:=by simpa using hlt
  obtain ⟨r,hx⟩:=Ag hlt
  have hx':=H7 hx
  have j7:=hf r (U7 hx)
  have j6:=T3 hx
  simp only [rowC,An] at hx'
  simp (maxSteps:=10^6)+contextual(disch:=try exact dqd)only[ev1,simprocAttr,AV.int,AV.bool,AV.str,results28,e3,e8,e9,e10,d1,Au,hx']
  refine loop1 (P:=prog) (fun x st=>st.T.length=31/\(x.1<=r.1.length)/\(x.2.1=Bm (l.take i)++(r.1.take x.1).map (·.1))/\(Be st.tk x.2.2 1=true)/\((!x.2.1.isEmpty || Qd x.2.2)=true)/\getT st.T 3=.frz (x.2.1.map strC) x.2.2/\getT st.T 8=Au l/\getT st.T 9=.int l.length/\getT st.T 10=.int (i:Nat)/\getT st.T 16=.frz (r.1.map Dv) .unk/\getT st.T 17=.int r.1.length/\getT st.T 18=.int (x.1:Nat)/\st.S=[⟨n',[.frz (r.1.map Dv) .unk,.int r.2.1,.bool r.2.2]⟩]) (fun x=>r.1.length - x.1) (fun x=>Am (B8 l)) (0,out,c) ?_ ?_
  case refine_2=>exact ⟨rfl,Nat.zero_le _,by simp [ho],ab,hc,rfl,rfl,rfl,rfl,rfl,rfl,rfl,rfl⟩
  rintro ⟨j,out2,c2⟩ ⟨T,S',tk',n'⟩ ⟨hl,hj,gz,d7,hc2,e3,e8,e9,e10,e16,e17,e18,eS⟩ IH
  simp only at hj gz d7 hc2 e3 e8 e9 e10 e16 e17 e18 eS
  subst eS
  obtain ⟨g,hg,hT⟩:=Av hl
  rw [hg] at e3 e8 e9 e10 e16 e17 e18
  subst hT
  clear hg hl
  have zj:=B9 (i:=j) (by omega)
  have uq:out2.length<=1600:=by rw [gz]; simp; omega
  have hr:=Gy out2
  have dc:=Bv d7
  have bl:(out2.map strC).length+1<=1048576:=by simp; omega
  by_cases cu:j<r.1.length
  ·have d2:decide ((j:Int)<(r.1.length:Int))=true:=by simpa using cu
   obtain ⟨q,hq⟩:=Ag cu
   have kz:=Abk hq
   simp only [Dv] at kz
   have hts:=Dp hq
   simp (maxSteps:=10^6)+contextual(disch:=try exact dqd)only[ev1,simprocAttr,AV.int,AV.bool,AV.str,results28,e3,e8,e9,e10,e16,e17,e18,d2,kz,zj,hr]
   exact IH (j+1,out2++[q.1],Bb tk' c2 1) _ (by first|omega|(simp only; omega)) ⟨rfl,by first|omega|(dsimp only; omega),by rw [hts,List.map_append,<- List.append_assoc,gz]; rfl,dc,by simp,(by first|rfl|simp only [getT,List.map_append,List.map_cons,List.map_nil,strC,Am,and_self]),(by first|rfl|simp only [getT,List.map_append,List.map_cons,List.map_nil,strC,Am,and_self]),(by first|rfl|simp only [getT,List.map_append,List.map_cons,List.map_nil,strC,Am,and_self]),(by first|rfl|simp only [getT,List.map_append,List.map_cons,List.map_nil,strC,Am,and_self]),(by first|rfl|simp only [getT,List.map_append,List.map_cons,List.map_nil,strC,Am,and_self]),(by first|rfl|simp only [getT,List.map_append,List.map_cons,List.map_nil,strC,Am,and_self]),(by first|rfl|simp only [getT,List.map_append,List.map_cons,List.map_nil,strC,Am,and_self]),(by first|rfl|simp only [getT,List.map_append,List.map_cons,List.map_nil,strC,Am,and_self])⟩
  ·have d2:decide ((j:Int)<(r.1.length:Int))=false:=by simpa using cu
   have y5:j=r.1.length:=by omega
   subst y5
   rw [List.take_length] at gz
   simp (maxSteps:=10^6)+contextual(disch:=try exact dqd)only[ev1,simprocAttr,AV.int,AV.bool,AV.str,results28,e3,e8,e9,e10,e16,e17,e18,d2,jf]
   exact OUT (i+1,out2,c2) _ (by first|omega|(simp only; omega)) ⟨rfl,by first|omega|(dsimp only; omega),by rw [j6,gz],d7,hc2,(by first|rfl|simp only [getT,List.map_append,List.map_cons,List.map_nil,strC,Am,and_self]),(by first|rfl|simp only [getT,List.map_append,List.map_cons,List.map_nil,strC,Am,and_self]),(by first|rfl|simp only [getT,List.map_append,List.map_cons,List.map_nil,strC,Am,and_self]),(by first|rfl|simp only [getT,List.map_append,List.map_cons,List.map_nil,strC,Am,and_self]),(by first|rfl|simp only [getT,List.map_append,List.map_cons,List.map_nil,strC,Am,and_self])⟩
 ·have d1:decide ((i:Int)<(l.length:Int))=false:=by simpa using hlt
  have ko:i=l.length:=by omega
  subst ko
  rw [List.take_length] at ho y9
  have hU:=fun S tk k=>Zx S tk k out c (by rw [ho]; omega) hc
  simp only [Am] at hU
  simp (maxSteps:=10^6)+contextual(disch:=try exact dqd)only[ev1,simprocAttr,AV.int,AV.bool,AV.str,results28,e3,e8,e9,e10,d1,Au,hU]
  rw [ho]; rfl
def Eu:List RowT->Int
 | []=>0
 | r :: l=>if B1 r.1 r.2.1 != 0 then B1 r.1 r.2.1 else Eu l
def sysE (l:List RowT):Int:=if 64<l.length then 7 else if Eu l != 0 then Eu l else if 24<(B8 l).length then 7 else 0
theorem Ju {cs:List (ByteArray × Int)} {n:Int} (h:B1 cs n=0):cs.length<=24:=by
 unfold B1 at h
 split at h
 ·cases h
 ·omega
theorem Mi:∀ {l:List RowT},Eu l=0->fewC l
 | [],_=>fun r hr=>by simp at hr
 | r :: l,h=>by
  unfold Eu at h
  by_cases h0:B1 r.1 r.2.1=0
  ·rw [h0] at h
   simp only [bne_self_eq_false,Bool.false_eq_true,if_false] at h
   intro x hx
   rcases List.mem_cons.1 hx with rfl|hx
   ·exact Ju h0
   ·exact Mi h x hx
  ·rw [if_pos (by simpa using h0)] at h; exact absurd h h0
set_option maxRecDepth 100000 in
theorem Qy (l:List RowT) (dt:∀ r ∈ l,r.1.length<=1048576):cL prog 8 [Au l] S tk k=some (.int (sysE l),S,tk,k):=by
 refine opP func8 ntmps8 ?_
 by_cases h64:64<l.length
 ·have d0:decide ((l.length:Int) > 64)=true:=by simp; omega
  simp (maxSteps:=10^6)+contextual(disch:=try exact dqd)only[ev1,simprocAttr,AV.int,AV.bool,AV.str,results8,Au,d0]
  simp [sysE,h64]
 have d0:decide ((l.length:Int) > 64)=false:=by simp; omega
 simp (maxSteps:=10^6)+contextual(disch:=try exact dqd)only[ev1,simprocAttr,AV.int,AV.bool,AV.str,results8,Au,d0]
 refine loop1 (P:=prog) (fun x st=>st.T.length=26/\(x<=l.length)/\(Eu l=Eu (l.drop x))/\getT st.T 0=Au l/\getT st.T 9=Au l/\getT st.T 10=.int l.length/\getT st.T 11=.int (x:Nat)/\st.S=[]) (fun x=>l.length - x) (fun x=>.int (sysE l)) (0) ?_ ?_
 case refine_2=>exact ⟨rfl,Nat.zero_le _,rfl,rfl,rfl,rfl,rfl,rfl⟩
 rintro i ⟨T,S',tk',n'⟩ ⟨hl,hi,hE,e0,e9,e10,e11,eS⟩ IH
 subst eS
 obtain ⟨g,hg,hT⟩:=Av hl
 rw [hg] at e0 e9 e10 e11
 subst hT
 clear hg hl
 have jf:=B9 (i:=i) (by omega)
 by_cases hlt:i<l.length
 ·have d1:decide ((i:Int)<(l.length:Int))=true:=by simpa using hlt
  obtain ⟨r,hx⟩:=Ag hlt
  have hx':=H7 hx
  have hC:=fun S tk k=>Xy S tk k r.1 r.2.1 (dt r (U7 hx))
  simp only [rowC,An] at hx'
  simp only [linA,An] at hC
  rw [Bc hx,Eu] at hE
  generalize B1 r.1 r.2.1=e at *
  cases h0:(e != 0) with
  | true =>
   simp (maxSteps:=10^6)+contextual(disch:=try exact dqd)only[ev1,simprocAttr,AV.int,AV.bool,AV.str,results8,e0,e9,e10,e11,d1,Au,hx',hC,jf,h0]
   rw [h0,if_pos rfl] at hE
   unfold sysE
   rw [if_neg h64,hE,if_pos h0]
  | false =>
   rw [h0,if_neg (by simp)] at hE
   simp (maxSteps:=10^6)+contextual(disch:=try exact dqd)only[ev1,simprocAttr,AV.int,AV.bool,AV.str,results8,e0,e9,e10,e11,d1,Au,hx',hC,jf,h0]
   exact IH (i+1) _ (by first|omega|(simp only; omega)) ⟨rfl,by first|omega|(dsimp only; omega),hE,(by first|rfl|simp only [getT,List.map_append,List.map_cons,List.map_nil,strC,Am,and_self]),(by first|rfl|simp only [getT,List.map_append,List.map_cons,List.map_nil,strC,Am,and_self]),(by first|rfl|simp only [getT,List.map_append,List.map_cons,List.map_nil,strC,Am,and_self]),(by first|rfl|simp only [getT,List.map_append,List.map_cons,List.map_nil,strC,Am,and_self]),(by first|rfl|simp only [getT,List.map_append,List.map_cons,List.map_nil,strC,Am,and_self])⟩
 ·have d1:decide ((i:Int)<(l.length:Int))=false:=by simpa using hlt
  have ko:i=l.length:=by omega
  subst ko
  rw [List.drop_length] at hE
  have j0:Eu l=0:=hE
  have hV:=fun S tk k=>Xs S tk k l (Mi j0) (by omega)
  have hs:sysE l=if 24<(B8 l).length then 7 else 0:=by unfold sysE; rw [if_neg h64,j0]; rfl
  rw [hs]
  simp only [Au,Am] at hV
  by_cases h24:24<(B8 l).length
  ·have d2:decide (((B8 l).length:Int) > 24)=true:=by simp; omega
   simp (maxSteps:=10^6)+contextual(disch:=try exact dqd)only[ev1,simprocAttr,AV.int,AV.bool,AV.str,results8,e0,e9,e10,e11,d1,Au,hV,d2]
   rw [if_pos h24]
  ·have d2:decide (((B8 l).length:Int) > 24)=false:=by simp; omega
   simp (maxSteps:=10^6)+contextual(disch:=try exact dqd)only[ev1,simprocAttr,AV.int,AV.bool,AV.str,results8,e0,e9,e10,e11,d1,Au,hV,d2]
   rw [if_neg h24]
set_option maxRecDepth 100000 in
theorem Es (l:List RowT) (dt:∀ r ∈ l,r.1.length<=1048576):cL prog 7 [Au l] S tk k=some (.int (sysE l),S,tk,k):=by
 refine opP func7 ntmps7 ?_
 by_cases h64:64<l.length
 ·have d0:decide ((l.length:Int) > 64)=true:=by simp; omega
  simp (maxSteps:=10^6)+contextual(disch:=try exact dqd)only[ev1,simprocAttr,AV.int,AV.bool,AV.str,results7,Au,d0]
  simp [sysE,h64]
 have d0:decide ((l.length:Int) > 64)=false:=by simp; omega
 simp (maxSteps:=10^6)+contextual(disch:=try exact dqd)only[ev1,simprocAttr,AV.int,AV.bool,AV.str,results7,Au,d0]
 refine loop1 (P:=prog) (fun x st=>st.T.length=26/\(x<=l.length)/\(Eu l=Eu (l.drop x))/\getT st.T 0=Au l/\getT st.T 9=Au l/\getT st.T 10=.int l.length/\getT st.T 11=.int (x:Nat)/\st.S=[]) (fun x=>l.length - x) (fun x=>.int (sysE l)) (0) ?_ ?_
 case refine_2=>exact ⟨rfl,Nat.zero_le _,rfl,rfl,rfl,rfl,rfl,rfl⟩
 rintro i ⟨T,S',tk',n'⟩ ⟨hl,hi,hE,e0,e9,e10,e11,eS⟩ IH
 subst eS
 obtain ⟨g,hg,hT⟩:=Av hl
 rw [hg] at e0 e9 e10 e11
 subst hT
 clear hg hl
 have jf:=B9 (i:=i) (by omega)
 by_cases hlt:i<l.length
 ·have d1:decide ((i:Int)<(l.length:Int))=true:=by simpa using hlt
  obtain ⟨r,hx⟩:=Ag hlt
  have hx':=H7 hx
  have hC:=fun S tk k=>N7 S tk k r.1 r.2.1 (dt r (U7 hx))
  simp only [rowC,An] at hx'
  simp only [linA,An] at hC
  rw [Bc hx,Eu] at hE
  generalize B1 r.1 r.2.1=e at *
  cases h0:(e != 0) with
  | true =>
   simp (maxSteps:=10^6)+contextual(disch:=try exact dqd)only[ev1,simprocAttr,AV.int,AV.bool,AV.str,results7,e0,e9,e10,e11,d1,Au,hx',hC,jf,h0]
   rw [h0,if_pos rfl] at hE
   unfold sysE
   rw [if_neg h64,hE,if_pos h0]
  | false =>
   rw [h0,if_neg (by simp)] at hE
   simp (maxSteps:=10^6)+contextual(disch:=try exact dqd)only[ev1,simprocAttr,AV.int,AV.bool,AV.str,results7,e0,e9,e10,e11,d1,Au,hx',hC,jf,h0]
   exact IH (i+1) _ (by first|omega|(simp only; omega)) ⟨rfl,by first|omega|(dsimp only; omega),hE,(by first|rfl|simp only [getT,List.map_append,List.map_cons,List.map_nil,strC,Am,and_self]),(by first|rfl|simp only [getT,List.map_append,List.map_cons,List.map_nil,strC,Am,and_self]),(by first|rfl|simp only [getT,List.map_append,List.map_cons,List.map_nil,strC,Am,and_self]),(by first|rfl|simp only [getT,List.map_append,List.map_cons,List.map_nil,strC,Am,and_self]),(by first|rfl|simp only [getT,List.map_append,List.map_cons,List.map_nil,strC,Am,and_self])⟩
 ·have d1:decide ((i:Int)<(l.length:Int))=false:=by simpa using hlt
  have ko:i=l.length:=by omega
  subst ko
  rw [List.drop_length] at hE
  have j0:Eu l=0:=hE
  have hV:=fun S tk k=>B2 S tk k l (Mi j0) (by omega)
  have hs:sysE l=if 24<(B8 l).length then 7 else 0:=by unfold sysE; rw [if_neg h64,j0]; rfl
  rw [hs]
  simp only [Au,Am] at hV
  by_cases h24:24<(B8 l).length
  ·have d2:decide (((B8 l).length:Int) > 24)=true:=by simp; omega
   simp (maxSteps:=10^6)+contextual(disch:=try exact dqd)only[ev1,simprocAttr,AV.int,AV.bool,AV.str,results7,e0,e9,e10,e11,d1,Au,hV,d2]
   rw [if_pos h24]
  ·have d2:decide (((B8 l).length:Int) > 24)=false:=by simp; omega
   simp (maxSteps:=10^6)+contextual(disch:=try exact dqd)only[ev1,simprocAttr,AV.int,AV.bool,AV.str,results7,e0,e9,e10,e11,d1,Au,hV,d2]
   rw [if_neg h24]
theorem Gr {l:List RowT} (h:sysE l=0):fewC l/\l.length<=64/\(B8 l).length<=24/\Eu l=0:=by
 unfold sysE at h
 split at h
 ·cases h
 ·split at h
  ·rename_i h1 h2; rw [h] at h2; cases h2
  ·rename_i h1 h2
   split at h
   ·cases h
   ·have h0:Eu l=0:=by simpa using h2
    exact ⟨Mi h0,by omega,by omega,h0⟩
theorem Aiz (l:List RowT) (h:sysE l=0):cL prog 11 [Au l] S tk k=some (Am (B8 l),S,tk,k):=by
 obtain ⟨h1,h2,-,-⟩:=Gr h
 have hC:=fun S tk k=>Qy S tk k l (fun r hr=>by have:=h1 r hr; omega)
 have hV:=fun S tk k=>Xs S tk k l h1 h2
 rw [h] at hC
 have d0:((0:Int) != 0)=false:=rfl
 simp only [Au,Am] at hC hV
 refine opP func11 ntmps11 ?_
 simp (maxSteps:=10^6)+contextual(disch:=try exact dqd)only[ev1,simprocAttr,AV.int,AV.bool,AV.str,results11,Au,Am,hC,hV,d0]
theorem Xw (l:List RowT) (h:sysE l=0):cL prog 10 [Au l] S tk k=some (Am (B8 l),S,tk,k):=by
 obtain ⟨h1,h2,-,-⟩:=Gr h
 have hC:=fun S tk k=>Es S tk k l (fun r hr=>by have:=h1 r hr; omega)
 have hV:=fun S tk k=>B2 S tk k l h1 h2
 rw [h] at hC
 have d0:((0:Int) != 0)=false:=rfl
 simp only [Au,Am] at hC hV
 refine opP func10 ntmps10 ?_
 simp (maxSteps:=10^6)+contextual(disch:=try exact dqd)only[ev1,simprocAttr,AV.int,AV.bool,AV.str,results10,Au,Am,hC,hV,d0]
end
end
section
open Go Tryz
def Pf (i:Nat):List ByteArray->ByteArray->Int
 | [],_=>-1
 | x :: l,s=>if sEq x s then i else Pf (i+1) l s
theorem Akq (a b:ByteArray):sEq a b=sEq b a:=by
 unfold sEq; rw [Bool.eq_iff_iff,beq_iff_eq,beq_iff_eq]; exact ⟨Eq.symm,Eq.symm⟩
section
variable (S:List Ent) (tk:List Nat) (k:Nat)
theorem Yj (l:List ByteArray) (s:ByteArray) (hlen:l.length<=1000000):cL prog 134 [.frz (l.map strC) .unk,.str s] S tk k=some (.int (Pf 0 l s),S,tk,k):=by
 refine opP func134 ntmps134 (hp3:=rfl) ?_
 simp (maxSteps:=10^6)+contextual(disch:=try exact dqd)only[ev1,simprocAttr,AV.int,AV.bool,AV.str,results134]
 refine loop1 (P:=prog) (fun x st=>st.T.length=19/\(x<=l.length)/\(Pf 0 l s=Pf x (l.drop x) s)/\getT st.T 0=.frz (l.map strC) .unk/\getT st.T 1=.str s/\getT st.T 7=.int (l.length:Nat)/\getT st.T 8=.int (x:Nat)/\st.S=[]) (fun x=>l.length - x) (fun x=>.int (Pf 0 l s)) (0) ?_ ?_
 case refine_2=>exact ⟨rfl,Nat.zero_le _,rfl,rfl,rfl,rfl,rfl,rfl⟩
 rintro i ⟨T,S',tk',n'⟩ ⟨hl,hi,hA,e0,e1,e7,e8,eS⟩ IH
 subst eS
 obtain ⟨g,hg,hT⟩:=Av hl
 rw [hg] at e0 e1 e7 e8
 subst hT
 clear hg hl
 by_cases la:i<l.length
 ·have d1:decide ((i:Int)<(l.length:Int))=true:=by simpa using la
  obtain ⟨x,hx⟩:=Ag la
  have hx':nth (l.map strC) i=some (strC x):=by rw [El,hx]; rfl
  have hw:IntKind.i64.wrap ((i:Int)+1)=((i+1:Nat):Int):=by rw [Ad (by unfold i64; omega)]; rfl
  rw [Bc hx] at hA
  simp only [Pf] at hA
  have hcm:=Akq s x
  cases hq:sEq x s <;> rw [hq] at hA hcm
  ·simp (maxSteps:=10^6)+contextual(disch:=try exact dqd)only[ev1,simprocAttr,AV.int,AV.bool,AV.str,results134,e0,e1,e7,e8,d1,hx',hw,strC,hq,hcm]
   exact IH (i+1) _ (by first|omega|(simp only; omega)) ⟨rfl,by first|omega|(dsimp only; omega),by simpa using hA,rfl,rfl,rfl,rfl,rfl⟩
  ·simp (maxSteps:=10^6)+contextual(disch:=try exact dqd)only[ev1,simprocAttr,AV.int,AV.bool,AV.str,results134,e0,e1,e7,e8,d1,hx',hw,strC,hq,hcm]
   simpa using hA.symm
 ·have d1:decide ((i:Int)<(l.length:Int))=false:=by simpa using la
  have he:i=l.length:=by omega
  simp (maxSteps:=10^6)+contextual(disch:=try exact dqd)only[ev1,simprocAttr,AV.int,AV.bool,AV.str,results134,e0,e1,e7,e8,d1]
  rw [hA,he,List.drop_length]; rfl
theorem Nv (l:List ByteArray) (s:ByteArray) (hlen:l.length<=1000000):cL prog 107 [.frz (l.map strC) .unk,.str s] S tk k=some (.int (Pf 0 l s),S,tk,k):=by
 have h:=fun S tk k=>Yj S tk k l s hlen
 refine opP func107 ntmps107 (hp3:=rfl) ?_
 simp (maxSteps:=10^6)+contextual(disch:=try exact dqd)only[ev1,simprocAttr,AV.int,AV.bool,AV.str,results107,h]
end
theorem Rz:∀ {l:List ByteArray} {s:ByteArray} {i:Nat},s ∈ l->∃ j,j<l.length/\Pf i l s=((i+j:Nat):Int)/\nth l j=some s
 | [],_,_,h=>by simp at h
 | x :: l,s,i,h=>by
  by_cases hx:sEq x s=true
  ·refine ⟨0,by simp,?_,?_⟩
   ·unfold Pf; rw [if_pos hx]; rfl
   ·have:x=s:=by rw [Qp] at hx; simpa using hx
    rw [this]; rfl
  ·rcases List.mem_cons.1 h with rfl|h
   ·exact absurd (by rw [Qp]; simp) hx
   ·obtain ⟨j,h1,h2,h3⟩:=Rz (i:=i+1) h
    refine ⟨j+1,by simpa using h1,?_,h3⟩
    unfold Pf; rw [if_neg hx,h2]; congr 1; omega
def idxV (vars:List ByteArray) (s:ByteArray):Nat:=(Pf 0 vars s).toNat
theorem Lk {l:List ByteArray} {s:ByteArray} (h:s ∈ l):Pf 0 l s=((idxV l s:Nat):Int)/\idxV l s<l.length:=by
 obtain ⟨j,h1,h2,h3⟩:=Rz (i:=0) h
 unfold idxV
 rw [h2]
 exact ⟨by omega,by omega⟩
def setC (F:Fld) (u z:Q) (ix:Nat) (row:List Q) (n:Int):List Q × Bool :=
 (put (put row (2*ix) (F.times u (F.whole n).1).1) (2*ix+1) (F.minus z (F.times u (F.whole n).1).1).1,((F.whole n).2 || (F.times u (F.whole n).1).2) || (F.minus z (F.times u (F.whole n).1).1).2)
def coefsC (F:Fld) (u z:Q) (vars:List ByteArray):List (ByteArray × Int)->List Q->List Q × Bool
 | [],row=>(row,false)
 | c :: cs,row=>((coefsC F u z vars cs (setC F u z (idxV vars c.1) row c.2).1).1,(setC F u z (idxV vars c.1) row c.2).2 || (coefsC F u z vars cs (setC F u z (idxV vars c.1) row c.2).1).2)
def H8 (F:Fld) (real W k:Nat) (c r:Q):Q × Bool:=if k<real\/k=W - 1 then F.minus c r else (c,false)
def costL (F:Fld) (real W:Nat):Nat->List Q->List Q->List Q × Bool
 | k,c :: cs,r :: rs=>((H8 F real W k c r).1 :: (costL F real W (k+1) cs rs).1,(H8 F real W k c r).2 || (costL F real W (k+1) cs rs).2)
 | _,cs,_=>(cs,false)
def Jr (F:Fld) (flip:Bool):Q × Bool:=if flip=true then ((F.whole (-1)).1,(F.whole 1).2 || (F.whole (-1)).2) else F.whole 1
def Ri (F:Fld) (u z:Q) (n:Int):Q × Bool:=((F.minus z (F.times u (F.whole n).1).1).1,((F.whole n).2 || (F.times u (F.whole n).1).2) || (F.minus z (F.times u (F.whole n).1).1).2)
def M9 (eq:Bool) (row:List Q) (slack:Nat) (u:Q):List Q:=if eq=true then row else put row slack u
def D2 (r:RowT):Bool:=decide (0<r.2.1)
def rowF (F:Fld) (z:Q) (vars:List ByteArray) (real W i slack:Nat) (r:RowT):List Q × Bool :=
 let u:=Jr F (D2 r)
 let a:=coefsC F u.1 z vars r.1 (List.replicate W z)
 let y:=Ri F u.1 z r.2.1
 (put (put (M9 r.2.2 a.1 slack u.1) (real+i) (F.whole 1).1) (W - 1) y.1,((u.2 || a.2) || (F.whole 1).2) || y.2)
def begS (F:Fld) (z:Q) (vars:List ByteArray) (real W:Nat):List RowT->Nat->Nat->Tb->Tb
 | [],_,_,t=>t
 | r :: l,i,slack,t =>
  let a:=rowF F z vars real W i slack r
  let c:=costL F real W 0 t.cost a.1
  begS F z vars real W l (i+1) (if r.2.2=true then slack else slack+1) { t with rows:=t.rows++[a.1],cost:=c.1,basis:=t.basis++[real+i],flip:=t.flip++[D2 r],fl:=(t.fl || a.2) || c.2 }
def neqs:List RowT->Nat
 | []=>0
 | r :: l=>(if r.2.2=true then 0 else 1)+neqs l
def Bj (F:Fld) (l:List RowT) (vars:List ByteArray) (fl:Bool):Tb :=
 let z:=F.whole 0
 let real:=2*vars.length+neqs l
 let W:=real+l.length+1
 begS F z.1 vars real W l 0 (2*vars.length) { vars:=vars.length,real:=real,rows:=[],cost:=List.replicate W z.1,basis:=[],flip:=[],fl:=fl || z.2 }
end
section
open Go
def Ma:Code->Nat
 | .seq a _=>Ma a
 | .region id _ _=>id
 | .block _ c=>Ma c
 | .loop c=>Ma c
 | .scope c=>Ma c
 | _=>0
def Ks (n:Nat):Code->List Nat->List Kont->Option (Code × List Kont)
 | .seq a b,lv,k=>match Ks n a lv (.seq b :: k) with|some r=>some r|none=>Ks n b lv k
 | .block id c,lv,k=>Ks n c lv (.block id :: k)
 | .scope c,lv,k=>Ks n c lv k
 | .cond _ a b,lv,k=>match Ks n a lv k with|some r=>some r|none=>Ks n b lv k
 | .loop c,lv,k=>if (Ma c == n)=true then some (.loop c,k) else match lv with
  | x :: lv=>Ks n c lv (.loop c x :: k)
  | []=>none
 | _,_,_=>none
def Ahn (fn:Func) (n:Nat) (lv:List Nat):Option (Code × List Kont):=match fn.body with|some c=>Ks n c lv []|none=>none
section
variable [Globs] {P:Program} [Ext P] {fn:Func}
noncomputable def KA (P:Program) [Ext P] (fn:Func) (n:Nat) (lv:List Nat) (st:St):Option (AV × St):=match Ahn fn n lv with|some (c,k)=>RK P fn c st k|none=>none
theorem Ade {n:Nat} {lv:List Nat} {c:Code} {k:List Kont} (h:Ahn fn n lv=some (c,k)) {st:St} {fin:Option (AV × St)->Option Rs} {Φ:Rs->Prop} {t:Tag (c,k)} (hg:Gd fin Φ (KX P fn c st k t)):Gd fin Φ (KA P fn n lv st):=by unfold KA; rw [h]; exact hg
theorem Ph {n:Nat} {lv:List Nat} {c:Code} {k:List Kont} (h:Ahn fn n lv=some (c,k)) {st:St} {fin:Option (AV × St)->Option Rs} {Φ:Rs->Prop} {t:Tag (c,k)} (hg:Gd fin Φ (KA P fn n lv st)):Gd fin Φ (KX P fn c st k t):=by unfold KA at hg; rw [h] at hg; exact hg
end
end
section
open Go
theorem Lx:∀ l:List RowT,neqs l<=l.length
 | []=>Nat.le_refl _
 | r :: l=>by
  have:=Lx l
  unfold neqs
  split <;> simp only [List.length_cons] <;> omega
theorem Mn {l:List RowT} {q:Nat} {r:RowT} (h:nth l q=some r):neqs (l.drop q)=(if r.2.2=true then 0 else 1)+neqs (l.drop (q+1)):=by
 rw [Bc h]; rfl
section
variable {P:Program} {t:TypeId} {x:AV} {S:List Ent} {n:Nat}
theorem P6 {a b c d e:Nat} : lit1 1 1 [(0,.sref a b c d e)]=some (.lit 1 [.sref a b c d e]):=rfl
theorem Adv (h:apT P t=some 1) (hx:leafOk x=true):apO P t (.frz [] .nilc) (.lit 1 [x]) S n=some (.sref S.length n 0 1 1,S++[⟨n,[x]⟩],n+1):=by
 have hl:litC 1 (.lit 1 [x])=some (1,[x]):=by simp [litC,hx]
 unfold apO
 rw [h]; simp only [hl]
 rw [if_pos ⟨by omega,by simp [roomy]⟩]
 rfl
theorem Ah7 {c:Cap} (h:apT P t=some 1) (hx:leafOk x=true):apO P t (.frz [] .nilc) (.frz [[x]] c) S n=some (.sref S.length n 0 1 1,S++[⟨n,[x]⟩],n+1):=by
 have hl:litC 1 (.frz [[x]] c)=some (1,[x]):=by simp [litC,hx,Da]
 unfold apO
 rw [h]; simp only [hl]
 rw [if_pos ⟨by omega,by simp [roomy]⟩]
 rfl
theorem Abz {id ep len:Nat} {cs:List AV} (h:apT P t=some 1) (hx:leafOk x=true) (hE:entAt S id ep=some cs) (hc:cs.length=len) (h0:0<len) (h1:len+1<=1048576):apO P t (.sref id ep 0 len 1) (.lit 1 [x]) S n=some (.sref id n 0 (len+1) 1,put S id ⟨n,cs++[x]⟩,n+1):=by
 have hl:litC 1 (.lit 1 [x])=some (1,[x]):=by simp [litC,hx]
 unfold apO
 rw [h]; simp only [hl]
 rw [if_pos ⟨by omega,by simp [roomy]⟩]
 simp only [apO2,hE]
 rw [if_pos ⟨trivial,h0⟩]
 rw [if_pos ⟨by omega,by simpa [roomy] using h1⟩]
theorem Aad {id ep len:Nat} {cs:List AV} {c:Cap} (h:apT P t=some 1) (hx:leafOk x=true) (hE:entAt S id ep=some cs) (hc:cs.length=len) (h0:0<len) (h1:len+1<=1048576):apO P t (.sref id ep 0 len 1) (.frz [[x]] c) S n=some (.sref id n 0 (len+1) 1,put S id ⟨n,cs++[x]⟩,n+1):=by
 have hl:litC 1 (.frz [[x]] c)=some (1,[x]):=by simp [litC,hx,Da]
 unfold apO
 rw [h]; simp only [hl]
 rw [if_pos ⟨by omega,by simp [roomy]⟩]
 simp only [apO2,hE]
 rw [if_pos ⟨trivial,h0⟩]
 rw [if_pos ⟨by omega,by simpa [roomy] using h1⟩]
end
structure BegC (S:List Ent) (l:List RowT) (vars:List ByteArray) (iq c W:Nat):Prop where
 hl:l.length<=1000
 jl:vars.length<=1000
 hv:∀ r ∈ l,∀ c ∈ r.1,c.1 ∈ vars
 hc:∀ r ∈ l,i64 r.2.1/\∀ c ∈ r.1,i64 c.2
 dd:fewC l
 k8:iq<S.length
 tf:c=2*vars.length+neqs l
 uw:W=c+l.length+1
end
section
open Go
theorem Amz {P:Program} {all:List Oper} {d:Option Tmp} {T:List AV} {S S':List Ent} (hL:loadsB all d=[]) (h2:S.length<=S'.length):reA P all d T S S'=some ():=Ain hL h2 (fun q h=>by simp at h)
def lcC (F:Fld) (z:Q) (ix:Nat) (cost:List Q) (n:Int):List Q × Bool :=
 (put (put cost (2*ix) (F.whole n).1) (2*ix+1) (F.minus z (F.whole n).1).1,(F.whole n).2 || (F.minus z (F.whole n).1).2)
def lcsC (F:Fld) (z:Q) (vars:List ByteArray):List (ByteArray × Int)->List Q->List Q × Bool
 | [],cost=>(cost,false)
 | c :: cs,cost=>((lcsC F z vars cs (lcC F z (idxV vars c.1) cost c.2).1).1,(lcC F z (idxV vars c.1) cost c.2).2 || (lcsC F z vars cs (lcC F z (idxV vars c.1) cost c.2).1).2)
def Nc (F:Fld):List Nat->List (List Q)->List Q->List Q × Bool
 | b :: bs,r :: rs,cost=>((Nc F bs rs (lessT F cost r b).1).1,(lessT F cost r b).2 || (Nc F bs rs (lessT F cost r b).1).2)
 | _,_,cost=>(cost,false)
def Yb (F:Fld) (t:Tb) (a:List (ByteArray × Int)) (vars:List ByteArray):Tb :=
 let t1:=Gc F t.rows.length 0 t
 let c1:=lcsC F (F.whole 0).1 vars a (List.replicate t1.cost.length (F.whole 0).1)
 let c2:=Nc F t1.basis t1.rows c1.1
 { t1 with cost:=c2.1,fl:=((t1.fl || (F.whole 0).2) || c1.2) || c2.2 }
def Ny (F:Fld) (t:Tb) (n:Int):Q × Bool :=
 ((F.minus (F.whole n).1 (at_ q0 t.cost (t.cost.length - 1))).1,(F.whole n).2 || (F.minus (F.whole n).1 (at_ q0 t.cost (t.cost.length - 1))).2)
end
section
open Go
def Kw (t t':Tb):Prop:=t'.real=t.real/\t'.vars=t.vars/\t'.cost.length=t.cost.length/\t'.rows.length=t.rows.length
theorem Kw.refl (t:Tb):Kw t t:=⟨rfl,rfl,rfl,rfl⟩
theorem Kw.trans {a b c:Tb} (h:Kw a b) (h':Kw b c):Kw a c:=⟨h'.1.trans h.1,h'.2.1.trans h.2.1,h'.2.2.1.trans h.2.2.1,h'.2.2.2.trans h.2.2.2⟩
theorem Vm {F:Fld} {l m:List Q} {c:Nat} : (lessT F l m c).1.length=l.length:=by
 unfold lessT
 split
 ·split
  ·rfl
  ·exact Mu
 ·rfl
theorem J0 {F:Fld} {row:List Q} {c i:Nat} : ∀ {l:List (List Q)} {k:Nat},(lessRows F row c i k l).1.length=l.length
 | [],_=>rfl
 | r :: l,k=>by simp only [lessRows,List.length_cons,J0]
theorem Ahw {F:Fld} {t:Tb} {i c:Nat} : Kw t (Dq F t i c):=⟨rfl,rfl,Vm,by simp only [Dq,J0,Ak]⟩
theorem Pr {F:Fld} : ∀ {K:Nat} {t t':Tb} {b:Bool},Gu F K t=some (b,t')->Kw t t'
 | 0,_,_,_,h=>by simp [Gu] at h
 | K+1,t,t',b,h=>by
  unfold Gu at h
  split at h
  ·simp only [Option.some.injEq,Prod.mk.injEq] at h; obtain ⟨-,rfl⟩:=h; exact Kw.refl _
  ·split at h
   ·simp only [Option.some.injEq,Prod.mk.injEq] at h; obtain ⟨-,rfl⟩:=h; exact Kw.refl _
   ·split at h
    ·simp only [Option.some.injEq,Prod.mk.injEq] at h; obtain ⟨-,rfl⟩:=h; exact ⟨rfl,rfl,rfl,rfl⟩
    ·have h2:=Pr h
     have h3:∀ (u:Tb) (i c:Nat),Kw u (Dq F u i c):=fun u i c=>Ahw
     have h4:=(h3 _ _ _).trans h2
     exact ⟨h4.1,h4.2.1,h4.2.2.1,h4.2.2.2⟩
theorem Vs {F:Fld} {real W:Nat} : ∀ {c r:List Q} {k:Nat},(costL F real W k c r).1.length=c.length
 | [],_,_=>by simp [costL]
 | a :: c,[],_=>rfl
 | a :: c,b :: r,k=>by simp only [costL,List.length_cons,Vs]
theorem Agb {F:Fld} {z:Q} {vars:List ByteArray} {real W:Nat} : ∀ {l:List RowT} {i sl:Nat} {t:Tb},(begS F z vars real W l i sl t).real=t.real/\(begS F z vars real W l i sl t).vars=t.vars/\(begS F z vars real W l i sl t).cost.length=t.cost.length/\(begS F z vars real W l i sl t).rows.length=t.rows.length+l.length
 | [],_,_,_=>⟨rfl,rfl,rfl,rfl⟩
 | r :: l,i,sl,t=>by
  unfold begS
  simp only
  have h:=Agb (F:=F) (z:=z) (vars:=vars) (real:=real) (W:=W) (l:=l) (i:=i+1) (sl:=if r.2.2=true then sl else sl+1) (t:={ t with rows:=t.rows++[(rowF F z vars real W i sl r).1],cost:=(costL F real W 0 t.cost (rowF F z vars real W i sl r).1).1,basis:=t.basis++[real+i],flip:=t.flip++[D2 r],fl:=(t.fl || (rowF F z vars real W i sl r).2) || (costL F real W 0 t.cost (rowF F z vars real W i sl r).1).2 })
  simp only [Vs,List.length_append,List.length_cons,List.length_nil] at h ⊢
  exact ⟨h.1,h.2.1,h.2.2.1,by omega⟩
theorem Mt {F:Fld} {l:List RowT} {vars:List ByteArray} {fl:Bool} : (Bj F l vars fl).real=2*vars.length+neqs l/\(Bj F l vars fl).vars=vars.length/\(Bj F l vars fl).cost.length=2*vars.length+neqs l+l.length+1/\(Bj F l vars fl).rows.length=l.length:=by
 unfold Bj
 have h:=Agb (F:=F) (z:=(F.whole 0).1) (vars:=vars) (real:=2*vars.length+neqs l) (W:=2*vars.length+neqs l+l.length+1) (l:=l) (i:=0) (sl:=2*vars.length) (t:={ vars:=vars.length,real:=2*vars.length+neqs l,rows:=[],cost:=List.replicate (2*vars.length+neqs l+l.length+1) (F.whole 0).1,basis:=[],flip:=[],fl:=fl || (F.whole 0).2 })
 simp only [List.length_replicate,List.length_nil,Nat.zero_add] at h ⊢
 exact h
def lsC:Option Q->List AV
 | none=>[.prim (.bool false),.frz [] .nilc,.prim (.bool false),.frz [] .nilc]
 | some q=>ceW q
def ansC (f:Bool) (pt nu:List Q) (c1 c2:Cap) (least:Option Q) (bd:Bool):List AV:=[.prim (.bool f),.frz (pt.map ceW) c1,.frz (nu.map ceW) c2]++lsC least++[.prim (.bool bd)]
def ans0:List AV:=[.prim (.bool false),.frz [] .nilc,.frz [] .nilc,.prim (.bool false),.frz [] .nilc,.prim (.bool false),.frz [] .nilc,.prim (.bool false)]
structure Ans where
 f:Bool
 pt:List Q
 nu:List Q
 least:Option (Q × Bool)
def G8 (F:Fld) (K:Nat) (l:List RowT) (vars:List ByteArray) (fl:Bool):Option (Ans × Bool) :=
 match Gu F K (Bj F l vars fl) with
 | none=>none
 | some (_,t)=>if (F.stop && t.fl)=true then some (⟨false,[],[],none⟩,false) else
  if H5 t=true then some (⟨true,(B6 F t).1.map F.rat,[],none⟩,!(F.stop && (t.fl || (B6 F t).2)))
  else some (⟨false,[],(Gw F t).1.map F.rat,none⟩,!(F.stop && (t.fl || (Gw F t).2)))
def P8 (F:Fld) (K:Nat) (l:List RowT) (vars:List ByteArray) (fl:Bool) (cs:List (ByteArray × Int)) (n:Int):Option (Ans × Bool) :=
 match Gu F K (Bj F l vars fl) with
 | none=>none
 | some (_,t)=>if (F.stop && t.fl)=true then some (⟨false,[],[],none⟩,false) else
  if H5 t=true then
   match Gu F K (Yb F { t with fl:=t.fl || (B6 F t).2 } cs vars) with
   | none=>none
   | some (true,u)=>some (⟨true,(B6 F t).1.map F.rat,[],some (F.rat (Ny F u n).1,true)⟩,!(F.stop && (u.fl || (Ny F u n).2)))
   | some (false,u)=>some (⟨true,(B6 F t).1.map F.rat,[],some ((0,1),false)⟩,!(F.stop && u.fl))
  else some (⟨false,[],(Gw F t).1.map F.rat,none⟩,!(F.stop && (t.fl || (Gw F t).2)))
end
section
open Go Tryz
theorem Ms {l:List RowT} : ∀ r ∈ l,∀ c ∈ r.1,c.1 ∈ B8 l:=fun r hr c hc=>by
 refine ((Jg (Bm l)).2.1 c.1).2 ?_
 unfold Bm
 refine List.mem_flatten.2 ⟨r.1.map (·.1),List.mem_map.2 ⟨r,hr,rfl⟩,List.mem_map.2 ⟨c,hc,rfl⟩⟩
def Yq (l:List RowT) (a:Ans):Prop:=∀ S tk k,cL prog 31 [Au l,Am (B8 l),.prim (.pointer none)] S tk k=some (.agg (ansC a.f a.pt a.nu .unk .unk (some (0,0)) false),S,tk,k)
section
variable (S:List Ent) (tk:List Nat) (k:Nat)
theorem Jk (l:List RowT) (dt:∀ r ∈ l,r.1.length<=1048576) (a:Ans) (hA:sysE l=0->Yq l a) :
  cL prog 13 [Au l] S tk k=some (.tup [.bool (if sysE l=0 then a.f else false),.int (sysE l)],S,tk,k):=by
 have hC:=fun S tk k=>Es S tk k l dt
 by_cases h0:sysE l=0
 ·obtain ⟨h1,h2,h3,-⟩:=Gr h0
  have hV:=fun S tk k=>B2 S tk k l h1 h2
  have hA:=hA h0
  unfold Yq at hA
  have c1:(sysE l != 0)=false:=by simpa using h0
  simp only [ansC,lsC,ceW,Au,Am,List.cons_append,List.nil_append] at hA
  simp only [Au,Am] at hC hV
  refine opP func13 ntmps13 (hp3:=rfl) ?_
  simp (maxSteps:=10^6)+contextual(disch:=try exact dqd)only[ev1,simprocAttr,AV.int,AV.bool,AV.str,results13,Au,Am,hC,hV,hA,c1,h0]
  try (intro h; exact absurd h (by decide))
 ·simp only [Au] at hC
  have c1:(sysE l != 0)=true:=by simpa using h0
  refine opP func13 ntmps13 (hp3:=rfl) ?_
  simp (maxSteps:=10^6)+contextual(disch:=try exact dqd)only[ev1,simprocAttr,AV.int,AV.bool,AV.str,results13,Au,hC,c1,h0]
theorem Te (l:List RowT) (dt:∀ r ∈ l,r.1.length<=1048576) (a:Ans) (h0:sysE l=0) (hA:Yq l a) :
  cL prog 22 [Au l] S tk k=some (.tup [.frz (a.pt.map ceW) .unk,.bool a.f],S,tk,k):=by
 have hC:=fun S tk k=>Es S tk k l dt
 obtain ⟨h1,h2,h3,-⟩:=Gr h0
 have hV:=fun S tk k=>B2 S tk k l h1 h2
 have c1:(sysE l != 0)=false:=by simpa using h0
 unfold Yq at hA
 simp only [ansC,lsC,ceW,Au,Am,List.cons_append,List.nil_append] at hA
 simp only [Au,Am] at hC hV
 refine opP func22 ntmps22 (hp3:=rfl) ?_
 simp (maxSteps:=10^6)+contextual(disch:=try exact dqd)only[ev1,simprocAttr,AV.int,AV.bool,AV.str,results22,Au,Am,hC,hV,hA,c1]
 rfl
theorem Rc (l:List RowT) (dt:∀ r ∈ l,r.1.length<=1048576) (a:Ans) (h0:sysE l=0) (hA:Yq l a) (ms:List (List AV)) (hI:∀ S tk k,cL prog 49 [.frz (a.nu.map ceW) .unk] S tk k=some (.frz ms .unk,S,tk,k)) :
  cL prog 21 [Au l] S tk k=some (.tup [.frz (if a.f=true then [] else ms) .unk,.bool (!a.f)],S,tk,k):=by
 have hC:=fun S tk k=>Es S tk k l dt
 obtain ⟨h1,h2,h3,-⟩:=Gr h0
 have hV:=fun S tk k=>B2 S tk k l h1 h2
 have c1:(sysE l != 0)=false:=by simpa using h0
 unfold Yq at hA
 simp only [ansC,lsC,ceW,digA,Au,Am,List.cons_append,List.nil_append] at hA
 simp only [Au,Am] at hC hV
 cases hf:a.f with
 | true =>
  rw [hf] at hA
  rw [if_pos rfl]
  refine opP func21 ntmps21 (hp3:=rfl) ?_
  simp (maxSteps:=10^6)+contextual(disch:=try exact dqd)only[ev1,simprocAttr,AV.int,AV.bool,AV.str,results21,Au,Am,hC,hV,hA,c1]
 | false =>
  rw [hf] at hA
  rw [if_neg Bool.false_ne_true]
  refine opP func21 ntmps21 (hp3:=rfl) ?_
  simp (maxSteps:=10^6)+contextual(disch:=try exact dqd)only[ev1,simprocAttr,AV.int,AV.bool,AV.str,results21,Au,Am,hC,hV,hA,c1,hI]
end
end
section
open Go Tryz
def Ak2 (S:List Ent) (tk:List Nat) (ia ea iq eq:Nat) (l:List Q) (fl:Bool) (r:Rs):Prop :=
 ∃ S' k',r=(.tup [],S',tk,k')/\S'.length=S.length/\entAt S' ia ea=some (flat ceQ l)/\FAq S' iq eq fl/\∀ j,j≠ia->j≠iq->nth S' j=nth S j
section
variable (S:List Ent) (tk:List Nat) (k iq eq:Nat) (fl:Bool)
set_option maxHeartbeats 4000000 in
set_option maxRecDepth 100000 in
theorem Ama (it et ia ea ij ej W c:Nat) (rest:List AV) (a row:List Q) (ht:entAt S it et=some (.ifc 95 (.ref iq eq 0) :: rest)) (hq:FAq S iq eq fl) (ha:entAt S ia ea=some (flat ceQ a)) (hr:entAt S ij ej=some (flat ceQ row))
  (la:a.length=W) (lr:row.length=W) (hc:c<W) (hWb:W<=1000000) (oa:okL qF a) (orr:okL qF row) (ne1:ia≠ij) (ne2:ia≠it) (ne3:ia≠iq) (ne4:iq≠it) (ne5:iq≠ij) :
  ∃ r,cL prog 112 [.ref it et 0,.sref ia ea 0 W 2,.sref ij ej 0 W 2,.int c] S tk k=some r/\Ak2 S tk ia ea iq eq (lessT qF a row c).1 (fl || (lessT qF a row c).2) r:=by
 obtain ⟨Φ,hΦ⟩:∃ Φ,Φ=Ak2 S tk ia ea iq eq (lessT qF a row c).1 (fl || (lessT qF a row c).2):=⟨_,rfl⟩
 rw [<- hΦ]
 obtain ⟨b,hb⟩:=Ag (show c<a.length by omega)
 have ob:qF.ok b:=oa b (by rw [Ae] at hb; exact List.mem_of_getElem? hb)
 have yj:=Ar Ao hb
 have hlt:lessT qF a row c=if sgn b=0 then (a,false) else lessL qF b a row:=by unfold lessT; rw [hb]
 have hs:=Wk S tk k iq eq fl b ob hq
 refine opG func112 ntmps112 ?_
 by_cases h0:sgn b=0
 ·have d1:(sgn b == 0)=true:=by simpa using h0
  simp (maxSteps:=10^6)+contextual(disch:=try exact dqd)only[evg1,simprocAttr,AV.int,AV.bool,AV.str,results112,ht,ha,hc,yj,hs,d1,D3,xfs,puQ]
  rw [hlt,if_pos h0] at hΦ
  rw [hΦ]
  exact ⟨S,_,rfl,rfl,ha,by rw [Bool.or_false]; exact hq,fun j _ _=>rfl⟩
 have d1:(sgn b == 0)=false:=by simpa using h0
 rw [hlt,if_neg h0] at hΦ
 simp (maxSteps:=10^6)+contextual(disch:=try exact dqd)only[evg1,simprocAttr,AV.int,AV.bool,AV.str,results112,ht,ha,hc,yj,hs,d1,D3,xfs,puQ,Ao,Bg,ovQ]
 refine Ef (P:=prog) (fun x st=>st.T.length=70/\(lessL qF b a row=(x.2.2.1++(lessL qF b x.2.2.2.1 x.2.2.2.2.1).1,x.2.2.2.2.2 || (lessL qF b x.2.2.2.1 x.2.2.2.2.1).2))/\(x.2.2.1.length+x.2.2.2.1.length=W)/\(x.2.2.2.1.length=x.2.2.2.2.1.length)/\(∃ pr,row=pr++x.2.2.2.2.1/\pr.length=x.2.2.1.length)/\(x.1.length=S.length)/\(entAt x.1 ia ea=some (flat ceQ (x.2.2.1++x.2.2.2.1)))/\(FAq x.1 iq eq (fl || x.2.2.2.2.2))/\(∀ j,j≠ia->j≠iq->nth x.1 j=nth S j)/\(okL qF x.2.2.2.1)/\(okL qF x.2.2.2.2.1)/\getT st.T 0=.ref it et 0/\getT st.T 1=.sref ia ea 0 W 2/\getT st.T 2=.sref ij ej 0 W 2/\getT st.T 8=.ref S.length (k+1) 0/\getT st.T 27=.int (W:Nat)/\getT st.T 28=.int (x.2.2.1.length:Nat)/\st.S=x.1++[⟨k+1,ceQ b⟩]/\st.tk=tk/\st.n=x.2.1) (fun x=>x.2.2.2.2.1.length) (S,(k+1+1),([]:List Q),a,row,false) ?_ ?_
 case refine_2=>exact ⟨rfl,by simp,by simpa using la,la.trans lr.symm,⟨[],rfl,rfl⟩,rfl,ha,by rw [Bool.or_false]; exact hq,fun j _ _=>rfl,oa,orr,rfl,rfl,rfl,rfl,rfl,rfl,rfl,rfl,rfl⟩
 rintro ⟨S1,n1,p,u,rs,fp⟩ ⟨T,S',tk',n'⟩ ⟨hl,hR,hW,hu,cr,cj,he,hf,hj,ou,ors,e0,e1,e2,e8,e27,e28,eS,eT,eN⟩ IH
 simp only at hR hW hu cr cj he hf hj ou ors e0 e1 e2 e8 e27 e28 eS eT eN
 subst eS eT eN
 obtain ⟨g,hg,hT⟩:=Av hl
 rw [hg] at e0 e1 e2 e8 e27 e28
 subst hT
 clear hg hl
 by_cases cu:p.length<W
 ·have c1:decide ((p.length:Int)<(W:Int))=true:=by simpa using cu
  obtain ⟨a0,u,rfl⟩:∃ a0 u',u=a0 :: u':=by
   cases u with
   | nil=>simp at hW; omega
   | cons x u=>exact ⟨x,u,rfl⟩
  obtain ⟨r0,rs,rfl⟩:∃ r0 rs',rs=r0 :: rs':=by
   cases rs with
   | nil=>simp at hu
   | cons x u=>exact ⟨x,u,rfl⟩
  obtain ⟨pr,k9,ny⟩:=cr
  have oa0:=ou a0 (by simp)
  have or0:=ors r0 (by simp)
  have wu:nth row p.length=some r0:=by rw [k9,<- ny]; exact Ee
  have bo:=Ar Ao wu
  have td:=Ar (ce:=ceQ) Ao (Ee (p:=p) (u:=u) (x:=a0))
  obtain ⟨E,hE⟩:∃ E:Ent,E=⟨k+1,ceQ b⟩:=⟨_,rfl⟩
  have hbT:entAt (S1++[E]) S.length (k+1)=some (ceQ b):=by rw [hE]; exact Ai cj
  rw [<- hE]
  have bv:entAt S1 it et=some (.ifc 95 (.ref iq eq 0) :: rest):=by rw [Ab (hj it ne2.symm ne4.symm)]; exact ht
  have bw:entAt S1 ij ej=some (flat ceQ row):=by rw [Ab (hj ij ne1.symm ne5.symm)]; exact hr
  have htT:entAt (S1++[E]) it et=some (.ifc 95 (.ref iq eq 0) :: rest):=Aa bv
  have hrT:entAt (S1++[E]) ij ej=some (flat ceQ row):=Aa bw
  have heT:entAt (S1++[E]) ia ea=some (flat ceQ (p++a0 :: u)):=Aa he
  have hfT:=hf.app (L:=[E])
  have d6:=Wk (S1++[E]) tk' n' iq eq (fl || fp) r0 or0 hfT
  have bg:=A7 he
  have uz:rs.length<(r0 :: rs).length:=by simp
  have hw:IntKind.i64.wrap ((p.length:Int)+1)=(((p++[a0]).length:Nat):Int):=by rw [Ad (by unfold i64; omega)]; simp
  by_cases hz:sgn r0=0
  ·have c2:(sgn r0 != 0)=false:=by simpa using hz
   simp (maxSteps:=10^6)+contextual(disch:=try exact dqd)only[evg1,simprocAttr,AV.int,AV.bool,AV.str,results112,e0,e1,e2,e8,e27,e28,c1,c2,hw,htT,hrT,bo,cu,d6,D3,xfs,puQ]
   have aj:Ji qF b a0 r0=(a0,false):=by unfold Ji; rw [if_pos hz]
   exact IH (S1,n'+1,p++[a0],u,rs,fp) _ (by first|omega|(simp only; omega)) ⟨rfl,by rw [hR]; simp only [lessL,aj,List.append_assoc,List.cons_append,List.nil_append,Bool.false_or],by show (p++[a0]).length+u.length=W; simp only [List.length_append,List.length_cons,List.length_nil] at hW ⊢; omega,by simpa using hu,⟨pr++[r0],by rw [k9]; simp,by simp [ny]⟩,cj,by simpa using he,hf,hj,fun q hq=>ou q (by simp [hq]),fun q hq=>ors q (by simp [hq]),(by first|rfl|simp only [getT,List.map_append]),(by first|rfl|simp only [getT,List.map_append]),(by first|rfl|simp only [getT,List.map_append]),(by first|rfl|simp only [getT,List.map_append]),(by first|rfl|simp only [getT,List.map_append]),(by first|rfl|simp only [getT,List.map_append]),by simp only [hE],rfl,rfl⟩
  ·have c2:(sgn r0 != 0)=true:=by simpa using hz
   obtain ⟨x,hx⟩:∃ x,x=qF.times b r0:=⟨_,rfl⟩
   obtain ⟨y,hy⟩:∃ y,y=qF.minus a0 x.1:=⟨_,rfl⟩
   have re:IntKind.i64.wrap ((p.length:Int)+1)=(((p++[y.1]).length:Nat):Int):=by rw [Ad (by unfold i64; omega)]; simp
   have ox:qF.ok x.1:=by rw [hx]; exact Bz.times _ _ ob or0
   have oy:qF.ok y.1:=by rw [hy]; exact Bz.minus _ _ oa0 ox
   have db:=Aaz (S1++[E]) tk' (n'+1) iq eq (fl || fp) b r0 ob or0 hfT
   have hg1:=D4 (c:=x.2) hfT
   rw [<- hx] at db
   rw [Gp hf] at db hg1
   obtain ⟨S2,a8⟩:∃ S2,S2=flS S1 iq eq x.2:=⟨_,rfl⟩
   rw [<- a8] at db hg1
   have b8:FAq S2 iq eq ((fl || fp) || x.2):=by rw [a8]; exact hf.fS
   have fi:=J4 (S2++[E]) tk' (n'+1+4) iq eq ((fl || fp) || x.2) a0 x.1 oa0 ox (b8.app (L:=[E]))
   have hg2:=D4 (c:=y.2) (b8.app (L:=[E]))
   rw [<- hy] at fi
   rw [Gp b8] at fi hg2
   obtain ⟨S3,da⟩:∃ S3,S3=flS S2 iq eq y.2:=⟨_,rfl⟩
   rw [<- da] at fi hg2
   have df:FAq S3 iq eq (((fl || fp) || x.2) || y.2):=by rw [da]; exact b8.fS
   have dx:S3.length=S.length:=by rw [da,Bd,a8,Bd,cj]
   have b6:∀ j,j≠iq->nth S3 j=nth S1 j:=fun j hj=>by rw [da,Ax hj,a8,Ax hj]
   have nq:entAt S3 ia ea=some (flat ceQ (p++a0 :: u)):=by rw [Ab (b6 ia ne3)]; exact he
   have a0y:entAt (S3++[E]) ia ea=some (flat ceQ (p++a0 :: u)):=Aa nq
   have ho:=A4 (ce:=ceQ) Ao (l:=p++a0 :: u) (k:=p.length) (q':=y.1) (by simp)
   rw [Ge] at ho
   have hp3:=fun x=>Dd (L:=[E]) (x:=x) (A7 nq)
   have io:∀ x,List.take (S1++[E]).length (put S3 ia x++[E])=put S3 ia x++[E]:=fun x=>List.take_of_length_le (by simp [Ah,dx,cj])
   simp (maxSteps:=10^6)+contextual(disch:=try exact dqd)only[evg1,simprocAttr,AV.int,AV.bool,AV.str,results112,e0,e1,e2,e8,e27,e28,c1,c2,io,re,htT,hrT,heT,hbT,bo,td,cu,d6,db,fi,hg1,hg2,a0y,ho,hp3,D3,xfs,puQ,Ao,Bg,tkQ]
   have aj:Ji qF b a0 r0=(y.1,x.2 || y.2):=by unfold Ji; rw [if_neg hz,hy,hx]
   exact IH (put S3 ia ⟨ea,flat ceQ (p++y.1 :: u)⟩,n'+1+4+4,p++[y.1],u,rs,Bool.or fp (Bool.or x.2 y.2)) _ (by first|omega|(simp only; omega)) ⟨rfl,by rw [hR]; simp only [lessL,aj,List.append_assoc,List.cons_append,List.nil_append,Bool.or_assoc],by show (p++[y.1]).length+u.length=W; simp only [List.length_append,List.length_cons,List.length_nil] at hW ⊢; omega,by simpa using hu,⟨pr++[r0],by rw [k9]; simp,by simp [ny]⟩,Ah.trans dx,by rw [Af (A7 nq)]; simp,by have:=df.put (x:=⟨ea,flat ceQ (p++y.1 :: u)⟩) ne3; simpa only [Bool.or_assoc] using this,fun j h1 h2=>by rw [Ac (Ne.symm h1),b6 j h2]; exact hj j h1 h2,fun q hq=>ou q (by simp [hq]),fun q hq=>ors q (by simp [hq]),(by first|rfl|simp only [getT,List.map_append]),(by first|rfl|simp only [getT,List.map_append]),(by first|rfl|simp only [getT,List.map_append]),(by first|rfl|simp only [getT,List.map_append]),(by first|rfl|simp only [getT,List.map_append]),(by first|rfl|simp only [getT,List.map_append]),by simp only [hE],rfl,rfl⟩
 ·have c1:decide ((p.length:Int)<(W:Int))=false:=by simpa using cu
  have yp:u=[]:=List.length_eq_zero_iff.1 (by omega)
  subst yp
  simp (maxSteps:=10^6)+contextual(disch:=try exact dqd)only[evg1,simprocAttr,AV.int,AV.bool,AV.str,results112,e0,e1,e2,e8,e27,e28,c1]
  rw [hΦ,Je cj]
  simp only [lessL] at hR
  rw [hR]
  exact ⟨S1,n',rfl,cj,he,by rw [Bool.or_false]; exact hf,hj⟩
end
end
section
open Go
structure Ay (S:List Ent) (iq eq:Nat) (I:TI) (t:Tb) (c:Cap):Prop where
 top:entAt S I.it I.et=some [.ifc 95 (.ref iq eq 0),intA t.vars,intA t.real,cw I.ir I.er 1 t.rows.length,.sref I.ic I.ec 0 t.cost.length 2,cw I.ib I.eb 1 t.rows.length,.frz (t.flip.map D5) c]
 nids:I.ids.length=t.rows.length
 rowsE:t.rows≠[]->entAt S I.ir I.er=some (I.ids.map (gt t.cost.length 2))
 rowE:∀ i p r,nth I.ids i=some p->nth t.rows i=some r->entAt S p.1 p.2=some (flat ceQ r)
 rowW:∀ r ∈ t.rows,r.length=t.cost.length
 costE:entAt S I.ic I.ec=some (flat ceQ t.cost)
 basisE:t.rows≠[]->entAt S I.ib I.eb=some (t.basis.map intA)
 nb:t.basis.length=t.rows.length
 nf:t.flip.length=t.rows.length
 fa:FAq S iq eq t.fl
 ap:Apart I iq
 okr:∀ r ∈ t.rows,okL qF r
 okc:okL qF t.cost
 bigW:t.cost.length<=1000000
 bigM:t.rows.length<=1000000
 real:t.real<t.cost.length
 bB:∀ b ∈ t.basis,b<t.cost.length
section
variable {S S':List Ent} {iq eq:Nat} {I:TI} {t:Tb} {c:Cap}
theorem Ay.row (h:Ay S iq eq I t c) {i:Nat} {p:Nat × Nat} {r0 r':List Q} {fl':Bool} (hp:nth I.ids i=some p) (hr:nth t.rows i=some r0) (hl:r'.length=t.cost.length) (ho:okL qF r') (hS:∀ j,j≠p.1->j≠iq->nth S' j=nth S j) (he:entAt S' p.1 p.2=some (flat ceQ r')) (hf:FAq S' iq eq fl') :
  Ay S' iq eq I { t with rows:=put t.rows i r',fl:=fl' } c:=by
 have bg:i<t.rows.length:=Bk hr
 have m6:=h.ap.row p (Al hp)
 have key:∀ j e,j≠p.1->j≠iq->entAt S' j e=entAt S j e:=fun j e h1 h2=>Ab (hS j h1 h2)
 have hne:put t.rows i r'≠[]->t.rows≠[]:=fun hn h0=>hn (Afp.2 h0)
 refine ⟨?_,by rw [Ak]; exact h.nids,fun hn=>?_,fun j q r hq ae=>?_,fun r ae=>?_,?_,fun hn=>?_,by rw [Ak]; exact h.nb,by rw [Ak]; exact h.nf,hf,h.ap,fun r ae=>?_,h.okc,h.bigW,by rw [Ak]; exact h.bigM,h.real,h.bB⟩
 ·rw [key _ _ m6.1.symm h.ap.qt.symm,Ak]; exact h.top
 ·rw [key _ _ m6.2.1.symm h.ap.qr.symm]; exact h.rowsE (hne hn)
 ·rw [U6 bg] at ae
  by_cases e:j=i
  ·subst e
   rw [if_pos rfl] at ae
   rw [hp] at hq
   simp only [Option.some.injEq] at ae hq
   subst ae; subst hq; exact he
  ·rw [if_neg e] at ae
   have hq2:=h.ap.row q (Al hq)
   rw [key _ _ (h.ap.rows j i q p hq hp e) hq2.2.2.2.2]; exact h.rowE j q r hq ae
 ·rcases Bw ae with rfl|ae
  ·exact hl
  ·exact h.rowW r ae
 ·rw [key _ _ m6.2.2.1.symm h.ap.qc.symm]; exact h.costE
 ·rw [key _ _ m6.2.2.2.1.symm h.ap.qb.symm]; exact h.basisE (hne hn)
 ·rcases Bw ae with rfl|ae
  ·exact ho
  ·exact h.okr r ae
theorem Ay.setCost (h:Ay S iq eq I t c) {k':List Q} {fl':Bool} (hl:k'.length=t.cost.length) (ho:okL qF k') (hS:∀ j,j≠I.ic->j≠iq->nth S' j=nth S j) (he:entAt S' I.ic I.ec=some (flat ceQ k')) (hf:FAq S' iq eq fl') :
  Ay S' iq eq I { t with cost:=k',fl:=fl' } c:=by
 have key:∀ j e,j≠I.ic->j≠iq->entAt S' j e=entAt S j e:=fun j e h1 h2=>Ab (hS j h1 h2)
 refine ⟨?_,h.nids,fun hn=>?_,fun j q r hq ae=>?_,fun r ae=>by rw [hl]; exact h.rowW r ae,he,fun hn=>?_,h.nb,h.nf,hf,h.ap,h.okr,ho,by rw [hl]; exact h.bigW,h.bigM,by rw [hl]; exact h.real,fun b hb=>by rw [hl]; exact h.bB b hb⟩
 ·rw [key _ _ h.ap.tc h.ap.qt.symm,hl]; exact h.top
 ·rw [key _ _ h.ap.rc h.ap.qr.symm,hl]; exact h.rowsE hn
 ·have hq2:=h.ap.row q (Al hq)
  rw [key _ _ hq2.2.2.1 hq2.2.2.2.2]; exact h.rowE j q r hq ae
 ·rw [key _ _ h.ap.cb.symm h.ap.qb.symm]; exact h.basisE hn
theorem Ay.setBasis (h:Ay S iq eq I t c) {i b:Nat} (jk:t.rows≠[]) (hb:b<t.cost.length):Ay (put S I.ib ⟨I.eb,(put t.basis i b).map intA⟩) iq eq I { t with basis:=put t.basis i b } c:=by
 have bg:=A7 (h.basisE jk)
 have key:∀ j e,j≠I.ib->entAt (put S I.ib ⟨I.eb,(put t.basis i b).map intA⟩) j e=entAt S j e:=fun j e h1=>Aj (Ne.symm h1)
 refine ⟨?_,h.nids,fun hn=>?_,fun j q r hq ae=>?_,h.rowW,?_,fun hn=>Af bg,by rw [Ak]; exact h.nb,h.nf,h.fa.put h.ap.qb.symm,h.ap,h.okr,h.okc,h.bigW,h.bigM,h.real,fun x hx=>?_⟩
 ·rw [key _ _ h.ap.tb]; exact h.top
 ·rw [key _ _ h.ap.rb]; exact h.rowsE hn
 ·have hq2:=h.ap.row q (Al hq)
  rw [key _ _ hq2.2.2.2.1]; exact h.rowE j q r hq ae
 ·rw [key _ _ h.ap.cb]; exact h.costE
 ·rcases Bw hx with rfl|hx
  ·exact hb
  ·exact h.bB x hx
theorem Ay.flag (h:Ay S iq eq I t c) {fl':Bool} (hS:∀ j,j≠iq->nth S' j=nth S j) (hf:FAq S' iq eq fl'):Ay S' iq eq I { t with fl:=fl' } c:=by
 have key:∀ j e,j≠iq->entAt S' j e=entAt S j e:=fun j e h1=>Ab (hS j h1)
 refine ⟨?_,h.nids,fun hn=>?_,fun j q r hq ae=>?_,h.rowW,?_,fun hn=>?_,h.nb,h.nf,hf,h.ap,h.okr,h.okc,h.bigW,h.bigM,h.real,h.bB⟩
 ·rw [key _ _ h.ap.qt.symm]; exact h.top
 ·rw [key _ _ h.ap.qr.symm]; exact h.rowsE hn
 ·have hq2:=h.ap.row q (Al hq)
  rw [key _ _ hq2.2.2.2.2]; exact h.rowE j q r hq ae
 ·rw [key _ _ h.ap.qc.symm]; exact h.costE
 ·rw [key _ _ h.ap.qb.symm]; exact h.basisE hn
theorem Ay.app (h:Ay S iq eq I t c) (L:List Ent):Ay (S++L) iq eq I t c :=
 ⟨Aa h.top,h.nids,fun hn=>Aa (h.rowsE hn),fun j q r hq hr=>Aa (h.rowE j q r hq hr),h.rowW,Aa h.costE,fun hn=>Aa (h.basisE hn),h.nb,h.nf,h.fa.app,h.ap,h.okr,h.okc,h.bigW,h.bigM,h.real,h.bB⟩
structure LowQ (I:TI) (iq n:Nat) (t:Tb):Prop where
 it:I.it<n
 ic:I.ic<n
 ir:t.rows≠[]->I.ir<n
 ib:t.rows≠[]->I.ib<n
 row:∀ p ∈ I.ids,p.1<n
 iq:iq<n
theorem Ay.low (h:Ay S iq eq I t c):LowQ I iq S.length t:=by
 refine ⟨A7 h.top,A7 h.costE,fun hn=>A7 (h.rowsE hn),fun hn=>A7 (h.basisE hn),fun p hp=>?_,A7 h.fa⟩
 obtain ⟨i,hi⟩:=List.getElem?_of_mem hp
 have bg:=(List.getElem?_eq_some_iff.1 hi).1
 obtain ⟨r,hr⟩:=Ag (show i<t.rows.length by rw [<- h.nids]; exact bg)
 exact A7 (h.rowE i p r (by rw [Ae]; exact hi) hr)
theorem Ay.take (h:Ay S iq eq I t c) {n:Nat} (hl:LowQ I iq n t):Ay (S.take n) iq eq I t c:=by
 refine ⟨by rw [D6 hl.it]; exact h.top,h.nids,fun hn=>by rw [D6 (hl.ir hn)]; exact h.rowsE hn,fun j q r hq hr=>by rw [D6 (hl.row q (Al hq))]; exact h.rowE j q r hq hr,h.rowW,by rw [D6 hl.ic]; exact h.costE,fun hn=>by rw [D6 (hl.ib hn)]; exact h.basisE hn,h.nb,h.nf,h.fa.take hl.iq,h.ap,h.okr,h.okc,h.bigW,h.bigM,h.real,h.bB⟩
theorem LowQ.of {n:Nat} {t':Tb} (h:LowQ I iq n t) (hn:t'.rows≠[]->t.rows≠[]):LowQ I iq n t':=⟨h.it,h.ic,fun h'=>h.ir (hn h'),fun h'=>h.ib (hn h'),h.row,h.iq⟩
theorem Ay.frame (h:Ay S iq eq I t c) {n:Nat} {fl':Bool} (hl:LowQ I iq n t) (hS:∀ j,j<n->j≠iq->nth S' j=nth S j) (hf:FAq S' iq eq fl'):Ay S' iq eq I { t with fl:=fl' } c:=by
 have key:∀ j e,j<n->j≠iq->entAt S' j e=entAt S j e:=fun j e h1 h2=>Ab (hS j h1 h2)
 refine ⟨?_,h.nids,fun hn=>?_,fun j q r hq ae=>?_,h.rowW,?_,fun hn=>?_,h.nb,h.nf,hf,h.ap,h.okr,h.okc,h.bigW,h.bigM,h.real,h.bB⟩
 ·rw [key _ _ hl.it h.ap.qt.symm]; exact h.top
 ·rw [key _ _ (hl.ir hn) h.ap.qr.symm]; exact h.rowsE hn
 ·have hq2:=h.ap.row q (Al hq)
  rw [key _ _ (hl.row q (Al hq)) hq2.2.2.2.2]; exact h.rowE j q r hq ae
 ·rw [key _ _ hl.ic h.ap.qc.symm]; exact h.costE
 ·rw [key _ _ (hl.ib hn) h.ap.qb.symm]; exact h.basisE hn
def OutQ (I:TI) (iq j:Nat):Prop:=j≠iq/\j≠I.ic/\j≠I.ib/\∀ p ∈ I.ids,j≠p.1
def Rr (S:List Ent) (tk:List Nat) (iq eq:Nat) (I:TI) (t':Tb) (cc:Cap) (v:AV) (r:Rs):Prop :=
 ∃ S' k',r=(v,S',tk,k')/\S'.length=S.length/\Ay S' iq eq I t' cc/\∀ j,OutQ I iq j->nth S' j=nth S j
end
end
end Go.Proofs.YtcjffhadclngmaaGreat
