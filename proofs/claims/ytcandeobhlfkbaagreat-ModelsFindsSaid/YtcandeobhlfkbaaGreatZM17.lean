/- Part 17. -/
import Derived.Test.YtcandeobhlfkbaaGreatZM16
import Derived.WalkKit
namespace Go.Proofs.YtcandeobhlfkbaaGreat
section
open Go Tryz
def Ao (name:ByteArray):List (ByteArray × Int)->Int
 | []=>0
 | p :: r=>if sEq p.1 name then p.2 else Ao name r
def Qp (name:ByteArray):List (ByteArray × Int)->Nat->Int × Nat
 | [],_=>(-1,0)
 | p :: r,i=>if sEq p.1 name then (i,1) else ((Qp name r (i+1)).1,(Qp name r (i+1)).2+1)
def Da (pt:List (ByteArray × Int)):Int->List (ByteArray × Int)->Int × Bool
 | s,[]=>(s,true)
 | s,c :: r=>if (mulS c.2 (Ao c.1 pt)).2 then (if (addS s (mulS c.2 (Ao c.1 pt)).1).2 then Da pt (addS s (mulS c.2 (Ao c.1 pt)).1).1 r else (0,false)) else (0,false)
def Gk (cs:List (ByteArray × Int)) (n:Int) (pt:List (ByteArray × Int)):Int × Bool:=if Bo cs n=0 then Da pt n cs else (0,false)
section
variable (S:List Ent) (tk:List Nat) (k:Nat)
theorem Ajj (pt:List (ByteArray × Int)) (name:ByteArray) (hlen:pt.length<=1048576):cL prog 84 [Aa pt,.str name] S tk k=some (.int (Ao name pt),S,tk,k):=by
 refine opP func84 ntmps84 ?_
 simp (maxSteps:=10^6)+contextual(disch:=try exact dqd)only[ev1,simprocAttr,AV.int,AV.bool,AV.str,results84,Aa]
 refine loop1 (P:=prog) (fun i st=>st.T.length=24/\i<=pt.length/\getT st.T 0=Aa pt/\getT st.T 1=.str name/\getT st.T 5=.int (i:Nat)/\st.S=[]) (fun i=>pt.length - i) (fun i=>.int (Ao name (pt.drop i))) 0 ?_ ?_
 case refine_2=>exact ⟨rfl,Nat.zero_le _,rfl,rfl,rfl,rfl⟩
 rintro i ⟨T,S',tk',n'⟩ ⟨hl,hi,e0,e1,e5,rfl⟩ IH
 obtain ⟨g,hg,hT⟩:=Ap hl
 rw [hg] at e0 e1 e5
 subst hT
 clear hg hl
 by_cases hlt:i<pt.length
 ·have d1:decide ((i:Int)<(pt.length:Int))=true:=by simpa using hlt
  obtain ⟨c,hc⟩:=Ab hlt
  have a7:nth (pt.map A1) i=some (A1 c):=by rw [Bt,hc]; rfl
  have hw:=Av (i:=i) (by omega)
  rw [Ar hc]
  simp (maxSteps:=10^6)+contextual(disch:=try exact dqd)only[ev1,simprocAttr,AV.int,AV.bool,AV.str,results84,e0,e1,e5,d1,Aa,a7,hw,A1]
  refine ⟨fun h1=>by simp [Ao,h1],fun h1=>?_⟩
  rw [IH (i+1) _ (by omega) ⟨rfl,by omega,rfl,rfl,rfl,rfl⟩]
  simp [Ao,h1]
 ·have d1:decide ((i:Int)<(pt.length:Int))=false:=by simpa using hlt
  have he:i=pt.length:=by omega
  simp (maxSteps:=10^6)+contextual(disch:=try exact dqd)only[ev1,simprocAttr,AV.int,AV.bool,AV.str,results84,e0,e1,e5,d1,Aa]
  rw [he,List.drop_length]; rfl
theorem Aj6 (p c:ByteArray × Int) (id ep:Nat) (h:entAt S id ep=some (A1 c)):cL prog 30 [.agg (A1 p),.ref id ep 0] S tk k=some (.bool (sEq p.1 c.1),S,tk,k+1):=by
 refine opS func30 ntmps30 ?_
 simp (maxSteps:=10^6)+contextual(disch:=try exact dqd)only[evs1,simprocAttr,AV.int,AV.bool,AV.str,results30,A1,h]
theorem Pq (pt:List (ByteArray × Int)) (c:ByteArray × Int) (id ep:Nat) (hlen:pt.length<=1048576) (h:entAt S id ep=some (A1 c)) :
  cL prog 29 [Aa pt,.fn 30 [.ref id ep 0]] S tk k=some (.int (Qp c.1 pt 0).1,S,tk,k+(Qp c.1 pt 0).2):=by
 refine opS func29 ntmps29 ?_
 simp (maxSteps:=10^6)+contextual(disch:=try exact dqd)only[evs1,simprocAttr,AV.int,AV.bool,AV.str,results29,Aa]
 refine An6 (P:=prog) (fun x st=>st.T.length=19/\x.1<=pt.length/\getT st.T 0=Aa pt/\getT st.T 1=.fn 30 [.ref id ep 0]/\getT st.T 7=.int pt.length/\getT st.T 8=.int (x.1:Nat)/\st.S=S/\st.tk=tk/\st.n=x.2) (fun x=>pt.length - x.1)
  (fun x=>(.int (Qp c.1 (pt.drop x.1) x.1).1,S,tk,x.2+(Qp c.1 (pt.drop x.1) x.1).2)) (0,k) ?_ ?_
 case refine_2=>exact ⟨rfl,Nat.zero_le _,rfl,rfl,rfl,rfl,rfl,rfl,rfl⟩
 rintro ⟨i,m⟩ ⟨T,S',tk',n'⟩ ⟨hl,hi,e0,e1,e7,e8,eS,eT,eN⟩ IH
 simp only at eS eT eN
 subst eS eT eN
 obtain ⟨g,hg,hT⟩:=Ap hl
 rw [hg] at e0 e1 e7 e8
 subst hT
 clear hg hl
 simp only at hi e8
 by_cases hlt:i<pt.length
 ·have d1:decide ((i:Int)<(pt.length:Int))=true:=by simpa using hlt
  obtain ⟨p,hc⟩:=Ab hlt
  have a7:nth (pt.map A1) i=some (A1 p):=by rw [Bt,hc]; rfl
  have hw:=Av (i:=i) (by omega)
  have hf:=fun k=>Aj6 S' tk' k p c id ep h
  simp only [A1] at hf a7
  rw [Ar hc]
  simp (maxSteps:=10^6)+contextual(disch:=try exact dqd)only[evs1,simprocAttr,AV.int,AV.bool,AV.str,results29,e0,e1,e7,e8,d1,Aa,a7,hw,hf]
  refine ⟨fun h1=>by simp [Qp,h1],fun h1=>?_⟩
  rw [IH (i+1,n'+1) _ (by simp only; omega) ⟨rfl,hlt,rfl,rfl,rfl,rfl,rfl,rfl,rfl⟩]
  simp [Qp,h1]; omega
 ·have d1:decide ((i:Int)<(pt.length:Int))=false:=by simpa using hlt
  have he:i=pt.length:=by omega
  simp (maxSteps:=10^6)+contextual(disch:=try exact dqd)only[evs1,simprocAttr,AV.int,AV.bool,AV.str,results29,e0,e1,e7,e8,d1,Aa]
  simp only [he,List.drop_length]; rfl
theorem Ab1 (name:ByteArray):∀ (l:List (ByteArray × Int)) (i:Nat),((Qp name l i).1=-1/\Ao name l=0)\/∃ j p,(Qp name l i).1=((i+j:Nat):Int)/\nth l j=some p/\Ao name l=p.2
 | [],_=>.inl ⟨rfl,rfl⟩
 | p :: r,i=>by
  simp only [Qp,Ao]
  by_cases h:sEq p.1 name=true
  ·rw [if_pos h,if_pos h]; exact .inr ⟨0,p,rfl,rfl,rfl⟩
  ·rw [if_neg h,if_neg h]
   rcases Ab1 name r (i+1) with ⟨h1,h2⟩|⟨j,q,h1,h2,h3⟩
   ·exact .inl ⟨h1,h2⟩
   ·exact .inr ⟨j+1,q,by rw [h1]; omega,h2,h3⟩
theorem Afb (cs:List (ByteArray × Int)) (n:Int) (pt:List (ByteArray × Int)) (hlen:cs.length<=1048576) (dd:pt.length<=1048576):cL prog 60 [linA cs n,Aa pt] S tk k=some (.tup [.int (Gk cs n pt).1,.bool (Gk cs n pt).2],S,tk,k):=by
 refine opP func60 ntmps60 ?_
 have hC:=fun S tk k=>Pw S tk k cs n hlen
 have hF:=fun S tk k name=>Ajj S tk k pt name dd
 simp only [linA,Aa] at hC hF
 simp (maxSteps:=10^6)+contextual(disch:=try exact dqd)only[ev1,simprocAttr,AV.int,AV.bool,AV.str,results60,linA,Aa,hC]
 refine ⟨fun h=>?_,fun h=>?_⟩
 ·have:¬ Bo cs n=0:=by simpa using h
  simp [Gk,this]
 have h0:Bo cs n=0:=by simpa using h
 have hv:Gk cs n pt=Da pt n cs:=by simp [Gk,h0]
 rw [hv]
 refine loop1 (P:=prog) (fun x st=>st.T.length=51/\x.1<=cs.length/\getT st.T 1=Aa pt/\getT st.T 2=.ref 0 0 0/\getT st.T 6=.int x.2/\getT st.T 7=.int (x.1:Nat)/\st.S=[⟨0,[Aa cs,.int n]⟩]) (fun x=>cs.length - x.1)
  (fun x=>.tup [.int (Da pt x.2 (cs.drop x.1)).1,.bool (Da pt x.2 (cs.drop x.1)).2]) (0,n) ?_ ?_
 case refine_2=>exact ⟨rfl,Nat.zero_le _,rfl,rfl,rfl,rfl,rfl⟩
 rintro ⟨i,s⟩ ⟨T,S',tk',n'⟩ ⟨hl,hi,e1,e2,e6,e7,rfl⟩ IH
 obtain ⟨g,hg,hT⟩:=Ap hl
 rw [hg] at e1 e2 e6 e7
 subst hT
 clear hg hl h hv h0
 simp only at hi e6 e7
 by_cases hlt:i<cs.length
 ·have d1:decide ((i:Int)<(cs.length:Int))=true:=by simpa using hlt
  obtain ⟨c,hc⟩:=Ab hlt
  have a7:nth (cs.map A1) i=some (A1 c):=by rw [Bt,hc]; rfl
  have hw:=Av (i:=i) (by omega)
  rw [Ar hc]
  simp (maxSteps:=10^6)+contextual(disch:=try exact dqd)only[ev1,simprocAttr,AV.int,AV.bool,AV.str,results60,e1,e2,e6,e7,d1,Aa,a7,hw,A1,hF,Amo,Amn,List.all_cons,pure1,pure2]
  refine ⟨fun h1=>⟨fun h2=>?_,fun h2=>?_⟩,fun h1=>?_⟩
  ·rw [IH (i+1,_) _ (by simp only; omega) ⟨rfl,hlt,rfl,rfl,rfl,rfl,rfl⟩]
   simp [Da,h1,h2]
  ·simp [Da,h1,h2]
  ·simp [Da,h1]
 ·have d1:decide ((i:Int)<(cs.length:Int))=false:=by simpa using hlt
  have he:i=cs.length:=by omega
  simp (maxSteps:=10^6)+contextual(disch:=try exact dqd)only[ev1,simprocAttr,AV.int,AV.bool,AV.str,results60,e1,e2,e6,e7,d1,Aa]
  rw [he,List.drop_length]; exact ⟨rfl,rfl⟩
theorem Ya (cs:List (ByteArray × Int)) (n:Int) (pt:List (ByteArray × Int)) (hlen:cs.length<=1048576) (dd:pt.length<=1048576):cL prog 11 [linA cs n,Aa pt] S tk k=some (.tup [.int (Gk cs n pt).1,.bool (Gk cs n pt).2],S,tk,k):=by
 refine opP func11 ntmps11 ?_
 have hC:=fun S tk k=>N0 S tk k cs n hlen
 simp only [linA,Aa] at hC
 simp (maxSteps:=10^6)+contextual(disch:=try exact dqd)only[ev1,simprocAttr,AV.int,AV.bool,AV.str,results11,linA,Aa,hC]
 refine ⟨fun h=>?_,fun h=>?_⟩
 ·have:¬ Bo cs n=0:=by simpa using h
  simp [Gk,this]
 have h0:Bo cs n=0:=by simpa using h
 have hv:Gk cs n pt=Da pt n cs:=by simp [Gk,h0]
 rw [hv]
 refine loop1 (P:=prog) (fun x st=>st.T.length=54/\x.1<=cs.length/\getT st.T 1=Aa pt/\getT st.T 2=.ref 0 0 0/\getT st.T 6=.int x.2/\getT st.T 19=Aa cs/\getT st.T 20=.int cs.length/\getT st.T 21=.int (x.1:Nat)/\st.S=[⟨0,[Aa cs,.int n]⟩]) (fun x=>cs.length - x.1)
  (fun x=>.tup [.int (Da pt x.2 (cs.drop x.1)).1,.bool (Da pt x.2 (cs.drop x.1)).2]) (0,n) ?_ ?_
 case refine_2=>exact ⟨rfl,Nat.zero_le _,rfl,rfl,rfl,rfl,rfl,rfl,rfl⟩
 rintro ⟨i,s⟩ ⟨T,S',tk',n'⟩ ⟨hl,hi,e1,e2,e6,e19,e20,e21,rfl⟩ IH
 obtain ⟨g,hg,hT⟩:=Ap hl
 rw [hg] at e1 e2 e6 e19 e20 e21
 subst hT
 clear hg hl h hv h0
 simp only at hi e6 e21
 by_cases hlt:i<cs.length
 ·have d1:decide ((i:Int)<(cs.length:Int))=true:=by simpa using hlt
  obtain ⟨c,hc⟩:=Ab hlt
  have a7:nth (cs.map A1) i=some (A1 c):=by rw [Bt,hc]; rfl
  have hw:=Av (i:=i) (by omega)
  rw [Ar hc]
  have hI:=fun k=>Pq [⟨0,[Aa cs,.int n]⟩,⟨n',A1 c⟩] tk' k pt c 1 n' dd (by simp [entAt,nth])
  simp only [Aa,A1] at hI a7
  have step:∀ v:Int,v=Ao c.1 pt->True:=fun _ _=>trivial
  rcases Ab1 c.1 pt 0 with ⟨h1,h2⟩|⟨j,p,h1,h2,h3⟩
  ·have d2:decide ((-1:Int) >= 0)=false:=rfl
   rw [h1] at hI
   simp (maxSteps:=10^6)+contextual(disch:=try exact dqd)only[ev1,simprocAttr,AV.int,AV.bool,AV.str,results11,e1,e2,e6,e19,e20,e21,d1,Aa,a7,hw,hI,Ahy,Ahx,Jp,d2]
   refine ⟨fun h5=>⟨fun h6=>?_,fun h6=>?_⟩,fun h5=>?_⟩
   ·rw [IH (i+1,_) _ (by simp only; omega) ⟨rfl,hlt,rfl,rfl,rfl,rfl,rfl,rfl,rfl⟩]
    simp [Da,h2,h5,h6]
   ·simp [Da,h2,h5,h6]
   ·simp [Da,h2,h5]
  ·have h2':nth (pt.map A1) j=some (A1 p):=by rw [Bt,h2]; rfl
   rw [Nat.zero_add] at h1
   have d2:decide ((j:Int) >= 0)=true:=by simp
   rw [h1] at hI
   simp only [A1] at h2'
   simp (maxSteps:=10^6)+contextual(disch:=try exact dqd)only[ev1,simprocAttr,AV.int,AV.bool,AV.str,results11,e1,e2,e6,e19,e20,e21,d1,Aa,a7,hw,hI,Ahy,Ahx,Jp,d2,h2']
   refine ⟨fun h5=>⟨fun h6=>?_,fun h6=>?_⟩,fun h5=>?_⟩
   ·rw [IH (i+1,_) _ (by simp only; omega) ⟨rfl,hlt,rfl,rfl,rfl,rfl,rfl,rfl,rfl⟩]
    simp [Da,h3,h5,h6]
   ·simp [Da,h3,h5,h6]
   ·simp [Da,h3,h5]
 ·have d1:decide ((i:Int)<(cs.length:Int))=false:=by simpa using hlt
  have he:i=cs.length:=by omega
  simp (maxSteps:=10^6)+contextual(disch:=try exact dqd)only[ev1,simprocAttr,AV.int,AV.bool,AV.str,results11,e1,e2,e6,e19,e20,e21,d1,Aa]
  rw [he,List.drop_length]; exact ⟨rfl,rfl⟩
end
abbrev Pt:=List (ByteArray × Int)
def radG (pt:Pt):Nat->Pt->Nat
 | m,[]=>m
 | m,c :: r=>radG pt (max m (Ao c.1 pt).natAbs) r
def radF (pt:Pt):Nat:=radG pt 0 pt
def befF (a b:Int):Bool:=if a.natAbs=b.natAbs then decide (b<a) else decide (a.natAbs<b.natAbs)
def Ahl (o:Option ByteArray) (s:ByteArray):Bool:=match o with|none=>true|some t=>sLt s t
def Em (a b:Pt):Option ByteArray->Pt->Option ByteArray
 | o,[]=>o
 | o,c :: r=>Em a b (if (Ao c.1 a != Ao c.1 b && Ahl o c.1)=true then some c.1 else o) r
def ordF (a b:Pt):Int :=
 if radF a<radF b then -1 else if radF b<radF a then 1 else match Em a b none (a++b) with
  | none=>0
  | some s=>if befF (Ao s a) (Ao s b)=true then -1 else 1
def PtI (pt:Pt):Prop:=∀ c ∈ pt,i64 c.2
theorem Qj {pt:Pt} (h:PtI pt) (s:ByteArray):i64 (Ao s pt):=by
 induction pt with
 | nil=>simp [Ao,i64]
 | cons c r ih =>
  unfold Ao
  split
  ·exact h c (by simp)
  ·exact ih fun d hd=>h d (by simp [hd])
theorem Ama {q:IntKind} {x y:Int} : maxA (.prim (.int q x)) (.prim (.int q y))=some (.prim (.int q (if y > x then y else x))):=by simp [maxA]
section
variable (S:List Ent) (tk:List Nat) (k:Nat)
theorem Df (pt:Pt) (name:ByteArray) (hlen:pt.length<=1048576):cL prog 36 [Aa pt,.str name] S tk k=some (.int (Ao name pt),S,tk,k):=by
 refine opP func36 ntmps36 ?_
 simp (maxSteps:=10^6)+contextual(disch:=try exact dqd)only[ev1,simprocAttr,AV.int,AV.bool,AV.str,results36,Aa]
 refine loop1 (P:=prog) (fun x st=>st.T.length=20/\(x<=pt.length)/\(Ao name pt=Ao name (pt.drop x))/\getT st.T 0=Aa pt/\getT st.T 1=.str name/\getT st.T 7=Aa pt/\getT st.T 8=.int pt.length/\getT st.T 9=.int (x:Nat)/\st.S=[]) (fun x=>pt.length - x) (fun x=>.int (Ao name pt)) (0) ?_ ?_
 case refine_2=>exact ⟨rfl,Nat.zero_le _,rfl,rfl,rfl,rfl,rfl,rfl,rfl⟩
 rintro i ⟨T,S',tk',n'⟩ ⟨hl,hi,hE,e0,e1,e7,e8,e9,eS⟩ IH
 subst eS
 obtain ⟨g,hg,hT⟩:=Ap hl
 rw [hg] at e0 e1 e7 e8 e9
 subst hT
 clear hg hl
 have a8:=Av (i:=i) (by omega)
 by_cases hlt:i<pt.length
 ·have d1:decide ((i:Int)<(pt.length:Int))=true:=by simpa using hlt
  obtain ⟨c,hc⟩:=Ab hlt
  have a7:nth (pt.map A1) i=some (A1 c):=by rw [Bt,hc]; rfl
  simp only [A1] at a7
  rw [Ar hc,Ao] at hE
  cases h0:sEq c.1 name with
  | true =>
   rw [if_pos h0] at hE
   simp (maxSteps:=10^6)+contextual(disch:=try exact dqd)only[ev1,simprocAttr,AV.int,AV.bool,AV.str,results36,e0,e1,e7,e8,e9,d1,Aa,a7,a8,h0]
   rw [hE]
  | false =>
   rw [if_neg (by rw [h0]; simp)] at hE
   simp (maxSteps:=10^6)+contextual(disch:=try exact dqd)only[ev1,simprocAttr,AV.int,AV.bool,AV.str,results36,e0,e1,e7,e8,e9,d1,Aa,a7,a8,h0]
   exact IH (i+1) _ (by first|omega|(simp only; omega)) ⟨rfl,by first|omega|(dsimp only; omega),hE,rfl,rfl,rfl,rfl,rfl,rfl⟩
 ·have d1:decide ((i:Int)<(pt.length:Int))=false:=by simpa using hlt
  have bp:i=pt.length:=by omega
  rw [bp,List.drop_length] at hE
  simp (maxSteps:=10^6)+contextual(disch:=try exact dqd)only[ev1,simprocAttr,AV.int,AV.bool,AV.str,results36,e0,e1,e7,e8,e9,d1,Aa]
  rw [hE]; rfl
theorem Ll (n:Int) (hn:i64 n):cL prog 53 [.int n] S tk k=some (.prim (.int .u64 (n.natAbs:Nat)),S,tk,k):=by
 unfold i64 at hn
 refine opP func53 ntmps53 ?_
 have hw:n<0->IntKind.u64.wrap (0 - IntKind.u64.wrap n)=((n.natAbs:Nat):Int):=fun h=>by
  simp only [IntKind.wrap,IntKind.bits,IntKind.signed]; simp; omega
 have hw2:¬ n<0->IntKind.u64.wrap n=((n.natAbs:Nat):Int):=fun h=>by
  simp only [IntKind.wrap,IntKind.bits,IntKind.signed]; simp; omega
 by_cases h:n<0
 ·have d1:decide (n<0)=true:=by simpa using h
  have hw:=hw h
  simp (maxSteps:=10^6)+contextual(disch:=try exact dqd)only[ev1,simprocAttr,AV.int,AV.bool,AV.str,results53,d1,hw]
 ·have d1:decide (n<0)=false:=by simpa using h
  have hw2:=hw2 h
  simp (maxSteps:=10^6)+contextual(disch:=try exact dqd)only[ev1,simprocAttr,AV.int,AV.bool,AV.str,results53,d1,hw2]
theorem Mr (pt:Pt) (hlen:pt.length<=1048576) (hp:PtI pt):cL prog 35 [Aa pt] S tk k=some (.prim (.int .u64 (radF pt:Nat)),S,tk,k):=by
 refine opP func35 ntmps35 ?_
 simp (maxSteps:=10^6)+contextual(disch:=try exact dqd)only[ev1,simprocAttr,AV.int,AV.bool,AV.str,results35,Aa]
 refine loop1 (P:=prog) (fun x st=>st.T.length=21/\(x.1<=pt.length)/\(radF pt=radG pt x.2 (pt.drop x.1))/\getT st.T 0=Aa pt/\getT st.T 3=.prim (.int .u64 (x.2:Nat))/\getT st.T 6=Aa pt/\getT st.T 7=.int pt.length/\getT st.T 8=.int (x.1:Nat)/\st.S=[]) (fun x=>pt.length - x.1) (fun x=>.prim (.int .u64 (radF pt:Nat))) (0,0) ?_ ?_
 case refine_2=>exact ⟨rfl,Nat.zero_le _,rfl,rfl,rfl,rfl,rfl,rfl,rfl⟩
 rintro ⟨i,m⟩ ⟨T,S',tk',n'⟩ ⟨hl,hi,hE,e0,e3,e6,e7,e8,eS⟩ IH
 simp only at hi hE e0 e3 e6 e7 e8 eS
 subst eS
 obtain ⟨g,hg,hT⟩:=Ap hl
 rw [hg] at e0 e3 e6 e7 e8
 subst hT
 clear hg hl
 have a8:=Av (i:=i) (by omega)
 by_cases hlt:i<pt.length
 ·have d1:decide ((i:Int)<(pt.length:Int))=true:=by simpa using hlt
  obtain ⟨c,hc⟩:=Ab hlt
  have a7:nth (pt.map A1) i=some (A1 c):=by rw [Bt,hc]; rfl
  have hC:=fun S tk k=>Df S tk k pt c.1 hlen
  have hZ:=fun S tk k=>Ll S tk k (Ao c.1 pt) (Qj hp c.1)
  simp only [A1] at a7
  simp only [Aa] at hC
  rw [Ar hc,radG] at hE
  have hm:(if (((Ao c.1 pt).natAbs:Nat):Int) > ((m:Nat):Int) then (((Ao c.1 pt).natAbs:Nat):Int) else ((m:Nat):Int))=((max m (Ao c.1 pt).natAbs:Nat):Int):=by
   split <;> omega
  simp (maxSteps:=10^6)+contextual(disch:=try exact dqd)only[ev1,simprocAttr,AV.int,AV.bool,AV.str,results35,e0,e3,e6,e7,e8,d1,Aa,a7,a8,hC,hZ,Ama,hm]
  exact IH (i+1,max m (Ao c.1 pt).natAbs) _ (by first|omega|(simp only; omega)) ⟨rfl,by first|omega|(dsimp only; omega),hE,rfl,rfl,rfl,rfl,rfl,rfl⟩
 ·have d1:decide ((i:Int)<(pt.length:Int))=false:=by simpa using hlt
  have bp:i=pt.length:=by omega
  rw [bp,List.drop_length] at hE
  simp (maxSteps:=10^6)+contextual(disch:=try exact dqd)only[ev1,simprocAttr,AV.int,AV.bool,AV.str,results35,e0,e3,e6,e7,e8,d1,Aa]
  rw [hE]; rfl
theorem Vl (a b:Int) (ha:i64 a) (hb:i64 b):cL prog 37 [.int a,.int b] S tk k=some (.bool (befF a b),S,tk,k):=by
 refine opP func37 ntmps37 ?_
 have h1:=fun S tk k=>Ll S tk k a ha
 have h2:=fun S tk k=>Ll S tk k b hb
 by_cases h:a.natAbs=b.natAbs
 ·have d1:(((a.natAbs:Nat):Int) != ((b.natAbs:Nat):Int))=false:=by simp; omega
  simp (maxSteps:=10^6)+contextual(disch:=try exact dqd)only[ev1,simprocAttr,AV.int,AV.bool,AV.str,results37,h1,h2,d1]
  simp [befF,h]
 ·have d1:(((a.natAbs:Nat):Int) != ((b.natAbs:Nat):Int))=true:=by simp; omega
  simp (maxSteps:=10^6)+contextual(disch:=try exact dqd)only[ev1,simprocAttr,AV.int,AV.bool,AV.str,results37,h1,h2,d1]
  simp [befF,h]
end
def szF (n:Int):Int:=if n=-9223372036854775808 then 9223372036854775807 else (n.natAbs:Int)
def strO (o:Option ByteArray):ByteArray:=match o with|none=>⟨#[]⟩|some s=>s
section
variable (S:List Ent) (tk:List Nat) (k:Nat)
theorem Ajo (n:Int) (hn:i64 n):cL prog 45 [.int n] S tk k=some (.int (szF n),S,tk,k):=by
 unfold i64 at hn
 refine opP func45 ntmps45 ?_
 by_cases h:n=-9223372036854775808
 ·have d1:(n == -9223372036854775808)=true:=by simpa using h
  simp (maxSteps:=10^6)+contextual(disch:=try exact dqd)only[ev1,simprocAttr,AV.int,AV.bool,AV.str,results45,d1]
  simp [szF,h]
 ·have d1:(n == -9223372036854775808)=false:=by simpa using h
  have hw:IntKind.i64.wrap (0 - n)=-n:=by rw [Ad (by unfold i64; omega)]; omega
  by_cases h0:n<0
  ·have d2:decide (n<0)=true:=by simpa using h0
   simp (maxSteps:=10^6)+contextual(disch:=try exact dqd)only[ev1,simprocAttr,AV.int,AV.bool,AV.str,results45,d1,d2,hw]
   simp only [szF,h,if_false,AV.prim.injEq,Value.int.injEq,true_and]
   omega
  ·have d2:decide (n<0)=false:=by simpa using h0
   simp (maxSteps:=10^6)+contextual(disch:=try exact dqd)only[ev1,simprocAttr,AV.int,AV.bool,AV.str,results45,d1,d2]
   simp only [szF,h,if_false,AV.prim.injEq,Value.int.injEq,true_and]
   omega
end
def Aad (a b:Pt):Nat->Pt
 | 0=>a++b
 | 1=>b
 | _=>[]
def atP (a b:Pt):Nat->Pt
 | 0=>a
 | _=>b
theorem Aog (a b:Pt) {p:Nat} (h:p<2):Aad a b p=atP a b p++Aad a b (p+1):=by
 rcases p with _|_|p
 ·rfl
 ·simp [Aad,atP]
 ·omega
section
variable (S:List Ent) (tk:List Nat) (k:Nat)
set_option maxRecDepth 100000 in
theorem Ha (a b:Pt) (ha:a.length<=100000) (hb:b.length<=100000) (ia:PtI a) (ib:PtI b):cL prog 18 [Aa a,Aa b] S tk k=some (.int (ordF a b),S,tk,k):=by
 have r1:=fun S tk k=>Mr S tk k a (by omega) ia
 have r2:=fun S tk k=>Mr S tk k b (by omega) ib
 simp only [Aa] at r1 r2
 unfold ordF
 refine opP func18 ntmps18 ?_
 by_cases c1:radF a<radF b
 ·have d1:decide (((radF a:Nat):Int)<((radF b:Nat):Int))=true:=by simp; omega
  rw [if_pos c1]
  simp (maxSteps:=10^6)+contextual(disch:=try exact dqd)only[ev1,simprocAttr,AV.int,AV.bool,AV.str,results18,Aa,r1,r2,d1]
 have d1:decide (((radF a:Nat):Int)<((radF b:Nat):Int))=false:=by simp; omega
 rw [if_neg c1]
 by_cases c2:radF b<radF a
 ·have d2:decide (((radF a:Nat):Int) > ((radF b:Nat):Int))=true:=by simp; omega
  rw [if_pos c2]
  simp (maxSteps:=10^6)+contextual(disch:=try exact dqd)only[ev1,simprocAttr,AV.int,AV.bool,AV.str,results18,Aa,r1,r2,d1,d2]
 have d2:decide (((radF a:Nat):Int) > ((radF b:Nat):Int))=false:=by simp; omega
 rw [if_neg c2]
 simp (maxSteps:=10^6)+contextual(disch:=try exact dqd)only[ev1,simprocAttr,AV.int,AV.bool,AV.str,results18,Aa,r1,r2,d1,d2]
 refine loop1 (P:=prog) (fun x st=>st.T.length=71/\(x.1<=2)/\(Em a b none (a++b)=Em a b x.2 (Aad a b x.1))/\getT st.T 0=Aa a/\getT st.T 1=Aa b/\getT st.T 7=.str (strO x.2)/\getT st.T 8=.bool x.2.isSome/\getT st.T 27=.frz [[Aa a],[Aa b]] .tight/\getT st.T 28=.int 2/\getT st.T 29=.int (x.1:Nat)/\st.S=[]) (fun x=>2 - x.1) (fun x=>.int (match Em a b none (a++b) with|none=>0|some s=>if befF (Ao s a) (Ao s b)=true then -1 else 1)) (0,(none:Option ByteArray)) ?_ ?_
 case refine_2=>exact ⟨rfl,Nat.zero_le _,rfl,rfl,rfl,rfl,rfl,rfl,rfl,rfl,rfl⟩
 rintro ⟨p,o⟩ ⟨T,S',tk',n'⟩ ⟨hl,hp,hE,e0,e1,e7,e8,e27,e28,e29,eS⟩ IH
 simp only at hp hE e0 e1 e7 e8 e27 e28 e29 eS
 subst eS
 obtain ⟨g,hg,hT⟩:=Ap hl
 rw [hg] at e0 e1 e7 e8 e27 e28 e29
 subst hT
 clear hg hl
 have OUT:=IH
 clear IH
 have xl:=Av (i:=p) (by omega)
 by_cases hlt:p<2
 ·have dp:decide ((p:Int)<(2:Int))=true:=by simp; omega
  have jb:nth [[Aa a],[Aa b]] p=some [Aa (atP a b p)]:=by
   rcases p with _|_|p
   ·rfl
   ·rfl
   ·omega
  have uf:(atP a b p).length<=100000:=by
   unfold atP; split <;> assumption
  rw [Aog a b hlt] at hE
  simp only [Aa] at jb
  simp (maxSteps:=10^6)+contextual(disch:=try exact dqd)only[ev1,simprocAttr,AV.int,AV.bool,AV.str,results18,e0,e1,e7,e8,e27,e28,e29,dp,jb,Aa]
  refine loop1 (P:=prog) (fun x st=>st.T.length=71/\(x.1<=(atP a b p).length)/\(Em a b none (a++b)=Em a b x.2 ((atP a b p).drop x.1++Aad a b (p+1)))/\getT st.T 0=Aa a/\getT st.T 1=Aa b/\getT st.T 7=.str (strO x.2)/\getT st.T 8=.bool x.2.isSome/\getT st.T 27=.frz [[Aa a],[Aa b]] .tight/\getT st.T 28=.int 2/\getT st.T 29=.int (p:Nat)/\getT st.T 33=Aa (atP a b p)/\getT st.T 34=.int (atP a b p).length/\getT st.T 35=.int (x.1:Nat)/\st.S=[]) (fun x=>(atP a b p).length - x.1) (fun x=>.int (match Em a b none (a++b) with|none=>0|some s=>if befF (Ao s a) (Ao s b)=true then -1 else 1)) (0,o) ?_ ?_
  case refine_2=>exact ⟨rfl,Nat.zero_le _,by simpa using hE,rfl,rfl,rfl,rfl,rfl,rfl,rfl,rfl,rfl,rfl,rfl⟩
  rintro ⟨j,o2⟩ ⟨T,S',tk',n'⟩ ⟨hl,hj,vp,e0,e1,e7,e8,e27,e28,e29,e33,e34,e35,eS⟩ IH
  simp only at hj vp e0 e1 e7 e8 e27 e28 e29 e33 e34 e35 eS
  subst eS
  obtain ⟨g,hg,hT⟩:=Ap hl
  rw [hg] at e0 e1 e7 e8 e27 e28 e29 e33 e34 e35
  subst hT
  clear hg hl
  have fo:=Av (i:=j) (by omega)
  by_cases ng:j<(atP a b p).length
  ·have dj:decide ((j:Int)<((atP a b p).length:Int))=true:=by simpa using ng
   obtain ⟨c,hc⟩:=Ab ng
   have a7:nth ((atP a b p).map A1) j=some (A1 c):=by rw [Bt,hc]; rfl
   rw [Ar hc,List.cons_append,Em] at vp
   have nq:=fun S tk k=>Df S tk k a c.1 (by omega)
   have nw:=fun S tk k=>Df S tk k b c.1 (by omega)
   simp only [Aa] at nq nw
   simp only [A1] at a7
   have stepf:∀ (d:Bool),(Ao c.1 a != Ao c.1 b)=d->∀ (q:Bool),Ahl o2 c.1=q->Em a b none (a++b)=Em a b (if (d && q)=true then some c.1 else o2) ((atP a b p).drop (j+1)++Aad a b (p+1)):=by
    intro d hd q hq; rw [vp,hd,hq]
   cases hd:(Ao c.1 a != Ao c.1 b) with
   | false =>
    simp (maxSteps:=10^6)+contextual(disch:=try exact dqd)only[ev1,simprocAttr,AV.int,AV.bool,AV.str,results18,e0,e1,e7,e8,e27,e28,e29,e33,e34,e35,dj,Aa,a7,fo,nq,nw,hd]
    exact IH (j+1,o2) _ (by first|omega|(simp only; omega)) ⟨rfl,by first|omega|(dsimp only; omega),stepf false hd _ rfl,rfl,rfl,rfl,rfl,rfl,rfl,rfl,rfl,rfl,rfl,rfl⟩
   | true =>
    cases o2 with
    | none =>
     simp (maxSteps:=10^6)+contextual(disch:=try exact dqd)only[ev1,simprocAttr,AV.int,AV.bool,AV.str,results18,e0,e1,e7,e8,e27,e28,e29,e33,e34,e35,dj,Aa,a7,fo,nq,nw,hd,Option.isSome]
     exact IH (j+1,some c.1) _ (by first|omega|(simp only; omega)) ⟨rfl,by first|omega|(dsimp only; omega),stepf true hd true rfl,rfl,rfl,rfl,rfl,rfl,rfl,rfl,rfl,rfl,rfl,rfl⟩
    | some t =>
     cases hs:sLt c.1 t with
     | true =>
      simp (maxSteps:=10^6)+contextual(disch:=try exact dqd)only[ev1,simprocAttr,AV.int,AV.bool,AV.str,results18,e0,e1,e7,e8,e27,e28,e29,e33,e34,e35,dj,Aa,a7,fo,nq,nw,hd,Option.isSome,strO,hs]
      exact IH (j+1,some c.1) _ (by first|omega|(simp only; omega)) ⟨rfl,by first|omega|(dsimp only; omega),stepf true hd true hs,rfl,rfl,rfl,rfl,rfl,rfl,rfl,rfl,rfl,rfl,rfl⟩
     | false =>
      simp (maxSteps:=10^6)+contextual(disch:=try exact dqd)only[ev1,simprocAttr,AV.int,AV.bool,AV.str,results18,e0,e1,e7,e8,e27,e28,e29,e33,e34,e35,dj,Aa,a7,fo,nq,nw,hd,Option.isSome,strO,hs]
      exact IH (j+1,some t) _ (by first|omega|(simp only; omega)) ⟨rfl,by first|omega|(dsimp only; omega),stepf true hd false hs,rfl,rfl,rfl,rfl,rfl,rfl,rfl,rfl,rfl,rfl,rfl⟩
  ·have dj:decide ((j:Int)<((atP a b p).length:Int))=false:=by simpa using ng
   have fu:j=(atP a b p).length:=by omega
   rw [fu,List.drop_length,List.nil_append] at vp
   simp (maxSteps:=10^6)+contextual(disch:=try exact dqd)only[ev1,simprocAttr,AV.int,AV.bool,AV.str,results18,e0,e1,e7,e8,e27,e28,e29,e33,e34,e35,dj,Aa,xl]
   exact OUT (p+1,o2) _ (by first|omega|(simp only; omega)) ⟨rfl,by first|omega|(dsimp only; omega),vp,rfl,rfl,rfl,rfl,rfl,rfl,rfl,rfl⟩
 ·have dp:decide ((p:Int)<(2:Int))=false:=by simp; omega
  have th:p=2:=by omega
  rw [th,show Aad a b 2=[] from rfl,Em] at hE
  rw [hE]
  cases o with
  | none =>
   simp (maxSteps:=10^6)+contextual(disch:=try exact dqd)only[ev1,simprocAttr,AV.int,AV.bool,AV.str,results18,e0,e1,e7,e8,e27,e28,e29,dp,Aa,Option.isSome]
  | some s =>
   have nq:=fun S tk k=>Df S tk k a s (by omega)
   have nw:=fun S tk k=>Df S tk k b s (by omega)
   have hB:=fun S tk k=>Vl S tk k (Ao s a) (Ao s b) (Qj ia s) (Qj ib s)
   simp only [Aa] at nq nw
   cases hbf:befF (Ao s a) (Ao s b) with
   | true =>
    simp (maxSteps:=10^6)+contextual(disch:=try exact dqd)only[ev1,simprocAttr,AV.int,AV.bool,AV.str,results18,e0,e1,e7,e8,e27,e28,e29,dp,Aa,Option.isSome,strO,nq,nw,hB,hbf]
   | false =>
    simp (maxSteps:=10^6)+contextual(disch:=try exact dqd)only[ev1,simprocAttr,AV.int,AV.bool,AV.str,results18,e0,e1,e7,e8,e27,e28,e29,dp,Aa,Option.isSome,strO,nq,nw,hB,hbf]
end
abbrev RowT:=List (ByteArray × Int) × Int × Bool
def rowC (r:RowT):List AV:=[Aa r.1,.prim (.int .i64 r.2.1),.prim (.bool r.2.2)]
def Aj (l:List RowT):AV:=.frz (l.map rowC) .unk
theorem H8 {l:List RowT} {i:Nat} {r:RowT} (h:nth l i=some r):nth (l.map rowC) i=some (rowC r):=by rw [Bt,h]; rfl
theorem Kw {l:List (ByteArray × Int)} {i:Nat} {c:ByteArray × Int} (h:nth l i=some c):nth (l.map A1) i=some (A1 c):=by rw [Bt,h]; rfl
theorem Vo {l:List ByteArray} {i:Nat} {s:ByteArray} (h:nth l i=some s):nth (l.map strC) i=some [.prim (.string s)]:=by rw [Bt,h]; rfl
theorem Ev (l:List ByteArray):Bl 1 (l.map strC)=true:=Du (f:=strC) (sz:=1) (fun _=>rfl) l
def Dh (l:List RowT):List ByteArray:=(l.map fun r=>r.1.map (·.1)).flatten
def A4 (l:List RowT):List ByteArray:=uniS (Dh l)
theorem Aec (l:List RowT) (r:RowT):Dh (l++[r])=Dh l++r.1.map (·.1):=by simp [Dh]
theorem Ew {α:Type} : ∀ {l:List α} {i:Nat} {x:α},nth l i=some x->l.take (i+1)=l.take i++[x]
 | a :: l,0,x,h=>by simp only [nth,Option.some.injEq] at h; subst h; rfl
 | a :: l,i+1,x,h=>by simp only [List.take_succ_cons,List.cons_append,Ew (l:=l) (i:=i) h]
 | [],_,_,h=>by simp [nth] at h
def fewC (l:List RowT):Prop:=∀ r ∈ l,r.1.length<=24
theorem Yf:∀ {l:List RowT},fewC l->(Dh l).length<=24*l.length
 | [],_=>by simp [Dh]
 | r :: l,h=>by
  have h1:=h r (by simp)
  have h2:=Yf (l:=l) fun x hx=>h x (by simp [hx])
  simp only [Dh,List.map_cons,List.flatten_cons,List.length_append,List.length_map,List.length_cons] at h2 ⊢
  omega
theorem H6 {α:Type} {l:List α} {i:Nat} {x:α} (h:nth l i=some x):x ∈ l:=List.mem_of_getElem? (by rw [Ac] at h; exact h)
theorem X2:∀ (l:List ByteArray) (s:ByteArray),∃ i,i<=l.length/\(∀ j x,j<i->nth l j=some x->sLt x s=true)/\(∀ x,nth l i=some x->sLt x s=false) /\
  putS l s=l.take i++[s]++l.drop (match nth l i with|some x=>if sEq x s=true then i+1 else i|none=>i)
 | [],s=>⟨0,Nat.le_refl _,fun j x h=>by omega,fun x h=>by simp [nth] at h,rfl⟩
 | y :: r,s=>by
  cases h1:sLt y s with
  | true =>
   obtain ⟨i,a,b,c,d⟩:=X2 r s
   refine ⟨i+1,by simp; exact a,fun j x hj hx=>?_,c,?_⟩
   ·cases j with
    | zero=>simp only [nth,Option.some.injEq] at hx; subst hx; exact h1
    | succ j=>exact b j x (by omega) hx
   ·rw [putS,if_pos h1,d]
    simp only [nth]
    cases nth r i with
    | none=>simp
    | some x=>by_cases h:sEq x s=true <;> simp [h]
  | false =>
   refine ⟨0,Nat.zero_le _,fun j x hj=>by omega,fun x hx=>?_,?_⟩
   ·simp only [nth,Option.some.injEq] at hx; subst hx; exact h1
   ·rw [putS,if_neg (by simp [h1])]
    simp only [nth]
    by_cases h:sEq y s=true
    ·have:y=s:=by rw [Gj] at h; simpa using h
     rw [if_pos h,if_pos h,this]; simp
    ·rw [if_neg h,if_neg h]; simp
section
variable (S:List Ent) (tk:List Nat) (k:Nat)
set_option maxRecDepth 100000 in
theorem Afa (l:List ByteArray) (s:ByteArray) (c:Cap) (hl:l.length<=100000):cL prog 75 [.frz (l.map strC) c,.str s] S tk k=some (Al (putS l s),S,tk,k):=by
 obtain ⟨i,hj0,h2,h3,h4⟩:=X2 l s
 rw [h4]
 refine opP func75 ntmps75 ?_
 simp (maxSteps:=10^6)+contextual(disch:=try exact dqd)only[ev1,simprocAttr,AV.int,AV.bool,AV.str,results75]
 refine loop1 (P:=prog) (fun x st=>st.T.length=52/\(x.1<=i)/\(x.2.1=l.take x.1)/\(A9 st.tk x.2.2 1=true)/\getT st.T 0=Al l/\getT st.T 1=.str s/\getT st.T 5=.frz (x.2.1.map strC) x.2.2/\getT st.T 6=.int (x.1:Nat)/\st.S=[]) (fun x=>i - x.1) (fun x=>Al (l.take i++[s]++l.drop (match nth l i with|some x=>if sEq x s=true then i+1 else i|none=>i))) (0,[],.nilc) ?_ ?_
 case refine_2=>exact ⟨rfl,Nat.zero_le _,rfl,rfl,rfl,rfl,rfl,rfl,rfl⟩
 rintro ⟨j,out,c⟩ ⟨T,S',tk',n'⟩ ⟨hl,hj,ho,hok,e0,e1,e5,e6,eS⟩ IH
 simp only at hj ho hok e0 e1 e5 e6 eS
 subst eS
 obtain ⟨g,hg,hT⟩:=Ap hl
 rw [hg] at e0 e1 e5 e6
 subst hT
 clear hg hl
 have hol:out.length<=l.length:=by rw [ho]; simp; omega
 have xn:(l.map strC).take l.length=l.map strC:=List.take_of_length_le (by simp)
 have hr:=Ev out
 have bc:=D2 hok
 have bm:(out.map strC).length+1<=1048576:=by simp; omega
 have fo:=Av (i:=j) (by omega)
 by_cases hlt:j<i
 ·have d1:decide ((j:Int)<(l.length:Int))=true:=by simp; omega
  obtain ⟨x,hx⟩:=Ab (show j<l.length by omega)
  have hx':=Vo hx
  have d2:=h2 j x hlt hx
  have j3:=Ew hx
  simp (maxSteps:=10^6)+contextual(disch:=try exact dqd)only[ev1,simprocAttr,AV.int,AV.bool,AV.str,results75,e0,e1,e5,e6,d1,d2,Al,hx',hr,fo]
  exact IH (j+1,out++[x],Bp tk' c 1) _ (by first|omega|(simp only; omega)) ⟨rfl,by first|omega|(dsimp only; omega),by rw [j3,ho],bc,(by first|rfl|simp only [getT,List.map_append,List.map_cons,List.map_nil,strC,Al,and_self]),(by first|rfl|simp only [getT,List.map_append,List.map_cons,List.map_nil,strC,Al,and_self]),(by first|rfl|simp only [getT,List.map_append,List.map_cons,List.map_nil,strC,Al,and_self]),(by first|rfl|simp only [getT,List.map_append,List.map_cons,List.map_nil,strC,Al,and_self]),(by first|rfl|simp only [getT,List.map_append,List.map_cons,List.map_nil,strC,Al,and_self])⟩
 have fu:j=i:=by omega
 subst fu
 subst ho
 have ah:=Ev (l.take j++[s])
 have zq:=Ev l
 have j4:=D2 bc
 simp only [List.map_append,List.map_cons,List.map_nil,strC] at ah
 by_cases jp:j<l.length
 case neg =>
  have d1:decide ((j:Int)<(l.length:Int))=false:=by simp; omega
  have sy:nth l j=none:=by rw [Ac]; exact List.getElem?_eq_none (by omega)
  have vq:Bl 1 (((l.map strC).take l.length).drop j)=true:=by rw [<- List.map_take,<- List.map_drop]; exact Ev _
  have db:((l.take j).map strC++[[(.prim (.string s):AV)]]).length+(((l.map strC).take l.length).drop j).length<=1048576:=by simp; omega
  simp (maxSteps:=10^6)+contextual(disch:=try exact dqd)only[ev1,simprocAttr,AV.int,AV.bool,AV.str,results75,e0,e1,e5,e6,d1,Al,hr,Hd,zq,bound,hj0,Nat.le_refl,Nat.zero_le,ah,vq]
  simp [sy,strC,xn]
 have d1:decide ((j:Int)<(l.length:Int))=true:=by simp; omega
 obtain ⟨x,hx⟩:=Ab jp
 have hx':=Vo hx
 have d2:=h3 x hx
 have pm:j+1<=l.length:=jp
 cases d3:sEq x s with
 | true =>
  have vq:Bl 1 (((l.map strC).take l.length).drop (j+1))=true:=by rw [<- List.map_take,<- List.map_drop]; exact Ev _
  have db:((l.take j).map strC++[[(.prim (.string s):AV)]]).length+(((l.map strC).take l.length).drop (j+1)).length<=1048576:=by simp; omega
  simp (maxSteps:=10^6)+contextual(disch:=try exact dqd)only[ev1,simprocAttr,AV.int,AV.bool,AV.str,results75,e0,e1,e5,e6,d1,d2,d3,hx',fo,Al,hr,Hd,zq,bound,pm,Nat.le_refl,Nat.zero_le,ah,vq]
  simp [hx,d3,strC,xn]
 | false =>
  have vq:Bl 1 (((l.map strC).take l.length).drop j)=true:=by rw [<- List.map_take,<- List.map_drop]; exact Ev _
  have db:((l.take j).map strC++[[(.prim (.string s):AV)]]).length+(((l.map strC).take l.length).drop j).length<=1048576:=by simp; omega
  simp (maxSteps:=10^6)+contextual(disch:=try exact dqd)only[ev1,simprocAttr,AV.int,AV.bool,AV.str,results75,e0,e1,e5,e6,d1,d2,d3,hx',fo,Al,hr,Hd,zq,bound,hj0,Nat.le_refl,Nat.zero_le,ah,vq]
  simp [hx,d3,strC,xn]
set_option maxRecDepth 100000 in
theorem Ae9 (l:List ByteArray) (s:ByteArray) (c c2:Cap) (hi:Inc l) (hl:l.length<=90000):cL prog 52 [.frz (l.map strC) c,.frz [[.prim (.string s)]] c2] S tk k=some (Al (putS l s),S,tk,k):=by
 refine opP func52 ntmps52 ?_
 simp (maxSteps:=10^6)+contextual(disch:=try exact dqd)only[ev1,simprocAttr,AV.int,AV.bool,AV.str,results52]
 refine loop1 (P:=prog) (fun x st=>st.T.length=33/\(x.1<=l.length)/\(x.2.1=l.take x.1)/\getT st.T 0=Al l/\getT st.T 1=.frz [[.prim (.string s)]] .unk/\getT st.T 5=.frz (x.2.1.map strC) x.2.2/\getT st.T 8=Al l/\getT st.T 9=.int l.length/\getT st.T 10=.int (x.1:Nat)/\st.S=[]) (fun x=>l.length - x.1) (fun x=>Al (putS l s)) (0,[],.nilc) ?_ ?_
 case refine_2=>exact ⟨rfl,Nat.zero_le _,rfl,rfl,rfl,rfl,rfl,rfl,rfl,rfl⟩
 rintro ⟨j,out,c3⟩ ⟨T,S',tk',n'⟩ ⟨hl,hj,ho,e0,e1,e5,e8,e9,e10,eS⟩ IH
 simp only at hj ho e0 e1 e5 e8 e9 e10 eS
 subst eS
 obtain ⟨g,hg,hT⟩:=Ap hl
 rw [hg] at e0 e1 e5 e8 e9 e10
 subst hT
 clear hg hl
 have fo:=Av (i:=j) (by omega)
 have hol:out.length<=l.length:=by rw [ho]; simp; omega
 by_cases hlt:j<l.length
 ·have d1:decide ((j:Int)<(l.length:Int))=true:=by simpa using hlt
  obtain ⟨x,hx⟩:=Ab hlt
  have hx':=Vo hx
  have hP:=fun S tk k=>Afa S tk k out x c3 (by omega)
  have th:putS out x=out++[x]:=Aci fun y hy=>by
   rw [ho] at hy
   have h1:Inc (l.take j++l.drop j):=by rw [List.take_append_drop]; exact hi
   exact (List.pairwise_append.1 h1).2.2 y hy x (by rw [Ar hx]; simp)
  rw [th] at hP
  simp only [Al] at hP
  have j3:=Ew hx
  simp (maxSteps:=10^6)+contextual(disch:=try exact dqd)only[ev1,simprocAttr,AV.int,AV.bool,AV.str,results52,e0,e1,e5,e8,e9,e10,d1,Al,hx',fo,hP]
  exact IH (j+1,out++[x],.unk) _ (by first|omega|(simp only; omega)) ⟨rfl,by first|omega|(dsimp only; omega),by rw [j3,ho],(by first|rfl|simp only [getT,List.map_append,List.map_cons,List.map_nil,strC,Al,and_self]),(by first|rfl|simp only [getT,List.map_append,List.map_cons,List.map_nil,strC,Al,and_self]),(by first|rfl|simp only [getT,List.map_append,List.map_cons,List.map_nil,strC,Al,and_self]),(by first|rfl|simp only [getT,List.map_append,List.map_cons,List.map_nil,strC,Al,and_self]),(by first|rfl|simp only [getT,List.map_append,List.map_cons,List.map_nil,strC,Al,and_self]),(by first|rfl|simp only [getT,List.map_append,List.map_cons,List.map_nil,strC,Al,and_self]),(by first|rfl|simp only [getT,List.map_append,List.map_cons,List.map_nil,strC,Al,and_self])⟩
 ·have d1:decide ((j:Int)<(l.length:Int))=false:=by simpa using hlt
  have fu:j=l.length:=by omega
  subst fu
  rw [List.take_length] at ho
  subst ho
  have hP:=fun S tk k=>Afa S tk k out s c3 (by omega)
  simp only [Al] at hP
  simp (maxSteps:=10^6)+contextual(disch:=try exact dqd)only[ev1,simprocAttr,AV.int,AV.bool,AV.str,results52,e0,e1,e5,e8,e9,e10,d1,Al]
  refine loop1 (P:=prog) (fun x st=>st.T.length=33/\(x<=1)/\getT st.T 1=.frz [[.prim (.string s)]] .unk/\getT st.T 5=(if x=0 then .frz (out.map strC) c3 else Al (putS out s))/\getT st.T 20=.frz [[.prim (.string s)]] .unk/\getT st.T 21=.int ((1:Nat):Int)/\getT st.T 22=.int (x:Nat)/\st.S=[]) (fun x=>1 - x) (fun x=>Al (putS out s)) (0) ?_ ?_
  case refine_2=>exact ⟨rfl,Nat.zero_le _,rfl,rfl,rfl,rfl,rfl,rfl⟩
  rintro j ⟨T,S',tk',n'⟩ ⟨hl,hj,e1,e5,e20,e21,e22,eS⟩ IH
  subst eS
  obtain ⟨g,hg,hT⟩:=Ap hl
  rw [hg] at e1 e5 e20 e21 e22
  subst hT
  clear hg hl
  by_cases h0:j=0
  ·subst h0
   rw [if_pos rfl] at e5
   have d2:decide (((0:Nat):Int)<((1:Nat):Int))=true:=rfl
   have zr:IntKind.i64.wrap (((0:Nat):Int)+1)=((1:Nat):Int):=Ad (by unfold i64; omega)
   simp (maxSteps:=10^6)+contextual(disch:=try exact dqd)only[ev1,simprocAttr,AV.int,AV.bool,AV.str,results52,e1,e5,e20,e21,e22,d2,zr,hP]
   exact IH (1) _ (by first|omega|(simp only; omega)) ⟨rfl,by first|omega|(dsimp only; omega),(by first|rfl|simp only [getT,List.map_append,List.map_cons,List.map_nil,strC,Al,and_self]),(by first|rfl|simp only [getT,List.map_append,List.map_cons,List.map_nil,strC,Al,and_self]),(by first|rfl|simp only [getT,List.map_append,List.map_cons,List.map_nil,strC,Al,and_self]),(by first|rfl|simp only [getT,List.map_append,List.map_cons,List.map_nil,strC,Al,and_self]),(by first|rfl|simp only [getT,List.map_append,List.map_cons,List.map_nil,strC,Al,and_self]),(by first|rfl|simp only [getT,List.map_append,List.map_cons,List.map_nil,strC,Al,and_self])⟩
  ·have pm:j=1:=by omega
   subst pm
   rw [if_neg (by omega)] at e5
   have d2:decide (((1:Nat):Int)<((1:Nat):Int))=false:=rfl
   simp (maxSteps:=10^6)+contextual(disch:=try exact dqd)only[ev1,simprocAttr,AV.int,AV.bool,AV.str,results52,e1,e5,e20,e21,e22,d2,Al]
end
def intC (x:Int):List AV:=[.prim (.int .i64 x)]
def K4:Nat->List Int
 | 0=>[0]
 | n+1=>K4 n++[((n+1:Nat):Int),-((n+1:Nat):Int)]
def Db (most:Int):List Int:=if most<0\/8<most then [] else K4 most.toNat
theorem Kd:∀ n,(K4 n).length=2*n+1
 | 0=>rfl
 | n+1=>by simp only [K4,List.length_append,Kd n,List.length_cons,List.length_nil]; omega
def Aae (pt:Pt) (r:RowT):Bool:=(Gk r.1 r.2.1 pt).2 && (decide ((Gk r.1 r.2.1 pt).1<=0) && (!r.2.2 || (Gk r.1 r.2.1 pt).1 == 0))
def satF (l:List RowT) (pt:Pt):Bool:=l.all (Aae pt)
section
variable (S:List Ent) (tk:List Nat) (k:Nat)
theorem Mq (most:Int):cL prog 17 [.int most] S tk k=some (.frz ((Db most).map intC) .unk,S,tk,k):=by
 refine opP func17 ntmps17 ?_
 by_cases h0:most<0
 ·have d0:decide (most<0)=true:=by simpa using h0
  simp (maxSteps:=10^6)+contextual(disch:=try exact dqd)only[ev1,simprocAttr,AV.int,AV.bool,AV.str,results17,d0]
  simp [Db,h0]
 have d0:decide (most<0)=false:=by simpa using h0
 by_cases h8:8<most
 ·have d8:decide (most > 8)=true:=by simpa using h8
  simp (maxSteps:=10^6)+contextual(disch:=try exact dqd)only[ev1,simprocAttr,AV.int,AV.bool,AV.str,results17,d0,d8]
  simp [Db,h8]
 have d8:decide (most > 8)=false:=by simpa using h8
 obtain ⟨m,rfl⟩:∃ m:Nat,most=(m:Int):=⟨most.toNat,by omega⟩
 have hv:Db (m:Int)=K4 m:=by unfold Db; rw [if_neg (by omega)]; congr 1
 rw [hv]
 simp (maxSteps:=10^6)+contextual(disch:=try exact dqd)only[ev1,simprocAttr,AV.int,AV.bool,AV.str,results17,d0,d8]
 refine loop1 (P:=prog) (fun x st=>st.T.length=24/\(x.1<=m)/\(x.2.1=K4 x.1)/\(A9 st.tk x.2.2 1=true)/\getT st.T 0=.int (m:Nat)/\getT st.T 3=.frz (x.2.1.map intC) x.2.2/\getT st.T 4=.int ((x.1+1:Nat):Int)/\st.S=[]) (fun x=>m - x.1) (fun x=>.frz ((K4 m).map intC) .unk) (0,[0],.tight) ?_ ?_
 case refine_2=>exact ⟨rfl,Nat.zero_le _,rfl,rfl,rfl,rfl,rfl,rfl⟩
 rintro ⟨i,out,c⟩ ⟨T,S',tk',n'⟩ ⟨hl,hi,ho,hok,e0,e3,e4,eS⟩ IH
 simp only at hi ho hok e0 e3 e4 eS
 subst eS
 obtain ⟨g,hg,hT⟩:=Ap hl
 rw [hg] at e0 e3 e4
 subst hT
 clear hg hl
 have hw:=Av (i:=i+1) (by omega)
 have hneg:IntKind.i64.wrap (0 - ((i+1:Nat):Int))=-((i+1:Nat):Int):=by rw [Ad (by unfold i64; omega)]; omega
 by_cases hlt:i<m
 ·have d1:decide (((i+1:Nat):Int)<=((m:Nat):Int))=true:=by simp; omega
  have hr:Bl 1 (out.map intC)=true:=Du (f:=intC) (sz:=1) (fun _=>rfl) out
  have bm:(out.map intC).length+[[(.prim (.int .i64 ((i+1:Nat):Int)):AV)],[.prim (.int .i64 (-((i+1:Nat):Int)))]].length<=1048576:=by
   rw [ho]; simp only [List.length_map,Kd,List.length_cons,List.length_nil]; omega
  have bc:=D2 hok
  simp (maxSteps:=10^6)+contextual(disch:=try exact dqd)only[ev1,simprocAttr,AV.int,AV.bool,AV.str,results17,e0,e3,e4,d1,hw,hneg,hr]
  exact IH (i+1,out++[((i+1:Nat):Int),-((i+1:Nat):Int)],Bp tk' c 1) _ (by first|omega|(simp only; omega)) ⟨rfl,by first|omega|(dsimp only; omega),by rw [ho]; rfl,bc,(by first|rfl|simp only [getT,List.map_append,List.map_cons,List.map_nil,intC,and_self]),(by first|rfl|simp only [getT,List.map_append,List.map_cons,List.map_nil,intC,and_self]),(by first|rfl|simp only [getT,List.map_append,List.map_cons,List.map_nil,intC,and_self]),(by first|rfl|simp only [getT,List.map_append,List.map_cons,List.map_nil,intC,and_self])⟩
 ·have d1:decide (((i+1:Nat):Int)<=((m:Nat):Int))=false:=by simp; omega
  have bp:i=m:=by omega
  subst bp
  simp (maxSteps:=10^6)+contextual(disch:=try exact dqd)only[ev1,simprocAttr,AV.int,AV.bool,AV.str,results17,e0,e3,e4,d1]
  rw [ho]
theorem Adg (most:Int):cL prog 44 [.int most] S tk k=some (.frz ((Db most).map intC) .unk,S,tk,k):=by
 refine opP func44 ntmps44 ?_
 by_cases h0:most<0
 ·have d0:decide (most<0)=true:=by simpa using h0
  simp (maxSteps:=10^6)+contextual(disch:=try exact dqd)only[ev1,simprocAttr,AV.int,AV.bool,AV.str,results44,d0]
  simp [Db,h0]
 have d0:decide (most<0)=false:=by simpa using h0
 by_cases h8:8<most
 ·have d8:decide (most > 8)=true:=by simpa using h8
  simp (maxSteps:=10^6)+contextual(disch:=try exact dqd)only[ev1,simprocAttr,AV.int,AV.bool,AV.str,results44,d0,d8]
  simp [Db,h8]
 have d8:decide (most > 8)=false:=by simpa using h8
 obtain ⟨m,rfl⟩:∃ m:Nat,most=(m:Int):=⟨most.toNat,by omega⟩
 have hv:Db (m:Int)=K4 m:=by unfold Db; rw [if_neg (by omega)]; congr 1
 rw [hv]
 simp (maxSteps:=10^6)+contextual(disch:=try exact dqd)only[ev1,simprocAttr,AV.int,AV.bool,AV.str,results44,d0,d8]
 refine loop1 (P:=prog) (fun x st=>st.T.length=24/\(x.1<=m)/\(x.2.1=K4 x.1)/\(A9 st.tk x.2.2 1=true)/\getT st.T 0=.int (m:Nat)/\getT st.T 3=.frz (x.2.1.map intC) x.2.2/\getT st.T 4=.int ((x.1+1:Nat):Int)/\st.S=[]) (fun x=>m - x.1) (fun x=>.frz ((K4 m).map intC) .unk) (0,[0],.tight) ?_ ?_
 case refine_2=>exact ⟨rfl,Nat.zero_le _,rfl,rfl,rfl,rfl,rfl,rfl⟩
 rintro ⟨i,out,c⟩ ⟨T,S',tk',n'⟩ ⟨hl,hi,ho,hok,e0,e3,e4,eS⟩ IH
 simp only at hi ho hok e0 e3 e4 eS
 subst eS
 obtain ⟨g,hg,hT⟩:=Ap hl
 rw [hg] at e0 e3 e4
 subst hT
 clear hg hl
 have hw:=Av (i:=i+1) (by omega)
 have hneg:IntKind.i64.wrap (0 - ((i+1:Nat):Int))=-((i+1:Nat):Int):=by rw [Ad (by unfold i64; omega)]; omega
 by_cases hlt:i<m
 ·have d1:decide (((i+1:Nat):Int)<=((m:Nat):Int))=true:=by simp; omega
  have hr:Bl 1 (out.map intC)=true:=Du (f:=intC) (sz:=1) (fun _=>rfl) out
  have bm:(out.map intC).length+[[(.prim (.int .i64 ((i+1:Nat):Int)):AV)],[.prim (.int .i64 (-((i+1:Nat):Int)))]].length<=1048576:=by
   rw [ho]; simp only [List.length_map,Kd,List.length_cons,List.length_nil]; omega
  have bc:=D2 hok
  simp (maxSteps:=10^6)+contextual(disch:=try exact dqd)only[ev1,simprocAttr,AV.int,AV.bool,AV.str,results44,e0,e3,e4,d1,hw,hneg,hr]
  exact IH (i+1,out++[((i+1:Nat):Int),-((i+1:Nat):Int)],Bp tk' c 1) _ (by first|omega|(simp only; omega)) ⟨rfl,by first|omega|(dsimp only; omega),by rw [ho]; rfl,bc,(by first|rfl|simp only [getT,List.map_append,List.map_cons,List.map_nil,intC,and_self]),(by first|rfl|simp only [getT,List.map_append,List.map_cons,List.map_nil,intC,and_self]),(by first|rfl|simp only [getT,List.map_append,List.map_cons,List.map_nil,intC,and_self]),(by first|rfl|simp only [getT,List.map_append,List.map_cons,List.map_nil,intC,and_self])⟩
 ·have d1:decide (((i+1:Nat):Int)<=((m:Nat):Int))=false:=by simp; omega
  have bp:i=m:=by omega
  subst bp
  simp (maxSteps:=10^6)+contextual(disch:=try exact dqd)only[ev1,simprocAttr,AV.int,AV.bool,AV.str,results44,e0,e3,e4,d1]
  rw [ho]
theorem Acv {l:List RowT} {i:Nat} {r:RowT} {pt:Pt} (h:nth l i=some r):satF (l.drop i) pt=(Aae pt r && satF (l.drop (i+1)) pt):=by
 rw [Ar h]; rfl
theorem Gg (l:List RowT) (pt:Pt) (hl:l.length<=1048576) (hr:∀ r ∈ l,r.1.length<=1048576) (hp:pt.length<=1048576):cL prog 20 [Aj l,Aa pt] S tk k=some (.bool (satF l pt),S,tk,k):=by
 refine opP func20 ntmps20 ?_
 simp (maxSteps:=10^6)+contextual(disch:=try exact dqd)only[ev1,simprocAttr,AV.int,AV.bool,AV.str,results20,Aj,Aa]
 refine loop1 (P:=prog) (fun x st=>st.T.length=37/\(x<=l.length)/\(satF l pt=satF (l.drop x) pt)/\getT st.T 1=Aa pt/\getT st.T 9=Aj l/\getT st.T 10=.int l.length/\getT st.T 11=.int (x:Nat)/\st.S=[]) (fun x=>l.length - x) (fun x=>.bool (satF l pt)) (0) ?_ ?_
 case refine_2=>exact ⟨rfl,Nat.zero_le _,rfl,rfl,rfl,rfl,rfl,rfl⟩
 rintro i ⟨T,S',tk',n'⟩ ⟨hl,hi,hE,e1,e9,e10,e11,eS⟩ IH
 subst eS
 obtain ⟨g,hg,hT⟩:=Ap hl
 rw [hg] at e1 e9 e10 e11
 subst hT
 clear hg hl
 have a8:=Av (i:=i) (by omega)
 by_cases hlt:i<l.length
 ·have d1:decide ((i:Int)<(l.length:Int))=true:=by simpa using hlt
  obtain ⟨r,hx⟩:=Ab hlt
  have hx':=H8 hx
  have hV:=fun S tk k=>Ya S tk k r.1 r.2.1 pt (hr r (H6 hx)) hp
  rw [Acv hx] at hE
  unfold Aae at hE
  simp only [rowC,Aa] at hx'
  simp only [linA,Aa] at hV
  obtain ⟨⟨n,ok⟩,hv⟩:∃ q,Gk r.1 r.2.1 pt=q:=⟨_,rfl⟩
  rw [hv] at hV hE
  simp only at hV hE
  cases ok with
  | false =>
   simp only [Bool.false_and] at hE
   simp (maxSteps:=10^6)+contextual(disch:=try exact dqd)only[ev1,simprocAttr,AV.int,AV.bool,AV.str,results20,e1,e9,e10,e11,d1,Aj,Aa,hx',hV,a8]
   rw [hE]
  | true =>
   by_cases h0:n > 0
   ·have d2:decide (n > 0)=true:=by simpa using h0
    have d3:decide (n<=0)=false:=by simp; omega
    rw [d3,Bool.true_and,Bool.false_and,Bool.false_and] at hE
    simp (maxSteps:=10^6)+contextual(disch:=try exact dqd)only[ev1,simprocAttr,AV.int,AV.bool,AV.str,results20,e1,e9,e10,e11,d1,Aj,Aa,hx',hV,a8,d2]
    rw [hE]
   ·have d2:decide (n > 0)=false:=by simpa using h0
    have d3:decide (n<=0)=true:=by simp; omega
    rw [d3,Bool.true_and,Bool.true_and] at hE
    cases he:r.2.2 with
    | false =>
     rw [he,Bool.not_false,Bool.true_or,Bool.true_and] at hE
     rw [he] at hx'
     simp (maxSteps:=10^6)+contextual(disch:=try exact dqd)only[ev1,simprocAttr,AV.int,AV.bool,AV.str,results20,e1,e9,e10,e11,d1,Aj,Aa,hx',hV,a8,d2]
     exact IH (i+1) _ (by first|omega|(simp only; omega)) ⟨rfl,by first|omega|(dsimp only; omega),hE,(by first|rfl|simp only [getT,List.map_append,List.map_cons,List.map_nil,intC,and_self]),(by first|rfl|simp only [getT,List.map_append,List.map_cons,List.map_nil,intC,and_self]),(by first|rfl|simp only [getT,List.map_append,List.map_cons,List.map_nil,intC,and_self]),(by first|rfl|simp only [getT,List.map_append,List.map_cons,List.map_nil,intC,and_self]),(by first|rfl|simp only [getT,List.map_append,List.map_cons,List.map_nil,intC,and_self])⟩
    | true =>
     rw [he,Bool.not_true,Bool.false_or] at hE
     rw [he] at hx'
     by_cases hz:n=0
     ·have d4:(n != 0)=false:=by simpa using hz
      have d5:(n == 0)=true:=by simpa using hz
      rw [d5,Bool.true_and] at hE
      simp (maxSteps:=10^6)+contextual(disch:=try exact dqd)only[ev1,simprocAttr,AV.int,AV.bool,AV.str,results20,e1,e9,e10,e11,d1,Aj,Aa,hx',hV,a8,d2,d4]
      exact IH (i+1) _ (by first|omega|(simp only; omega)) ⟨rfl,by first|omega|(dsimp only; omega),hE,(by first|rfl|simp only [getT,List.map_append,List.map_cons,List.map_nil,intC,and_self]),(by first|rfl|simp only [getT,List.map_append,List.map_cons,List.map_nil,intC,and_self]),(by first|rfl|simp only [getT,List.map_append,List.map_cons,List.map_nil,intC,and_self]),(by first|rfl|simp only [getT,List.map_append,List.map_cons,List.map_nil,intC,and_self]),(by first|rfl|simp only [getT,List.map_append,List.map_cons,List.map_nil,intC,and_self])⟩
     ·have d4:(n != 0)=true:=by simpa using hz
      have d5:(n == 0)=false:=by simpa using hz
      rw [d5,Bool.false_and] at hE
      simp (maxSteps:=10^6)+contextual(disch:=try exact dqd)only[ev1,simprocAttr,AV.int,AV.bool,AV.str,results20,e1,e9,e10,e11,d1,Aj,Aa,hx',hV,a8,d2,d4]
      rw [hE]
 ·have d1:decide ((i:Int)<(l.length:Int))=false:=by simpa using hlt
  have bp:i=l.length:=by omega
  rw [bp,List.drop_length] at hE
  simp (maxSteps:=10^6)+contextual(disch:=try exact dqd)only[ev1,simprocAttr,AV.int,AV.bool,AV.str,results20,e1,e9,e10,e11,d1,Aj,Aa]
  rw [hE]; rfl
theorem Up (l:List RowT) (pt:Pt) (hl:l.length<=1048576) (hr:∀ r ∈ l,r.1.length<=1048576) (hp:pt.length<=1048576):cL prog 43 [Aj l,Aa pt] S tk k=some (.bool (satF l pt),S,tk,k):=by
 refine opP func43 ntmps43 ?_
 simp (maxSteps:=10^6)+contextual(disch:=try exact dqd)only[ev1,simprocAttr,AV.int,AV.bool,AV.str,results43,Aj,Aa]
 refine loop1 (P:=prog) (fun x st=>st.T.length=41/\(x<=l.length)/\(satF l pt=satF (l.drop x) pt)/\getT st.T 0=Aj l/\getT st.T 1=Aa pt/\getT st.T 5=.int (x:Nat)/\st.S=[]) (fun x=>l.length - x) (fun x=>.bool (satF l pt)) (0) ?_ ?_
 case refine_2=>exact ⟨rfl,Nat.zero_le _,rfl,rfl,rfl,rfl,rfl⟩
 rintro i ⟨T,S',tk',n'⟩ ⟨hl,hi,hE,e0,e1,e5,eS⟩ IH
 subst eS
 obtain ⟨g,hg,hT⟩:=Ap hl
 rw [hg] at e0 e1 e5
 subst hT
 clear hg hl
 have a8:=Av (i:=i) (by omega)
 by_cases hlt:i<l.length
 ·have d1:decide ((i:Int)<(l.length:Int))=true:=by simpa using hlt
  obtain ⟨r,hx⟩:=Ab hlt
  have hx':=H8 hx
  have hV:=fun S tk k=>Afb S tk k r.1 r.2.1 pt (hr r (H6 hx)) hp
  rw [Acv hx] at hE
  unfold Aae at hE
  simp only [rowC,Aa] at hx'
  simp only [linA,Aa] at hV
  obtain ⟨⟨n,ok⟩,hv⟩:∃ q,Gk r.1 r.2.1 pt=q:=⟨_,rfl⟩
  rw [hv] at hV hE
  simp only at hV hE
  cases ok with
  | false =>
   simp only [Bool.false_and] at hE
   simp (maxSteps:=10^6)+contextual(disch:=try exact dqd)only[ev1,simprocAttr,AV.int,AV.bool,AV.str,results43,e0,e1,e5,d1,Aj,Aa,hx',hV,a8]
   rw [hE]
  | true =>
   cases he:r.2.2 with
   | false =>
    rw [he,Bool.not_false,Bool.true_or,Bool.and_true,Bool.true_and] at hE
    rw [he] at hx'
    by_cases h0:n > 0
    ·have d2:decide (n > 0)=true:=by simpa using h0
     have d3:decide (n<=0)=false:=by simp; omega
     rw [d3,Bool.false_and] at hE
     simp (maxSteps:=10^6)+contextual(disch:=try exact dqd)only[ev1,simprocAttr,AV.int,AV.bool,AV.str,results43,e0,e1,e5,d1,Aj,Aa,hx',hV,a8,d2]
     rw [hE]
    ·have d2:decide (n > 0)=false:=by simpa using h0
     have d3:decide (n<=0)=true:=by simp; omega
     rw [d3,Bool.true_and] at hE
     simp (maxSteps:=10^6)+contextual(disch:=try exact dqd)only[ev1,simprocAttr,AV.int,AV.bool,AV.str,results43,e0,e1,e5,d1,Aj,Aa,hx',hV,a8,d2]
     exact IH (i+1) _ (by first|omega|(simp only; omega)) ⟨rfl,by first|omega|(dsimp only; omega),hE,(by first|rfl|simp only [getT,List.map_append,List.map_cons,List.map_nil,intC,and_self]),(by first|rfl|simp only [getT,List.map_append,List.map_cons,List.map_nil,intC,and_self]),(by first|rfl|simp only [getT,List.map_append,List.map_cons,List.map_nil,intC,and_self]),(by first|rfl|simp only [getT,List.map_append,List.map_cons,List.map_nil,intC,and_self])⟩
   | true =>
    rw [he,Bool.not_true,Bool.false_or,Bool.true_and] at hE
    rw [he] at hx'
    by_cases hz:n=0
    ·have d4:(n != 0)=false:=by simpa using hz
     have d5:(n == 0)=true:=by simpa using hz
     have d3:decide (n<=0)=true:=by simp; omega
     have d2:decide (n > 0)=false:=by simp; omega
     rw [d5,d3,Bool.true_and,Bool.true_and] at hE
     simp (maxSteps:=10^6)+contextual(disch:=try exact dqd)only[ev1,simprocAttr,AV.int,AV.bool,AV.str,results43,e0,e1,e5,d1,Aj,Aa,hx',hV,a8,d2,d4]
     exact IH (i+1) _ (by first|omega|(simp only; omega)) ⟨rfl,by first|omega|(dsimp only; omega),hE,(by first|rfl|simp only [getT,List.map_append,List.map_cons,List.map_nil,intC,and_self]),(by first|rfl|simp only [getT,List.map_append,List.map_cons,List.map_nil,intC,and_self]),(by first|rfl|simp only [getT,List.map_append,List.map_cons,List.map_nil,intC,and_self]),(by first|rfl|simp only [getT,List.map_append,List.map_cons,List.map_nil,intC,and_self])⟩
    ·have d4:(n != 0)=true:=by simpa using hz
     have d5:(n == 0)=false:=by simpa using hz
     rw [d5,Bool.and_false,Bool.false_and] at hE
     simp (maxSteps:=10^6)+contextual(disch:=try exact dqd)only[ev1,simprocAttr,AV.int,AV.bool,AV.str,results43,e0,e1,e5,d1,Aj,Aa,hx',hV,a8,d4]
     rw [hE]
 ·have d1:decide ((i:Int)<(l.length:Int))=false:=by simpa using hlt
  have bp:i=l.length:=by omega
  rw [bp,List.drop_length] at hE
  simp (maxSteps:=10^6)+contextual(disch:=try exact dqd)only[ev1,simprocAttr,AV.int,AV.bool,AV.str,results43,e0,e1,e5,d1,Aj,Aa]
  rw [hE]; rfl
end
theorem T2 {l:List RowT} {i:Nat} {r:RowT} (h:nth l i=some r):Dh (l.take (i+1))=Dh (l.take i)++r.1.map (·.1):=by
 rw [Ew h,Aec]
theorem Akm {l:List RowT} (h:fewC l) (i:Nat):fewC (l.take i):=fun r hr=>h r (List.mem_of_mem_take hr)
theorem Agw {l:List RowT} (h:fewC l) (hl:l.length<=64) (i:Nat):(Dh (l.take i)).length<=1536:=by
 have h1:=Yf (Akm h i)
 have:(l.take i).length<=64:=by simp; omega
 omega
theorem Aoq (l:List ByteArray):(uniS l).length<=l.length:=(G3 l).2.2
section
variable (S:List Ent) (tk:List Nat) (k:Nat)
set_option maxRecDepth 100000 in
theorem Jl (l:List RowT) (hf:fewC l) (hl:l.length<=64):cL prog 34 [Aj l] S tk k=some (Al (A4 l),S,tk,k):=by
 refine opP func34 ntmps34 ?_
 simp (maxSteps:=10^6)+contextual(disch:=try exact dqd)only[ev1,simprocAttr,AV.int,AV.bool,AV.str,results34,Aj]
 refine loop1 (P:=prog) (fun x st=>st.T.length=30/\(x.1<=l.length)/\(x.2.1=uniS (Dh (l.take x.1)))/\getT st.T 3=.frz (x.2.1.map strC) x.2.2/\getT st.T 8=Aj l/\getT st.T 9=.int l.length/\getT st.T 10=.int (x.1:Nat)/\st.S=[]) (fun x=>l.length - x.1) (fun x=>Al (A4 l)) (0,[],.nilc) ?_ ?_
 case refine_2=>exact ⟨rfl,Nat.zero_le _,rfl,rfl,rfl,rfl,rfl,rfl⟩
 rintro ⟨i,out,c⟩ ⟨T,S',tk',n'⟩ ⟨hl,hi,ho,e3,e8,e9,e10,eS⟩ IH
 simp only at hi ho e3 e8 e9 e10 eS
 subst eS
 obtain ⟨g,hg,hT⟩:=Ap hl
 rw [hg] at e3 e8 e9 e10
 subst hT
 clear hg hl
 have OUT:=IH
 clear IH
 have a8:=Av (i:=i) (by omega)
 by_cases hlt:i<l.length
 ·have d1:decide ((i:Int)<(l.length:Int))=true:=by simpa using hlt
  obtain ⟨r,hx⟩:=Ab hlt
  have hx':=H8 hx
  have ji:=hf r (H6 hx)
  have hnl:=Agw hf hl i
  have ff:=T2 hx
  simp only [rowC,Aa] at hx'
  simp (maxSteps:=10^6)+contextual(disch:=try exact dqd)only[ev1,simprocAttr,AV.int,AV.bool,AV.str,results34,e3,e8,e9,e10,d1,Aj,hx']
  refine loop1 (P:=prog) (fun x st=>st.T.length=30/\(x.1<=r.1.length)/\(x.2.1=uniS (Dh (l.take i)++(r.1.take x.1).map (·.1)))/\getT st.T 3=.frz (x.2.1.map strC) x.2.2/\getT st.T 8=Aj l/\getT st.T 9=.int l.length/\getT st.T 10=.int (i:Nat)/\getT st.T 16=.frz (r.1.map A1) .unk/\getT st.T 17=.int r.1.length/\getT st.T 18=.int (x.1:Nat)/\st.S=[⟨n',[.frz (r.1.map A1) .unk,.int r.2.1,.bool r.2.2]⟩]) (fun x=>r.1.length - x.1) (fun x=>Al (A4 l)) (0,out,c) ?_ ?_
  case refine_2=>exact ⟨rfl,Nat.zero_le _,by simp [ho],rfl,rfl,rfl,rfl,rfl,rfl,rfl,rfl⟩
  rintro ⟨j,out2,c2⟩ ⟨T,S',tk',n'⟩ ⟨hl,hj,fc,e3,e8,e9,e10,e16,e17,e18,eS⟩ IH
  simp only at hj fc e3 e8 e9 e10 e16 e17 e18 eS
  subst eS
  obtain ⟨g,hg,hT⟩:=Ap hl
  rw [hg] at e3 e8 e9 e10 e16 e17 e18
  subst hT
  clear hg hl
  have fo:=Av (i:=j) (by omega)
  have sv:(Dh (l.take i)++(r.1.take j).map (·.1)).length<=1600:=by simp; omega
  have hul:=Aoq (Dh (l.take i)++(r.1.take j).map (·.1))
  by_cases ek:j<r.1.length
  ·have d2:decide ((j:Int)<(r.1.length:Int))=true:=by simpa using ek
   obtain ⟨q,hq⟩:=Ab ek
   have hq':=Kw hq
   simp only [A1] at hq'
   have hU:=fun S tk k=>Ae9 S tk k out2 q.1 c2 .tight (by rw [fc]; exact (G3 _).1) (by rw [fc]; omega)
   have j3:=Ew hq
   simp only [Al] at hU
   simp (maxSteps:=10^6)+contextual(disch:=try exact dqd)only[ev1,simprocAttr,AV.int,AV.bool,AV.str,results34,e3,e8,e9,e10,e16,e17,e18,d2,hq',fo,hU]
   exact IH (j+1,putS out2 q.1,.unk) _ (by first|omega|(simp only; omega)) ⟨rfl,by first|omega|(dsimp only; omega),by rw [j3,List.map_append,<- List.append_assoc,List.map_cons,List.map_nil,Alq,fc],(by first|rfl|simp only [getT,List.map_append,List.map_cons,List.map_nil,strC,Al,and_self]),(by first|rfl|simp only [getT,List.map_append,List.map_cons,List.map_nil,strC,Al,and_self]),(by first|rfl|simp only [getT,List.map_append,List.map_cons,List.map_nil,strC,Al,and_self]),(by first|rfl|simp only [getT,List.map_append,List.map_cons,List.map_nil,strC,Al,and_self]),(by first|rfl|simp only [getT,List.map_append,List.map_cons,List.map_nil,strC,Al,and_self]),(by first|rfl|simp only [getT,List.map_append,List.map_cons,List.map_nil,strC,Al,and_self]),(by first|rfl|simp only [getT,List.map_append,List.map_cons,List.map_nil,strC,Al,and_self]),(by first|rfl|simp only [getT,List.map_append,List.map_cons,List.map_nil,strC,Al,and_self])⟩
  ·have d2:decide ((j:Int)<(r.1.length:Int))=false:=by simpa using ek
   have fu:j=r.1.length:=by omega
   subst fu
   rw [List.take_length] at fc
   simp (maxSteps:=10^6)+contextual(disch:=try exact dqd)only[ev1,simprocAttr,AV.int,AV.bool,AV.str,results34,e3,e8,e9,e10,e16,e17,e18,d2,a8]
   exact OUT (i+1,out2,c2) _ (by first|omega|(simp only; omega)) ⟨rfl,by first|omega|(dsimp only; omega),by rw [ff,fc],(by first|rfl|simp only [getT,List.map_append,List.map_cons,List.map_nil,strC,Al,and_self]),(by first|rfl|simp only [getT,List.map_append,List.map_cons,List.map_nil,strC,Al,and_self]),(by first|rfl|simp only [getT,List.map_append,List.map_cons,List.map_nil,strC,Al,and_self]),(by first|rfl|simp only [getT,List.map_append,List.map_cons,List.map_nil,strC,Al,and_self]),(by first|rfl|simp only [getT,List.map_append,List.map_cons,List.map_nil,strC,Al,and_self])⟩
 ·have d1:decide ((i:Int)<(l.length:Int))=false:=by simpa using hlt
  have bp:i=l.length:=by omega
  subst bp
  rw [List.take_length] at ho
  simp (maxSteps:=10^6)+contextual(disch:=try exact dqd)only[ev1,simprocAttr,AV.int,AV.bool,AV.str,results34,e3,e8,e9,e10,d1,Aj]
  rw [ho]; rfl
set_option maxRecDepth 100000 in
theorem Ht (l:List RowT) (hf:fewC l) (hl:l.length<=64):cL prog 27 [Aj l] S tk k=some (Al (A4 l),S,tk,k):=by
 refine opP func27 ntmps27 ?_
 simp (maxSteps:=10^6)+contextual(disch:=try exact dqd)only[ev1,simprocAttr,AV.int,AV.bool,AV.str,results27,Aj]
 refine loop1 (P:=prog) (fun x st=>st.T.length=31/\(x.1<=l.length)/\(x.2.1=Dh (l.take x.1))/\(A9 st.tk x.2.2 1=true)/\((!x.2.1.isEmpty || Qr x.2.2)=true)/\getT st.T 3=.frz (x.2.1.map strC) x.2.2/\getT st.T 8=Aj l/\getT st.T 9=.int l.length/\getT st.T 10=.int (x.1:Nat)/\st.S=[]) (fun x=>l.length - x.1) (fun x=>Al (A4 l)) (0,[],.nilc) ?_ ?_
 case refine_2=>exact ⟨rfl,Nat.zero_le _,rfl,rfl,rfl,rfl,rfl,rfl,rfl,rfl⟩
 rintro ⟨i,out,c⟩ ⟨T,S',tk',n'⟩ ⟨hl,hi,ho,hok,hc,e3,e8,e9,e10,eS⟩ IH
 simp only at hi ho hok hc e3 e8 e9 e10 eS
 subst eS
 obtain ⟨g,hg,hT⟩:=Ap hl
 rw [hg] at e3 e8 e9 e10
 subst hT
 clear hg hl
 have OUT:=IH
 clear IH
 have a8:=Av (i:=i) (by omega)
 have hnl:=Agw hf hl i
 by_cases hlt:i<l.length
 ·have d1:decide ((i:Int)<(l.length:Int))=true:=by simpa using hlt
  obtain ⟨r,hx⟩:=Ab hlt
  have hx':=H8 hx
  have ji:=hf r (H6 hx)
  have ff:=T2 hx
  simp only [rowC,Aa] at hx'
  simp (maxSteps:=10^6)+contextual(disch:=try exact dqd)only[ev1,simprocAttr,AV.int,AV.bool,AV.str,results27,e3,e8,e9,e10,d1,Aj,hx']
  refine loop1 (P:=prog) (fun x st=>st.T.length=31/\(x.1<=r.1.length)/\(x.2.1=Dh (l.take i)++(r.1.take x.1).map (·.1))/\(A9 st.tk x.2.2 1=true)/\((!x.2.1.isEmpty || Qr x.2.2)=true)/\getT st.T 3=.frz (x.2.1.map strC) x.2.2/\getT st.T 8=Aj l/\getT st.T 9=.int l.length/\getT st.T 10=.int (i:Nat)/\getT st.T 16=.frz (r.1.map A1) .unk/\getT st.T 17=.int r.1.length/\getT st.T 18=.int (x.1:Nat)/\st.S=[⟨n',[.frz (r.1.map A1) .unk,.int r.2.1,.bool r.2.2]⟩]) (fun x=>r.1.length - x.1) (fun x=>Al (A4 l)) (0,out,c) ?_ ?_
  case refine_2=>exact ⟨rfl,Nat.zero_le _,by simp [ho],hok,hc,rfl,rfl,rfl,rfl,rfl,rfl,rfl,rfl⟩
  rintro ⟨j,out2,c2⟩ ⟨T,S',tk',n'⟩ ⟨hl,hj,fc,j4,hc2,e3,e8,e9,e10,e16,e17,e18,eS⟩ IH
  simp only at hj fc j4 hc2 e3 e8 e9 e10 e16 e17 e18 eS
  subst eS
  obtain ⟨g,hg,hT⟩:=Ap hl
  rw [hg] at e3 e8 e9 e10 e16 e17 e18
  subst hT
  clear hg hl
  have fo:=Av (i:=j) (by omega)
  have sv:out2.length<=1600:=by rw [fc]; simp; omega
  have hr:=Ev out2
  have bc:=D2 j4
  have bm:(out2.map strC).length+1<=1048576:=by simp; omega
  by_cases ek:j<r.1.length
  ·have d2:decide ((j:Int)<(r.1.length:Int))=true:=by simpa using ek
   obtain ⟨q,hq⟩:=Ab ek
   have hq':=Kw hq
   simp only [A1] at hq'
   have j3:=Ew hq
   simp (maxSteps:=10^6)+contextual(disch:=try exact dqd)only[ev1,simprocAttr,AV.int,AV.bool,AV.str,results27,e3,e8,e9,e10,e16,e17,e18,d2,hq',fo,hr]
   exact IH (j+1,out2++[q.1],Bp tk' c2 1) _ (by first|omega|(simp only; omega)) ⟨rfl,by first|omega|(dsimp only; omega),by rw [j3,List.map_append,<- List.append_assoc,fc]; rfl,bc,by simp,(by first|rfl|simp only [getT,List.map_append,List.map_cons,List.map_nil,strC,Al,and_self]),(by first|rfl|simp only [getT,List.map_append,List.map_cons,List.map_nil,strC,Al,and_self]),(by first|rfl|simp only [getT,List.map_append,List.map_cons,List.map_nil,strC,Al,and_self]),(by first|rfl|simp only [getT,List.map_append,List.map_cons,List.map_nil,strC,Al,and_self]),(by first|rfl|simp only [getT,List.map_append,List.map_cons,List.map_nil,strC,Al,and_self]),(by first|rfl|simp only [getT,List.map_append,List.map_cons,List.map_nil,strC,Al,and_self]),(by first|rfl|simp only [getT,List.map_append,List.map_cons,List.map_nil,strC,Al,and_self]),(by first|rfl|simp only [getT,List.map_append,List.map_cons,List.map_nil,strC,Al,and_self])⟩
  ·have d2:decide ((j:Int)<(r.1.length:Int))=false:=by simpa using ek
   have fu:j=r.1.length:=by omega
   subst fu
   rw [List.take_length] at fc
   simp (maxSteps:=10^6)+contextual(disch:=try exact dqd)only[ev1,simprocAttr,AV.int,AV.bool,AV.str,results27,e3,e8,e9,e10,e16,e17,e18,d2,a8]
   exact OUT (i+1,out2,c2) _ (by first|omega|(simp only; omega)) ⟨rfl,by first|omega|(dsimp only; omega),by rw [ff,fc],j4,hc2,(by first|rfl|simp only [getT,List.map_append,List.map_cons,List.map_nil,strC,Al,and_self]),(by first|rfl|simp only [getT,List.map_append,List.map_cons,List.map_nil,strC,Al,and_self]),(by first|rfl|simp only [getT,List.map_append,List.map_cons,List.map_nil,strC,Al,and_self]),(by first|rfl|simp only [getT,List.map_append,List.map_cons,List.map_nil,strC,Al,and_self]),(by first|rfl|simp only [getT,List.map_append,List.map_cons,List.map_nil,strC,Al,and_self])⟩
 ·have d1:decide ((i:Int)<(l.length:Int))=false:=by simpa using hlt
  have bp:i=l.length:=by omega
  subst bp
  rw [List.take_length] at ho hnl
  have hU:=fun S tk k=>Zz S tk k out c (by rw [ho]; omega) hc
  simp only [Al] at hU
  simp (maxSteps:=10^6)+contextual(disch:=try exact dqd)only[ev1,simprocAttr,AV.int,AV.bool,AV.str,results27,e3,e8,e9,e10,d1,Aj,hU]
  rw [ho]; rfl
def Dz:List RowT->Int
 | []=>0
 | r :: l=>if Bo r.1 r.2.1 != 0 then Bo r.1 r.2.1 else Dz l
def sysE (l:List RowT):Int:=if 64<l.length then 7 else if Dz l != 0 then Dz l else if 24<(A4 l).length then 7 else 0
theorem P7 {cs:List (ByteArray × Int)} {n:Int} (h:Bo cs n=0):cs.length<=24:=by
 unfold Bo at h
 split at h
 ·cases h
 ·omega
theorem Jr:∀ {l:List RowT},Dz l=0->fewC l
 | [],_=>fun r hr=>by simp at hr
 | r :: l,h=>by
  unfold Dz at h
  by_cases h0:Bo r.1 r.2.1=0
  ·rw [h0] at h
   simp only [bne_self_eq_false,Bool.false_eq_true,if_false] at h
   intro x hx
   rcases List.mem_cons.1 hx with rfl|hx
   ·exact P7 h0
   ·exact Jr h x hx
  ·rw [if_pos (by simpa using h0)] at h; exact absurd h h0
set_option maxRecDepth 100000 in
theorem Px (l:List RowT) (c8:∀ r ∈ l,r.1.length<=1048576):cL prog 33 [Aj l] S tk k=some (.int (sysE l),S,tk,k):=by
 refine opP func33 ntmps33 ?_
 by_cases j5:64<l.length
 ·have d0:decide ((l.length:Int) > 64)=true:=by simp; omega
  simp (maxSteps:=10^6)+contextual(disch:=try exact dqd)only[ev1,simprocAttr,AV.int,AV.bool,AV.str,results33,Aj,d0]
  simp [sysE,j5]
 have d0:decide ((l.length:Int) > 64)=false:=by simp; omega
 simp (maxSteps:=10^6)+contextual(disch:=try exact dqd)only[ev1,simprocAttr,AV.int,AV.bool,AV.str,results33,Aj,d0]
 refine loop1 (P:=prog) (fun x st=>st.T.length=26/\(x<=l.length)/\(Dz l=Dz (l.drop x))/\getT st.T 0=Aj l/\getT st.T 9=Aj l/\getT st.T 10=.int l.length/\getT st.T 11=.int (x:Nat)/\st.S=[]) (fun x=>l.length - x) (fun x=>.int (sysE l)) (0) ?_ ?_
 case refine_2=>exact ⟨rfl,Nat.zero_le _,rfl,rfl,rfl,rfl,rfl,rfl⟩
 rintro i ⟨T,S',tk',n'⟩ ⟨hl,hi,hE,e0,e9,e10,e11,eS⟩ IH
 subst eS
 obtain ⟨g,hg,hT⟩:=Ap hl
 rw [hg] at e0 e9 e10 e11
 subst hT
 clear hg hl
 have a8:=Av (i:=i) (by omega)
 by_cases hlt:i<l.length
 ·have d1:decide ((i:Int)<(l.length:Int))=true:=by simpa using hlt
  obtain ⟨r,hx⟩:=Ab hlt
  have hx':=H8 hx
  have hC:=fun S tk k=>Pw S tk k r.1 r.2.1 (c8 r (H6 hx))
  simp only [rowC,Aa] at hx'
  simp only [linA,Aa] at hC
  rw [Ar hx,Dz] at hE
  generalize Bo r.1 r.2.1=e at *
  cases h0:(e != 0) with
  | true =>
   simp (maxSteps:=10^6)+contextual(disch:=try exact dqd)only[ev1,simprocAttr,AV.int,AV.bool,AV.str,results33,e0,e9,e10,e11,d1,Aj,hx',hC,a8,h0]
   rw [h0,if_pos rfl] at hE
   unfold sysE
   rw [if_neg j5,hE,if_pos h0]
  | false =>
   rw [h0,if_neg (by simp)] at hE
   simp (maxSteps:=10^6)+contextual(disch:=try exact dqd)only[ev1,simprocAttr,AV.int,AV.bool,AV.str,results33,e0,e9,e10,e11,d1,Aj,hx',hC,a8,h0]
   exact IH (i+1) _ (by first|omega|(simp only; omega)) ⟨rfl,by first|omega|(dsimp only; omega),hE,(by first|rfl|simp only [getT,List.map_append,List.map_cons,List.map_nil,strC,Al,and_self]),(by first|rfl|simp only [getT,List.map_append,List.map_cons,List.map_nil,strC,Al,and_self]),(by first|rfl|simp only [getT,List.map_append,List.map_cons,List.map_nil,strC,Al,and_self]),(by first|rfl|simp only [getT,List.map_append,List.map_cons,List.map_nil,strC,Al,and_self]),(by first|rfl|simp only [getT,List.map_append,List.map_cons,List.map_nil,strC,Al,and_self])⟩
 ·have d1:decide ((i:Int)<(l.length:Int))=false:=by simpa using hlt
  have bp:i=l.length:=by omega
  subst bp
  rw [List.drop_length] at hE
  have hE0:Dz l=0:=hE
  have hV:=fun S tk k=>Jl S tk k l (Jr hE0) (by omega)
  have hs:sysE l=if 24<(A4 l).length then 7 else 0:=by unfold sysE; rw [if_neg j5,hE0]; rfl
  rw [hs]
  simp only [Aj,Al] at hV
  by_cases px:24<(A4 l).length
  ·have d2:decide (((A4 l).length:Int) > 24)=true:=by simp; omega
   simp (maxSteps:=10^6)+contextual(disch:=try exact dqd)only[ev1,simprocAttr,AV.int,AV.bool,AV.str,results33,e0,e9,e10,e11,d1,Aj,hV,d2]
   rw [if_pos px]
  ·have d2:decide (((A4 l).length:Int) > 24)=false:=by simp; omega
   simp (maxSteps:=10^6)+contextual(disch:=try exact dqd)only[ev1,simprocAttr,AV.int,AV.bool,AV.str,results33,e0,e9,e10,e11,d1,Aj,hV,d2]
   rw [if_neg px]
theorem Lt {l:List RowT} (h:sysE l=0):fewC l/\l.length<=64/\(A4 l).length<=24/\Dz l=0:=by
 unfold sysE at h
 split at h
 ·cases h
 ·split at h
  ·rename_i h1 h2; rw [h] at h2; cases h2
  ·rename_i h1 h2
   split at h
   ·cases h
   ·have h0:Dz l=0:=by simpa using h2
    exact ⟨Jr h0,by omega,by omega,h0⟩
end
section
variable (S:List Ent) (tk:List Nat) (k:Nat)
theorem Ada (cs:List (ByteArray × Int)) (n:Int):cL prog 13 [linA cs n] S tk k=some (.int (Bo cs n),S,tk,k):=by
 by_cases h:cs.length<=1048576
 ·exact Pw S tk k cs n h
 ·have d0:decide ((cs.length:Int) > 24)=true:=by simp; omega
  refine opP func13 ntmps13 ?_
  simp (maxSteps:=10^6)+contextual(disch:=try exact dqd)only[ev1,simprocAttr,AV.int,AV.bool,AV.str,results13,linA,Aa,d0]
  unfold Bo; rw [if_pos (by omega)]
theorem Vj (cs:List (ByteArray × Int)) (n:Int):cL prog 28 [linA cs n] S tk k=some (.int (Bo cs n),S,tk,k):=by
 by_cases h:cs.length<=1048576
 ·exact N0 S tk k cs n h
 ·have d0:decide ((cs.length:Int) > 24)=true:=by simp; omega
  refine opP func28 ntmps28 ?_
  simp (maxSteps:=10^6)+contextual(disch:=try exact dqd)only[ev1,simprocAttr,AV.int,AV.bool,AV.str,results28,linA,Aa,d0]
  unfold Bo; rw [if_pos (by omega)]
set_option maxRecDepth 100000 in
theorem Adb (l:List RowT):cL prog 33 [Aj l] S tk k=some (.int (sysE l),S,tk,k):=by
 refine opP func33 ntmps33 ?_
 by_cases j5:64<l.length
 ·have d0:decide ((l.length:Int) > 64)=true:=by simp; omega
  simp (maxSteps:=10^6)+contextual(disch:=try exact dqd)only[ev1,simprocAttr,AV.int,AV.bool,AV.str,results33,Aj,d0]
  simp [sysE,j5]
 have d0:decide ((l.length:Int) > 64)=false:=by simp; omega
 simp (maxSteps:=10^6)+contextual(disch:=try exact dqd)only[ev1,simprocAttr,AV.int,AV.bool,AV.str,results33,Aj,d0]
 refine loop1 (P:=prog) (fun x st=>st.T.length=26/\(x<=l.length)/\(Dz l=Dz (l.drop x))/\getT st.T 0=Aj l/\getT st.T 9=Aj l/\getT st.T 10=.int l.length/\getT st.T 11=.int (x:Nat)/\st.S=[]) (fun x=>l.length - x) (fun x=>.int (sysE l)) (0) ?_ ?_
 case refine_2=>exact ⟨rfl,Nat.zero_le _,rfl,rfl,rfl,rfl,rfl,rfl⟩
 rintro i ⟨T,S',tk',n'⟩ ⟨hl,hi,hE,e0,e9,e10,e11,eS⟩ IH
 subst eS
 obtain ⟨g,hg,hT⟩:=Ap hl
 rw [hg] at e0 e9 e10 e11
 subst hT
 clear hg hl
 have a8:=Av (i:=i) (by omega)
 by_cases hlt:i<l.length
 ·have d1:decide ((i:Int)<(l.length:Int))=true:=by simpa using hlt
  obtain ⟨r,hx⟩:=Ab hlt
  have hx':=H8 hx
  have hC:=fun S tk k=>Ada S tk k r.1 r.2.1
  simp only [rowC,Aa] at hx'
  simp only [linA,Aa] at hC
  rw [Ar hx,Dz] at hE
  generalize Bo r.1 r.2.1=e at *
  cases h0:(e != 0) with
  | true =>
   simp (maxSteps:=10^6)+contextual(disch:=try exact dqd)only[ev1,simprocAttr,AV.int,AV.bool,AV.str,results33,e0,e9,e10,e11,d1,Aj,hx',hC,a8,h0]
   rw [h0,if_pos rfl] at hE
   unfold sysE
   rw [if_neg j5,hE,if_pos h0]
  | false =>
   rw [h0,if_neg (by simp)] at hE
   simp (maxSteps:=10^6)+contextual(disch:=try exact dqd)only[ev1,simprocAttr,AV.int,AV.bool,AV.str,results33,e0,e9,e10,e11,d1,Aj,hx',hC,a8,h0]
   exact IH (i+1) _ (by first|omega|(simp only; omega)) ⟨rfl,by first|omega|(dsimp only; omega),hE,rfl,rfl,rfl,rfl,rfl⟩
 ·have d1:decide ((i:Int)<(l.length:Int))=false:=by simpa using hlt
  have bp:i=l.length:=by omega
  subst bp
  rw [List.drop_length] at hE
  have hE0:Dz l=0:=hE
  have hV:=fun S tk k=>Jl S tk k l (Jr hE0) (by omega)
  have hs:sysE l=if 24<(A4 l).length then 7 else 0:=by unfold sysE; rw [if_neg j5,hE0]; rfl
  rw [hs]
  simp only [Aj,Al] at hV
  by_cases px:24<(A4 l).length
  ·have d2:decide (((A4 l).length:Int) > 24)=true:=by simp; omega
   simp (maxSteps:=10^6)+contextual(disch:=try exact dqd)only[ev1,simprocAttr,AV.int,AV.bool,AV.str,results33,e0,e9,e10,e11,d1,Aj,hV,d2]
   rw [if_pos px]
  ·have d2:decide (((A4 l).length:Int) > 24)=false:=by simp; omega
   simp (maxSteps:=10^6)+contextual(disch:=try exact dqd)only[ev1,simprocAttr,AV.int,AV.bool,AV.str,results33,e0,e9,e10,e11,d1,Aj,hV,d2]
   rw [if_neg px]
set_option maxRecDepth 100000 in
theorem Lb (l:List RowT):cL prog 21 [Aj l] S tk k=some (.int (sysE l),S,tk,k):=by
 refine opP func21 ntmps21 ?_
 by_cases j5:64<l.length
 ·have d0:decide ((l.length:Int) > 64)=true:=by simp; omega
  simp (maxSteps:=10^6)+contextual(disch:=try exact dqd)only[ev1,simprocAttr,AV.int,AV.bool,AV.str,results21,Aj,d0]
  simp [sysE,j5]
 have d0:decide ((l.length:Int) > 64)=false:=by simp; omega
 simp (maxSteps:=10^6)+contextual(disch:=try exact dqd)only[ev1,simprocAttr,AV.int,AV.bool,AV.str,results21,Aj,d0]
 refine loop1 (P:=prog) (fun x st=>st.T.length=26/\(x<=l.length)/\(Dz l=Dz (l.drop x))/\getT st.T 0=Aj l/\getT st.T 9=Aj l/\getT st.T 10=.int l.length/\getT st.T 11=.int (x:Nat)/\st.S=[]) (fun x=>l.length - x) (fun x=>.int (sysE l)) (0) ?_ ?_
 case refine_2=>exact ⟨rfl,Nat.zero_le _,rfl,rfl,rfl,rfl,rfl,rfl⟩
 rintro i ⟨T,S',tk',n'⟩ ⟨hl,hi,hE,e0,e9,e10,e11,eS⟩ IH
 subst eS
 obtain ⟨g,hg,hT⟩:=Ap hl
 rw [hg] at e0 e9 e10 e11
 subst hT
 clear hg hl
 have a8:=Av (i:=i) (by omega)
 by_cases hlt:i<l.length
 ·have d1:decide ((i:Int)<(l.length:Int))=true:=by simpa using hlt
  obtain ⟨r,hx⟩:=Ab hlt
  have hx':=H8 hx
  have hC:=fun S tk k=>Vj S tk k r.1 r.2.1
  simp only [rowC,Aa] at hx'
  simp only [linA,Aa] at hC
  rw [Ar hx,Dz] at hE
  generalize Bo r.1 r.2.1=e at *
  cases h0:(e != 0) with
  | true =>
   simp (maxSteps:=10^6)+contextual(disch:=try exact dqd)only[ev1,simprocAttr,AV.int,AV.bool,AV.str,results21,e0,e9,e10,e11,d1,Aj,hx',hC,a8,h0]
   rw [h0,if_pos rfl] at hE
   unfold sysE
   rw [if_neg j5,hE,if_pos h0]
  | false =>
   rw [h0,if_neg (by simp)] at hE
   simp (maxSteps:=10^6)+contextual(disch:=try exact dqd)only[ev1,simprocAttr,AV.int,AV.bool,AV.str,results21,e0,e9,e10,e11,d1,Aj,hx',hC,a8,h0]
   exact IH (i+1) _ (by first|omega|(simp only; omega)) ⟨rfl,by first|omega|(dsimp only; omega),hE,rfl,rfl,rfl,rfl,rfl⟩
 ·have d1:decide ((i:Int)<(l.length:Int))=false:=by simpa using hlt
  have bp:i=l.length:=by omega
  subst bp
  rw [List.drop_length] at hE
  have hE0:Dz l=0:=hE
  have hV:=fun S tk k=>Ht S tk k l (Jr hE0) (by omega)
  have hs:sysE l=if 24<(A4 l).length then 7 else 0:=by unfold sysE; rw [if_neg j5,hE0]; rfl
  rw [hs]
  simp only [Aj,Al] at hV
  by_cases px:24<(A4 l).length
  ·have d2:decide (((A4 l).length:Int) > 24)=true:=by simp; omega
   simp (maxSteps:=10^6)+contextual(disch:=try exact dqd)only[ev1,simprocAttr,AV.int,AV.bool,AV.str,results21,e0,e9,e10,e11,d1,Aj,hV,d2]
   rw [if_pos px]
  ·have d2:decide (((A4 l).length:Int) > 24)=false:=by simp; omega
   simp (maxSteps:=10^6)+contextual(disch:=try exact dqd)only[ev1,simprocAttr,AV.int,AV.bool,AV.str,results21,e0,e9,e10,e11,d1,Aj,hV,d2]
   rw [if_neg px]
def Gl (l:List RowT):List ByteArray:=if sysE l=0 then A4 l else []
theorem Wp (l:List RowT):cL prog 14 [Aj l] S tk k=some (Al (Gl l),S,tk,k):=by
 have hC:=fun S tk k=>Adb S tk k l
 by_cases h:sysE l=0
 ·obtain ⟨h1,h2,-,-⟩:=Lt h
  have hV:=fun S tk k=>Jl S tk k l h1 h2
  rw [h] at hC
  have d0:((0:Int) != 0)=false:=rfl
  simp only [Aj,Al] at hC hV
  have hv:Gl l=A4 l:=if_pos h
  rw [hv]
  refine opP func14 ntmps14 ?_
  simp (maxSteps:=10^6)+contextual(disch:=try exact dqd)only[ev1,simprocAttr,AV.int,AV.bool,AV.str,results14,Aj,Al,hC,hV,d0]
 ·have hv:Gl l=[]:=if_neg h
  rw [hv]
  have d0:(sysE l != 0)=true:=by simpa using h
  simp only [Aj] at hC
  refine opP func14 ntmps14 ?_
  simp (maxSteps:=10^6)+contextual(disch:=try exact dqd)only[ev1,simprocAttr,AV.int,AV.bool,AV.str,results14,Aj,Al,hC,d0]
theorem V3 (l:List RowT):cL prog 22 [Aj l] S tk k=some (Al (Gl l),S,tk,k):=by
 have hC:=fun S tk k=>Lb S tk k l
 by_cases h:sysE l=0
 ·obtain ⟨h1,h2,-,-⟩:=Lt h
  have hV:=fun S tk k=>Ht S tk k l h1 h2
  rw [h] at hC
  have d0:((0:Int) != 0)=false:=rfl
  simp only [Aj,Al] at hC hV
  have hv:Gl l=A4 l:=if_pos h
  rw [hv]
  refine opP func22 ntmps22 ?_
  simp (maxSteps:=10^6)+contextual(disch:=try exact dqd)only[ev1,simprocAttr,AV.int,AV.bool,AV.str,results22,Aj,Al,hC,hV,d0]
 ·have hv:Gl l=[]:=if_neg h
  rw [hv]
  have d0:(sysE l != 0)=true:=by simpa using h
  simp only [Aj] at hC
  refine opP func22 ntmps22 ?_
  simp (maxSteps:=10^6)+contextual(disch:=try exact dqd)only[ev1,simprocAttr,AV.int,AV.bool,AV.str,results22,Aj,Al,hC,d0]
end
def knF (c:ByteArray × Int):Pt->Int × Int × Bool->Int × Int × Bool
 | [],s=>s
 | x :: r,s=>knF c r (if sEq x.1 c.1=true then (s.1+c.2*x.2,s.2.1+c.2*x.2,true) else s)
def Ro (pt:Pt) (rad:Int) (s:Int × Int) (c:ByteArray × Int):Int × Int :=
 if (knF c pt (s.1,s.2,false)).2.2=true then ((knF c pt (s.1,s.2,false)).1,(knF c pt (s.1,s.2,false)).2.1)
 else ((knF c pt (s.1,s.2,false)).1 - (c.2.natAbs:Int)*rad,(knF c pt (s.1,s.2,false)).2.1+(c.2.natAbs:Int)*rad)
def lohi (pt:Pt) (rad:Int):Int × Int->List (ByteArray × Int)->Int × Int
 | s,[]=>s
 | s,c :: r=>lohi pt rad (Ro pt rad s c) r
def hopF (cs:List (ByteArray × Int)) (n:Int) (eq:Bool) (pt:Pt) (rad:Int):Bool :=
 decide (0<(lohi pt rad (n,n) cs).1) || (eq && decide ((lohi pt rad (n,n) cs).2<0))
theorem Q4 {a b:Int} {A B:Nat} (ha:a.natAbs<=A) (hb:b.natAbs<=B):(a*b).natAbs<=A*B:=by
 rw [Int.natAbs_mul]; exact Nat.mul_le_mul ha hb
theorem Qv {c:ByteArray × Int} (hc:c.2.natAbs<=1000000000000):∀ (pt:Pt) (s:Int × Int × Bool) (B:Nat),(∀ x ∈ pt,x.2.natAbs<=8)->s.1.natAbs<=B->s.2.1.natAbs<=B->(knF c pt s).1.natAbs<=B+8000000000000*pt.length/\(knF c pt s).2.1.natAbs<=B+8000000000000*pt.length
 | [],s,B,_,h1,h2=>by simpa [knF] using ⟨h1,h2⟩
 | x :: r,s,B,hx,h1,h2=>by
  rw [knF]
  have hm:=Q4 hc (hx x (by simp))
  have hlen:(x :: r).length=r.length+1:=rfl
  rw [hlen]
  split
  ·have:=Qv hc r (s.1+c.2*x.2,s.2.1+c.2*x.2,true) (B+8000000000000) (fun y hy=>hx y (by simp [hy])) (by simp only; omega) (by simp only; omega)
   omega
  ·have:=Qv hc r s B (fun y hy=>hx y (by simp [hy])) h1 h2
   omega
section
variable (S:List Ent) (tk:List Nat) (k:Nat)
theorem Ahf {c:ByteArray × Int} {x:ByteArray × Int} : ∀ {pt:Pt} {j:Nat} {s:Int × Int × Bool},nth pt j=some x->knF c (pt.take (j+1)) s=if sEq x.1 c.1=true then ((knF c (pt.take j) s).1+c.2*x.2,(knF c (pt.take j) s).2.1+c.2*x.2,true) else knF c (pt.take j) s
 | y :: r,0,s,h=>by simp only [nth,Option.some.injEq] at h; subst h; simp [knF]
 | y :: r,j+1,s,h=>by
  simp only [nth] at h
  rw [List.take_succ_cons,knF,Ahf h,List.take_succ_cons,knF]
 | [],_,_,h=>by simp [nth] at h
set_option maxRecDepth 100000 in
theorem Q3 (cs:List (ByteArray × Int)) (n:Int) (eq:Bool) (pt:Pt) (rad:Int) (hcl:cs.length<=24) (hc:∀ c ∈ cs,c.2.natAbs<=1000000000000) (hn:n.natAbs<=1000000000000) (hpl:pt.length<=8) (hp:∀ x ∈ pt,x.2.natAbs<=8) (hr:0<=rad/\rad<=8) :
  cL prog 40 [rowA cs n eq,Aa pt,.int rad] S tk k=some (.bool (hopF cs n eq pt rad),S,tk,k):=by
 refine opP func40 ntmps40 ?_
 simp (maxSteps:=10^6)+contextual(disch:=try exact dqd)only[ev1,simprocAttr,AV.int,AV.bool,AV.str,results40,rowA,Aa]
 refine loop1 (P:=prog) (fun x st=>st.T.length=82/\(x.1<=cs.length)/\(x.2.1.natAbs<=1000000000000+100000000000000*x.1/\x.2.2.natAbs<=1000000000000+100000000000000*x.1)/\(lohi pt rad (n,n) cs=lohi pt rad x.2 (cs.drop x.1))/\getT st.T 1=Aa pt/\getT st.T 2=.int rad/\getT st.T 3=.ref 0 0 0/\getT st.T 7=.int x.2.1/\getT st.T 8=.int x.2.2/\getT st.T 23=Aa cs/\getT st.T 24=.int cs.length/\getT st.T 25=.int (x.1:Nat)/\st.S=[⟨0,[Aa cs,.int n,.bool eq]⟩]) (fun x=>cs.length - x.1) (fun x=>.bool (hopF cs n eq pt rad)) (0,((n,n):Int × Int)) ?_ ?_
 case refine_2=>exact ⟨rfl,Nat.zero_le _,by simp only; omega,rfl,rfl,rfl,rfl,rfl,rfl,rfl,rfl,rfl,rfl⟩
 rintro ⟨i,s⟩ ⟨T,S',tk',n'⟩ ⟨hl,hi,hB,hE,e1,e2,e3,e7,e8,e23,e24,e25,eS⟩ IH
 simp only at hi hB hE e1 e2 e3 e7 e8 e23 e24 e25 eS
 subst eS
 obtain ⟨g,hg,hT⟩:=Ap hl
 rw [hg] at e1 e2 e3 e7 e8 e23 e24 e25
 subst hT
 clear hg hl
 have OUT:=IH
 clear IH
 have a8:=Av (i:=i) (by omega)
 obtain ⟨lo,kf⟩:=s
 simp only at hB e7 e8
 by_cases hlt:i<cs.length
 ·have d1:decide ((i:Int)<(cs.length:Int))=true:=by simpa using hlt
  obtain ⟨c,hx⟩:=Ab hlt
  have hx':=Kw hx
  have hcc:=hc c (H6 hx)
  simp only [A1] at hx'
  rw [Ar hx,lohi] at hE
  simp (maxSteps:=10^6)+contextual(disch:=try exact dqd)only[ev1,simprocAttr,AV.int,AV.bool,AV.str,results40,e1,e2,e3,e7,e8,e23,e24,e25,d1,Aa,hx']
  refine loop1 (P:=prog) (fun x st=>st.T.length=82/\(x.1<=pt.length)/\(x.2=knF c (pt.take x.1) (lo,kf,false))/\getT st.T 1=Aa pt/\getT st.T 2=.int rad/\getT st.T 3=.ref 0 0 0/\getT st.T 7=.int x.2.1/\getT st.T 8=.int x.2.2.1/\getT st.T 10=.ref 1 n' 0/\getT st.T 11=.bool x.2.2.2/\getT st.T 23=Aa cs/\getT st.T 24=.int cs.length/\getT st.T 25=.int (i:Nat)/\getT st.T 29=Aa pt/\getT st.T 30=.int pt.length/\getT st.T 31=.int (x.1:Nat)/\st.S=[⟨0,[Aa cs,.int n,.bool eq]⟩,⟨n',[.prim (.string c.1),.prim (.int .i64 c.2)]⟩]) (fun x=>pt.length - x.1) (fun x=>.bool (hopF cs n eq pt rad)) (0,((lo,kf,false):Int × Int × Bool)) ?_ ?_
  case refine_2=>exact ⟨rfl,Nat.zero_le _,rfl,rfl,rfl,rfl,rfl,rfl,rfl,rfl,rfl,rfl,rfl,rfl,rfl,rfl,rfl⟩
  rintro ⟨j,q⟩ ⟨T,S',tk',n'⟩ ⟨hl,hj,hq,e1,e2,e3,e7,e8,e10,e11,e23,e24,e25,e29,e30,e31,eS⟩ IH
  simp only at hj hq e1 e2 e3 e7 e8 e10 e11 e23 e24 e25 e29 e30 e31 eS
  subst eS
  obtain ⟨g,hg,hT⟩:=Ap hl
  rw [hg] at e1 e2 e3 e7 e8 e10 e11 e23 e24 e25 e29 e30 e31
  subst hT
  clear hg hl
  have fo:=Av (i:=j) (by omega)
  have zn:=Qv hcc (pt.take j) (lo,kf,false) (1000000000000+100000000000000*i) (fun x hx=>hp x (List.mem_of_mem_take hx)) hB.1 hB.2
  rw [<- hq] at zn
  have xn:(pt.take j).length<=8:=by rw [List.length_take]; omega
  obtain ⟨lo2,mr,kn⟩:=q
  simp only at zn e7 e8 e11
  by_cases ng:j<pt.length
  ·have dj:decide ((j:Int)<(pt.length:Int))=true:=by simpa using ng
   obtain ⟨x,zt⟩:=Ab ng
   have rn:=Kw zt
   have hxm:=hp x (H6 zt)
   have w7:=Q4 hcc hxm
   simp only [A1] at rn
   have j3:=Ahf (c:=c) (s:=(lo,kf,false)) zt
   rw [<- hq] at j3
   have w1':IntKind.i64.wrap (c.2*x.2)=c.2*x.2:=Ad (by unfold i64; omega)
   have w2':IntKind.i64.wrap (lo2+c.2*x.2)=lo2+c.2*x.2:=Ad (by unfold i64; omega)
   have w3':IntKind.i64.wrap (mr+c.2*x.2)=mr+c.2*x.2:=Ad (by unfold i64; omega)
   cases h0:sEq x.1 c.1 with
   | true =>
    rw [if_pos h0] at j3
    simp (maxSteps:=10^6)+contextual(disch:=try exact dqd)only[ev1,simprocAttr,AV.int,AV.bool,AV.str,results40,e1,e2,e3,e7,e8,e10,e11,e23,e24,e25,e29,e30,e31,dj,Aa,rn,fo,h0,w1',w2',w3']
    exact IH (j+1,(lo2+c.2*x.2,mr+c.2*x.2,true)) _ (by first|omega|(simp only; omega)) ⟨rfl,by first|omega|(dsimp only; omega),j3.symm,rfl,rfl,rfl,rfl,rfl,rfl,rfl,rfl,rfl,rfl,rfl,rfl,rfl,rfl⟩
   | false =>
    rw [if_neg (by rw [h0]; simp)] at j3
    simp (maxSteps:=10^6)+contextual(disch:=try exact dqd)only[ev1,simprocAttr,AV.int,AV.bool,AV.str,results40,e1,e2,e3,e7,e8,e10,e11,e23,e24,e25,e29,e30,e31,dj,Aa,rn,fo,h0,w1',w2',w3']
    exact IH (j+1,(lo2,mr,kn)) _ (by first|omega|(simp only; omega)) ⟨rfl,by first|omega|(dsimp only; omega),j3.symm,rfl,rfl,rfl,rfl,rfl,rfl,rfl,rfl,rfl,rfl,rfl,rfl,rfl,rfl⟩
  ·have dj:decide ((j:Int)<(pt.length:Int))=false:=by simpa using ng
   have fu:j=pt.length:=by omega
   rw [fu,List.take_length] at hq
   have hstep:Ro pt rad (lo,kf) c=if kn=true then (lo2,mr) else (lo2 - (c.2.natAbs:Int)*rad,mr+(c.2.natAbs:Int)*rad):=by
    unfold Ro; simp only [<- hq]
   rw [hstep] at hE
   cases kn with
   | true =>
    rw [if_pos rfl] at hE
    simp (maxSteps:=10^6)+contextual(disch:=try exact dqd)only[ev1,simprocAttr,AV.int,AV.bool,AV.str,results40,e1,e2,e3,e7,e8,e10,e11,e23,e24,e25,e29,e30,e31,dj,Aa,a8]
    exact OUT (i+1,(lo2,mr)) _ (by first|omega|(simp only; omega)) ⟨rfl,by first|omega|(dsimp only; omega),by simp only; omega,hE,rfl,rfl,rfl,rfl,rfl,rfl,rfl,rfl,rfl⟩
   | false =>
    rw [if_neg (by simp)] at hE
    have hneg:IntKind.i64.wrap (0 - c.2)=-c.2:=by rw [Ad (by unfold i64; omega)]; omega
    have wv:(if -c.2 > c.2 then -c.2 else c.2)=(c.2.natAbs:Int):=by split <;> omega
    have io:=Q4 (a:=(c.2.natAbs:Int)) (b:=rad) (A:=1000000000000) (B:=8) (by omega) (by omega)
    have w1':IntKind.i64.wrap ((c.2.natAbs:Int)*rad)=(c.2.natAbs:Int)*rad:=Ad (by unfold i64; omega)
    have w2':IntKind.i64.wrap (lo2 - (c.2.natAbs:Int)*rad)=lo2 - (c.2.natAbs:Int)*rad:=Ad (by unfold i64; omega)
    have w3':IntKind.i64.wrap (mr+(c.2.natAbs:Int)*rad)=mr+(c.2.natAbs:Int)*rad:=Ad (by unfold i64; omega)
    simp (maxSteps:=10^6)+contextual(disch:=try exact dqd)only[ev1,simprocAttr,AV.int,AV.bool,AV.str,results40,e1,e2,e3,e7,e8,e10,e11,e23,e24,e25,e29,e30,e31,dj,Aa,a8,hneg,Ama,wv,w1',w2',w3']
    exact OUT (i+1,(lo2 - (c.2.natAbs:Int)*rad,mr+(c.2.natAbs:Int)*rad)) _ (by first|omega|(simp only; omega)) ⟨rfl,by first|omega|(dsimp only; omega),by simp only; omega,hE,rfl,rfl,rfl,rfl,rfl,rfl,rfl,rfl,rfl⟩
 ·have d1:decide ((i:Int)<(cs.length:Int))=false:=by simpa using hlt
  have bp:i=cs.length:=by omega
  rw [bp,List.drop_length,lohi] at hE
  have hh:hopF cs n eq pt rad=(decide (lo > 0) || (eq && decide (kf<0))):=by unfold hopF; rw [hE]
  rw [hh]
  cases h1:decide (lo > 0) with
  | true=>simp (maxSteps:=10^6)+contextual(disch:=try exact dqd)only[ev1,simprocAttr,AV.int,AV.bool,AV.str,results40,e1,e2,e3,e7,e8,e23,e24,e25,d1,Aa,h1,Bool.true_or]
  | false =>
   cases eq with
   | false=>simp (maxSteps:=10^6)+contextual(disch:=try exact dqd)only[ev1,simprocAttr,AV.int,AV.bool,AV.str,results40,e1,e2,e3,e7,e8,e23,e24,e25,d1,Aa,h1,Bool.false_or,Bool.false_and]
   | true=>simp (maxSteps:=10^6)+contextual(disch:=try exact dqd)only[ev1,simprocAttr,AV.int,AV.bool,AV.str,results40,e1,e2,e3,e7,e8,e23,e24,e25,d1,Aa,h1,Bool.false_or,Bool.true_and]
end
end
section
open Go Tryz Go.RowKit
variable {A:Nat->Nat->Prop}
def Cq (A:Nat->Nat->Prop) (W:World):Cx:={ w:=W,av:=A,φ:=fun _=>0,ψ:=fun _=>(0,0,0),S:=[],tk:=[],n:=0 }
def Gx (A:Nat->Nat->Prop) (w:World):Prop:=∀ b o,A b o->b<w.heap.size
theorem Gx.le {w w':World} (h:Gx A w) (hs:w.heap.size<=w'.heap.size):Gx A w':=fun b o hb=>Nat.lt_of_lt_of_le (h b o hb) hs
theorem Aao {W:World} {b o:Nat} : ¬ (Cq A W).Mut b o:=by
 rintro (⟨i,hi,_⟩|⟨i,hi,_⟩)
 ·simp [Cq] at hi
 ·simp [Cq] at hi
theorem Lu {W:World} {b o:Nat} (h:¬ A b o):¬ (Cq A W).Avoid b o:=by
 rintro (h'|h')
 ·exact h h'
 ·exact Aao h'
theorem Amk {W:World} {b o:Nat} (h:¬ (Cq A W).Avoid b o):¬ A b o:=fun h'=>h (.inl h')
theorem Aox {W:World} (hA:Gx A W):SR (Cq A W) :=
 ⟨fun i e h=>by simp [Cq,nth] at h,fun i j hi=>by simp [Cq] at hi,fun i j o hi=>by simp [Cq] at hi,fun i j o hi=>by simp [Cq] at hi,fun b o h=>absurd h Aao,fun b o h=>hA b o h,fun i o hi=>by simp [Cq] at hi,fun g a h=>by simp [Globs.gl] at h⟩
theorem Af3 {f:FuncId} {args:List AV} {r:AV} {vs:Array Value} {w:World} (hA:Gx A w) (hcl:∀ S tk k,cL prog f args S tk k=some (r,S,tk,k)) (hv:VRs (Cq A w) args vs.toList) :
  Calls prog f vs w fun e w'=>∃ v,e=.returned v/\Below w.heap.size w w'/\VR (Cq A w') r v:=by
 refine (U3 mixed (hcl [] [] 0) (C:=Cq A w) rfl rfl rfl (Aox hA) hv).mono ?_
 rintro e w' ⟨v,C',rfl,rfl,hle,-,h1,h2,h3,hr⟩
 refine ⟨v,rfl,⟨hle.os,hle.tape,hle.output,hle.size,fun b hb=>hle.keep b hb fun o hm=>Aao hm⟩,?_⟩
 exact VR.mono0 (C:=C') (C':=Cq A C'.w) ⟨by rw [h3]; exact Nat.le_refl _,fun b o v' hv' ha=>⟨hv',Lu fun h=>ha (.inl (by rw [hle.av]; exact h))⟩,fun _ cs _ _ h=>⟨cs,h,rfl⟩,fun id e' he=>(by have he:nth ([]:List Ent) id=some e':=he; cases id <;> cases he),fun id k hk=>(by rw [h2] at hk; cases id <;> cases hk)⟩ _ _ hr
theorem VR.below0 {w w':World} {a:AV} {v:Value} (h:VR (Cq A w) a v) (hb:Below w.heap.size w w'):VR (Cq A w') a v:=VR.mono (Le.of_below (C:=Cq A w) hb) _ _ h
theorem Ago {w:World} {A:Nat->Nat->Prop} {b sz:Nat} : ∀ {es:List (List AV)} {o j:Nat} {e:List AV},A5 w A b sz o es->nth es j=some e->e.length=sz/\∃ vs,Lie w A b (o+j*sz) vs/\PRs w A e vs
 | e0 :: es,o,0,e,h,hj=>by
  simp only [nth,Option.some.injEq] at hj; subst hj
  simp only [A5] at h
  obtain ⟨h0,⟨vs,h1,h2⟩,-⟩:=h
  exact ⟨h0,vs,by simpa using h1,h2⟩
 | e0 :: es,o,j+1,e,h,hj=>by
  simp only [nth] at hj
  simp only [A5] at h
  obtain ⟨h0,vs,h1,h2⟩:=Ago h.2.2 hj
  exact ⟨h0,vs,by rw [show o+(j+1)*sz=o+sz+j*sz by rw [Nat.add_mul]; omega]; exact h1,h2⟩
 | [],_,_,_,_,hj=>by simp [nth] at hj
theorem Ag5 {w:World} {es:List (List AV)} {c:Cap} {v:Value} (h:VR (Cq A w) (.frz es c) v):∃ a cap,v=.slice a es.length cap/\es.length<=cap /\
  ∀ j e,nth es j=some e->∃ b o vs,a=some ⟨b,o,none⟩/\Lie w (Cq A w).Avoid b (o+j*e.length) vs/\PRs w (Cq A w).Avoid e vs:=by
 simp only [VR] at h
 obtain ⟨a,len,cap,rfl,h1,h2,-,h4⟩:=h
 subst h1
 refine ⟨a,cap,rfl,h2,fun j e hj=>?_⟩
 rcases h4 with h4|⟨b,o,sz,rfl,h4⟩
 ·subst h4; simp [nth] at hj
 ·obtain ⟨h0,vs,h5,h6⟩:=Ago h4 hj
  exact ⟨b,o,vs,rfl,by rw [h0]; exact h5,h6⟩
theorem rowsQ {w:World} {l:List RowT} {v:Value} (h:VR (Cq A w) (Aj l) v):∃ a cap,v=.slice a l.length cap/\l.length<=cap /\
  ∀ j r,nth l j=some r->∃ b o a2 n2 c2,a=some ⟨b,o,none⟩/\b<w.heap.size/\w.cell? ⟨b,o+j*3,none⟩=some (.slice a2 n2 c2)/\w.cell? ⟨b,o+j*3+1,none⟩=some (.int .i64 r.2.1)/\w.cell? ⟨b,o+j*3+2,none⟩=some (.bool r.2.2) /\
   VR (Cq A w) (.agg (rowC r)) (.agg #[.slice a2 n2 c2,.int .i64 r.2.1,.bool r.2.2]):=by
 obtain ⟨a,cap,rfl,h1,h2⟩:=Ag5 h
 rw [List.length_map] at h1 ⊢
 refine ⟨a,cap,rfl,h1,fun j r hj=>?_⟩
 obtain ⟨b,o,vs,rfl,h3,h4⟩:=h2 j _ (H8 hj)
 have h5:=Hl (C:=Cq A w) h4
 match vs,h3,h4,h5 with
 | [x,y,z],h3,h4,h5 =>
 simp only [rowC,Aa,PRs,PR,and_true] at h4
 obtain ⟨⟨a2,n2,c2,rfl,-⟩,⟨rfl,-⟩,⟨rfl,-⟩⟩:=h4
 simp only [Lie] at h3
 refine ⟨b,o,a2,n2,c2,rfl,Dn h3.1,h3.1,h3.2.2.1,h3.2.2.2.2.1,?_⟩
 simp only [VR]
 exact ⟨_,rfl,h5⟩
theorem Acc {w:World} {l:List ByteArray} {v:Value} (h:VR (Cq A w) (Al l) v):∃ a cap,v=.slice a l.length cap/\l.length<=cap /\
  ∀ j s,nth l j=some s->∃ b o,a=some ⟨b,o,none⟩/\b<w.heap.size/\w.cell? ⟨b,o+j,none⟩=some (.string s):=by
 obtain ⟨a,cap,rfl,h1,h2⟩:=Ag5 h
 rw [List.length_map] at h1 ⊢
 refine ⟨a,cap,rfl,h1,fun j r hj=>?_⟩
 obtain ⟨b,o,vs,rfl,h3,h4⟩:=h2 j _ (Vo hj)
 match vs,h3,h4 with
 | [x],h3,h4 =>
 simp only [PRs,PR,and_true] at h4
 obtain ⟨rfl,-⟩:=h4
 simp only [Lie,List.length_cons,List.length_nil,Nat.zero_add,Nat.mul_one] at h3
 exact ⟨b,o,rfl,Dn h3.1,h3.1⟩
theorem An2 {w:World} {l:List Int} {c:Cap} {v:Value} (h:VR (Cq A w) (.frz (l.map intC) c) v):∃ a cap,v=.slice a l.length cap/\l.length<=cap /\
  ∀ j s,nth l j=some s->∃ b o,a=some ⟨b,o,none⟩/\b<w.heap.size/\w.cell? ⟨b,o+j,none⟩=some (.int .i64 s):=by
 obtain ⟨a,cap,rfl,h1,h2⟩:=Ag5 h
 rw [List.length_map] at h1 ⊢
 refine ⟨a,cap,rfl,h1,fun j r hj=>?_⟩
 obtain ⟨b,o,vs,rfl,h3,h4⟩:=h2 j (intC r) (by rw [Bt,hj]; rfl)
 match vs,h3,h4 with
 | [x],h3,h4 =>
 simp only [intC,PRs,PR,and_true] at h4
 obtain ⟨rfl,-⟩:=h4
 simp only [intC,Lie,List.length_cons,List.length_nil,Nat.zero_add,Nat.mul_one] at h3
 exact ⟨b,o,rfl,Dn h3.1,h3.1⟩
def K3:Pt->List Value
 | []=>[]
 | c :: r=>.string c.1 :: .int .i64 c.2 :: K3 r
theorem Q9 {w:World} {b:Nat} : ∀ {pt:Pt} {o:Nat},A5 w (Cq A w).Avoid b 2 o (pt.map A1)->∀ j u,(K3 pt)[j]?=some u->w.cell? ⟨b,o+j,none⟩=some u/\¬ A b (o+j)
 | [],o,_,j,u,hj=>by simp [K3] at hj
 | c :: r,o,h,j,u,hj=>by
  simp only [List.map_cons,A5,A1] at h
  obtain ⟨-,⟨vs,h1,h2⟩,h3⟩:=h
  match vs,h1,h2 with
  | [x,y],h1,h2 =>
  simp only [PRs,PR,and_true] at h2
  obtain ⟨⟨rfl,-⟩,⟨rfl,-⟩⟩:=h2
  simp only [Lie] at h1
  match j,hj with
  | 0,hj=>simp only [K3,List.getElem?_cons_zero,Option.some.injEq] at hj; subst hj; exact ⟨h1.1,Amk h1.2.1⟩
  | 1,hj=>simp only [K3,List.getElem?_cons_succ,List.getElem?_cons_zero,Option.some.injEq] at hj; subst hj; exact ⟨h1.2.2.1,Amk h1.2.2.2.1⟩
  | j+2,hj =>
   simp only [K3,List.getElem?_cons_succ] at hj
   have:=Q9 h3 j u hj
   rw [show o+(j+2)=o+2+j by omega]; exact this
theorem Acg {w:World} {pt:Pt} {v:Value} (h:VR (Cq A w) (Aa pt) v):∃ a cap,v=.slice a pt.length cap/\pt.length<=cap/\(pt=[]\/∃ b o,a=some ⟨b,o,none⟩/\∀ j u,(K3 pt)[j]?=some u->w.cell? ⟨b,o+j,none⟩=some u/\¬ A b (o+j)):=by
 simp only [Aa,VR] at h
 obtain ⟨a,len,cap,rfl,h1,h2,-,h4⟩:=h
 rw [List.length_map] at h1
 subst h1
 refine ⟨a,cap,rfl,h2,?_⟩
 rcases h4 with h4|⟨b,o,sz,rfl,h4⟩
 ·exact .inl (by simpa using h4)
 ·cases pt with
  | nil=>exact .inl rfl
  | cons c r =>
   have hsz:sz=2:=by simp only [List.map_cons,A5,A1,List.length_cons,List.length_nil] at h4; exact h4.1.symm
   subst hsz
   exact .inr ⟨b,o,rfl,Q9 h4⟩
theorem Lm {w:World} {b:Nat} : ∀ (pt:Pt) (o:Nat),(∀ j u,(K3 pt)[j]?=some u->w.cell? ⟨b,o+j,none⟩=some u/\¬ A b (o+j))->A5 w (Cq A w).Avoid b 2 o (pt.map A1)
 | [],o,_=>by simp only [List.map_nil,A5]
 | c :: r,o,h=>by
  simp only [List.map_cons,A5]
  have h0:=h 0 _ rfl
  have h1:=h 1 _ rfl
  refine ⟨rfl,⟨[.string c.1,.int .i64 c.2],⟨h0.1,Lu h0.2,h1.1,Lu h1.2,trivial⟩,?_⟩,Lm r (o+2) fun j u hj=>?_⟩
  ·simp [PRs,PR,A1,Value.oneCell']
  ·have:=h (j+2) u (by simpa only [K3,List.getElem?_cons_succ] using hj)
   rwa [show o+(j+2)=o+2+j by omega] at this
theorem Ala {w:World} {pt:Pt} {b o cap:Nat} (hc:pt.length<=cap) (h:∀ j u,(K3 pt)[j]?=some u->w.cell? ⟨b,o+j,none⟩=some u/\¬ A b (o+j)):VR (Cq A w) (Aa pt) (.slice (some ⟨b,o,none⟩) pt.length cap):=by
 simp only [Aa,VR]
 exact ⟨_,_,_,rfl,by simp,hc,trivial,.inr ⟨b,o,2,rfl,Lm pt o h⟩⟩
end
section
open Go Tryz
def K8 (l:List RowT):Bool:=decide (l.length<=8) && l.all fun r=>decide (r.1.length<=8)
def Yo (l:List RowT) (most:Int):Bool:=K8 l && (decide (most<=1) || (decide (most<=4) && decide ((Gl l).length<=3)) || decide (6<(Gl l).length) || decide (8<most))
theorem Aj7 {α:Type} {f:α->Bool} {l:List α} {i:Nat} {x:α} (h:nth l i=some x):(l.drop i).all f=(f x && (l.drop (i+1)).all f):=by
 rw [Ar h]; rfl
def nX:ByteArray:=⟨#[120]⟩
def nY:ByteArray:=⟨#[121]⟩
section
variable (S:List Ent) (tk:List Nat) (k:Nat)
theorem Aew (l:List RowT):cL prog 15 [Aj l] S tk k=some (.bool (K8 l),S,tk,k):=by
 refine opP func15 ntmps15 ?_
 by_cases h8:8<l.length
 ·have d0:decide ((l.length:Int) > 8)=true:=by simp; omega
  have hr:K8 l=false:=by
   have:decide (l.length<=8)=false:=by simp; omega
   unfold K8; rw [this,Bool.false_and]
  rw [hr]
  simp (maxSteps:=10^6)+contextual(disch:=try exact dqd)only[ev1,simprocAttr,AV.int,AV.bool,AV.str,results15,Aj,d0]
 have d0:decide ((l.length:Int) > 8)=false:=by simp; omega
 have hr:K8 l=l.all fun r=>decide (r.1.length<=8):=by
  have:decide (l.length<=8)=true:=by simp; omega
  unfold K8; rw [this,Bool.true_and]
 rw [hr]
 simp (maxSteps:=10^6)+contextual(disch:=try exact dqd)only[ev1,simprocAttr,AV.int,AV.bool,AV.str,results15,Aj,d0]
 refine loop1 (P:=prog) (fun x st=>st.T.length=21/\(x<=l.length)/\((l.all fun r=>decide (r.1.length<=8))=(l.drop x).all fun r=>decide (r.1.length<=8))/\getT st.T 0=Aj l/\getT st.T 3=.int (x:Nat)/\st.S=[]) (fun x=>l.length - x) (fun x=>.bool (l.all fun r=>decide (r.1.length<=8))) (0) ?_ ?_
 case refine_2=>exact ⟨rfl,Nat.zero_le _,rfl,rfl,rfl,rfl⟩
 rintro i ⟨T,S',tk',n'⟩ ⟨hl,hi,hE,e0,e3,eS⟩ IH
 subst eS
 obtain ⟨g,hg,hT⟩:=Ap hl
 rw [hg] at e0 e3
 subst hT
 clear hg hl
 have a8:=Av (i:=i) (by omega)
 by_cases hlt:i<l.length
 ·have d1:decide ((i:Int)<(l.length:Int))=true:=by simpa using hlt
  obtain ⟨r,hx⟩:=Ab hlt
  have hx':=H8 hx
  simp only [rowC,Aa] at hx'
  rw [Aj7 hx] at hE
  by_cases h9:8<r.1.length
  ·have d2:decide ((r.1.length:Int) > 8)=true:=by simp; omega
   have d3:decide (r.1.length<=8)=false:=by simp; omega
   rw [d3,Bool.false_and] at hE
   simp (maxSteps:=10^6)+contextual(disch:=try exact dqd)only[ev1,simprocAttr,AV.int,AV.bool,AV.str,results15,e0,e3,d1,Aj,hx',d2]
   rw [hE]
  ·have d2:decide ((r.1.length:Int) > 8)=false:=by simp; omega
   have d3:decide (r.1.length<=8)=true:=by simp; omega
   rw [d3,Bool.true_and] at hE
   simp (maxSteps:=10^6)+contextual(disch:=try exact dqd)only[ev1,simprocAttr,AV.int,AV.bool,AV.str,results15,e0,e3,d1,Aj,hx',d2,a8]
   exact IH (i+1) _ (by first|omega|(simp only; omega)) ⟨rfl,by first|omega|(dsimp only; omega),hE,rfl,rfl,rfl⟩
 ·have d1:decide ((i:Int)<(l.length:Int))=false:=by simpa using hlt
  have bp:i=l.length:=by omega
  rw [bp,List.drop_length] at hE
  simp (maxSteps:=10^6)+contextual(disch:=try exact dqd)only[ev1,simprocAttr,AV.int,AV.bool,AV.str,results15,e0,e3,d1,Aj]
  rw [hE]; rfl
theorem Aex (l:List RowT) (most:Int):cL prog 5 [Aj l,.int most] S tk k=some (.bool (Yo l most),S,tk,k):=by
 have hV:=fun S tk k=>Wp S tk k l
 have hL:=fun S tk k=>Aew S tk k l
 simp only [Aj,Al] at hV hL
 unfold Yo
 refine opP func5 ntmps5 ?_
 have q1:decide ((((Gl l).map strC).length:Int)<=3)=decide ((Gl l).length<=3):=by simp only [List.length_map,decide_eq_decide]; omega
 have q2:decide ((((Gl l).map strC).length:Int) > 6)=decide (6<(Gl l).length):=by simp only [List.length_map,decide_eq_decide]; omega
 cases a0:K8 l with
 | false=>rw [a0] at hL; simp (maxSteps:=10^6)+contextual(disch:=try exact dqd)only[ev1,simprocAttr,AV.int,AV.bool,AV.str,results5,Aj,hV,hL,Bool.false_and]
 | true =>
  rw [a0] at hL
  cases a1:decide (most<=1) with
  | true=>simp (maxSteps:=10^6)+contextual(disch:=try exact dqd)only[ev1,simprocAttr,AV.int,AV.bool,AV.str,results5,Aj,hV,hL,a1,Bool.true_and,Bool.true_or]
  | false =>
   cases a2:decide (most<=4) <;> cases a3:decide ((Gl l).length<=3) <;> cases a4:decide (6<(Gl l).length) <;> cases a5:decide (most > 8) <;>
    (have a3':=q1.trans a3; have a4':=q2.trans a4; have a5':decide (8<most)=_:=a5; simp only [List.length_map] at a3' a4'; simp (maxSteps:=10^6)+contextual(disch:=try exact dqd)only[ev1,simprocAttr,AV.int,AV.bool,AV.str,results5,Aj,hV,hL,a1,a2,a3,a4,a5,a3',a4',a5',Bool.true_and,Bool.true_or,Bool.false_or,Bool.or_true,Bool.or_false,Bool.false_and,Bool.and_true,Bool.and_false,List.length_map])
theorem Aa0 (a b:Pt) (hl:a.length<=1048576):cL prog 9 [Aa a,Aa b] S tk k=some (.bool (decide (a=b)),S,tk,k):=by
 refine opP func9 ntmps9 ?_
 by_cases hlen:a.length=b.length
 rotate_left
 ·have d0:((a.length:Int) != (b.length:Int))=true:=by simp; omega
  have hr:decide (a=b)=false:=by
   simp only [decide_eq_false_iff_not]; intro h; subst h; exact hlen rfl
  simp (maxSteps:=10^6)+contextual(disch:=try exact dqd)only[ev1,simprocAttr,AV.int,AV.bool,AV.str,results9,Aa,d0]
  rw [hr]
 have d0:((a.length:Int) != (b.length:Int))=false:=by simp; omega
 simp (maxSteps:=10^6)+contextual(disch:=try exact dqd)only[ev1,simprocAttr,AV.int,AV.bool,AV.str,results9,Aa,d0]
 refine loop1 (P:=prog) (fun x st=>st.T.length=26/\(x<=a.length)/\(decide (a=b)=decide (a.drop x=b.drop x))/\getT st.T 0=Aa a/\getT st.T 1=Aa b/\getT st.T 5=.int (x:Nat)/\st.S=[]) (fun x=>a.length - x) (fun x=>.bool (decide (a=b))) (0) ?_ ?_
 case refine_2=>exact ⟨rfl,Nat.zero_le _,rfl,rfl,rfl,rfl,rfl⟩
 rintro i ⟨T,S',tk',n'⟩ ⟨hl,hi,hE,e0,e1,e5,eS⟩ IH
 subst eS
 obtain ⟨g,hg,hT⟩:=Ap hl
 rw [hg] at e0 e1 e5
 subst hT
 clear hg hl
 have a8:=Av (i:=i) (by omega)
 by_cases hlt:i<a.length
 ·have d1:decide ((i:Int)<(a.length:Int))=true:=by simpa using hlt
  obtain ⟨x,hx⟩:=Ab hlt
  obtain ⟨y,hy⟩:=Ab (show i<b.length by omega)
  have hx':=Kw hx
  have eh:=Kw hy
  simp only [A1] at hx' eh
  rw [Ar hx,Ar hy] at hE
  cases h1:sEq x.1 y.1 with
  | false =>
   have hne:¬ x=y:=by intro h; rw [h,Gj] at h1; simp at h1
   simp (maxSteps:=10^6)+contextual(disch:=try exact dqd)only[ev1,simprocAttr,AV.int,AV.bool,AV.str,results9,e0,e1,e5,d1,Aa,hx',eh,a8,h1,Bool.false_and,Bool.not_false]
   rw [hE]; simp [hne]
  | true =>
   have jc:x.1=y.1:=by rw [Gj] at h1; simpa using h1
   by_cases h2:x.2=y.2
   ·have d2:(x.2 == y.2)=true:=by simpa using h2
    have he:x=y:=Prod.ext jc h2
    simp (maxSteps:=10^6)+contextual(disch:=try exact dqd)only[ev1,simprocAttr,AV.int,AV.bool,AV.str,results9,e0,e1,e5,d1,Aa,hx',eh,a8,h1,d2,Bool.true_and,Bool.and_true,Bool.not_true]
    exact IH (i+1) _ (by first|omega|(simp only; omega)) ⟨rfl,by first|omega|(dsimp only; omega),by rw [hE,he]; simp,rfl,rfl,rfl,rfl⟩
   ·have d2:(x.2 == y.2)=false:=by simpa using h2
    have hne:¬ x=y:=by intro h; rw [h] at h2; exact h2 rfl
    simp (maxSteps:=10^6)+contextual(disch:=try exact dqd)only[ev1,simprocAttr,AV.int,AV.bool,AV.str,results9,e0,e1,e5,d1,Aa,hx',eh,a8,h1,d2,Bool.true_and,Bool.false_and,Bool.and_false,Bool.not_false]
    rw [hE]; simp [hne]
 ·have d1:decide ((i:Int)<(a.length:Int))=false:=by simpa using hlt
  have bp:i=a.length:=by omega
  simp (maxSteps:=10^6)+contextual(disch:=try exact dqd)only[ev1,simprocAttr,AV.int,AV.bool,AV.str,results9,e0,e1,e5,d1,Aa]
  have e1:a.drop i=[]:=by rw [bp,List.drop_length]
  have e2:b.drop i=[]:=by rw [bp,hlen,List.drop_length]
  rw [hE,e1,e2]; rfl
set_option maxRecDepth 100000 in
theorem Uf (x c:Int) (eq:Bool) (hx:(x != 0)=true):cL prog 16 [.int x,.int 0,.int c,.bool eq] S tk k=some (.agg (rowC ([(nX,x)],c,eq)),S,tk,k):=by
 refine opP func16 ntmps16 ?_
 have hA:=fun (a b:AV)=>apB_one (tk:=[]) (c:=.nilc) (es:=[]) (y:=[a,b]) (sz:=2) rfl rfl rfl (by decide)
 simp (maxSteps:=10^6)+contextual(disch:=try exact dqd)only[ev1,simprocAttr,AV.int,AV.bool,AV.str,results16,hx,bne_self_eq_false,hA]
 rfl
set_option maxRecDepth 100000 in
theorem Aas (x y c:Int) (eq:Bool) (hx:(x != 0)=true) (hy:(y != 0)=true):cL prog 16 [.int x,.int y,.int c,.bool eq] S tk k=some (.agg (rowC ([(nX,x),(nY,y)],c,eq)),S,tk,k):=by
 refine opP func16 ntmps16 ?_
 have hA:=fun (a b:AV)=>apB_one (tk:=[]) (c:=.nilc) (es:=[]) (y:=[a,b]) (sz:=2) rfl rfl rfl (by decide)
 have te:=fun (a b c d:AV)=>apB_one (tk:=Ep [] .nilc) (c:=Bp [] .nilc 2) (es:=[[a,b]]) (y:=[c,d]) (sz:=2) rfl rfl rfl (by simp)
 simp (maxSteps:=10^6)+contextual(disch:=try exact dqd)only[ev1,simprocAttr,AV.int,AV.bool,AV.str,results16,hx,hy,hA,te,List.nil_append,List.singleton_append]
 rfl
theorem Wj (x y:Int):cL prog 19 [.int x,.int y] S tk k=some (Aa [(nX,x),(nY,y)],S,tk,k):=by
 refine opP func19 ntmps19 ?_
 simp (maxSteps:=10^6)+contextual(disch:=try exact dqd)only[ev1,simprocAttr,AV.int,AV.bool,AV.str,results19]
 rfl
end
end
section
open Go
theorem Abc (a:Int):befF a a=false:=by simp [befF]
theorem Adp {a b c:Int} (h1:befF a b=true) (h2:befF b c=true):befF a c=true:=by
 unfold befF at *
 split at h1 <;> split at h2 <;> split <;> simp only [decide_eq_true_eq] at*<;> omega
theorem Akb {a b:Int} (h:a≠b) (h1:befF a b=false):befF b a=true:=by
 unfold befF at *
 split at h1 <;> split <;> simp only [decide_eq_true_eq,decide_eq_false_iff_not] at*<;> omega
theorem E7 {s:ByteArray} : ∀ {pt:Pt},Ao s pt≠0->∃ c ∈ pt,c.1=s
 | [],h=>absurd rfl h
 | c :: r,h=>by
  unfold Ao at h
  split at h
  ·rename_i he
   rw [Gj] at he
   exact ⟨c,by simp,by simpa using he⟩
  ·obtain ⟨d,hd,e⟩:=E7 h
   exact ⟨d,by simp [hd],e⟩
theorem Aif (pt:Pt) (n:Nat):∀ (l:Pt) (m:Nat),radG pt m l<=n↔m<=n/\∀ c ∈ l,(Ao c.1 pt).natAbs<=n
 | [],m=>by simp [radG]
 | c :: r,m=>by
  rw [radG,Aif pt n r]
  constructor
  ·rintro ⟨h1,h2⟩
   refine ⟨by omega,fun d hd=>?_⟩
   rcases List.mem_cons.1 hd with rfl|hd
   ·omega
   ·exact h2 d hd
  ·rintro ⟨h1,h2⟩
   have:=h2 c (by simp)
   exact ⟨by omega,fun d hd=>h2 d (by simp [hd])⟩
theorem Rg (pt:Pt) (n:Nat):radF pt<=n↔∀ s,(Ao s pt).natAbs<=n:=by
 unfold radF
 rw [Aif]
 constructor
 ·rintro ⟨-,h⟩ s
  by_cases h0:Ao s pt=0
  ·rw [h0]; simp
  ·obtain ⟨c,hc,rfl⟩:=E7 h0
   exact h c hc
 ·exact fun h=>⟨Nat.zero_le _,fun c _=>h c.1⟩
def Aj5 (a b:Pt):Prop:=∀ s,Ao s a=Ao s b
theorem Aie {a b:Pt} (h:Aj5 a b):radF a=radF b:=by
 have h1:radF a<=radF b:=(Rg a _).2 fun s=>by rw [h s]; exact (Rg b _).1 (Nat.le_refl _) s
 have h2:radF b<=radF a:=(Rg b _).2 fun s=>by rw [<- h s]; exact (Rg a _).1 (Nat.le_refl _) s
 omega
theorem least_none (a b:Pt):∀ (l:Pt) (o:Option ByteArray),Em a b o l=none↔o=none/\∀ c ∈ l,Ao c.1 a=Ao c.1 b
 | [],o=>by simp [Em]
 | c :: r,o=>by
  rw [Em,least_none a b r]
  by_cases hd:Ao c.1 a=Ao c.1 b
  ·have:(Ao c.1 a != Ao c.1 b)=false:=by simpa using hd
   simp [this,hd]
  ·have h1:(Ao c.1 a != Ao c.1 b)=true:=by simpa using hd
   rw [h1,Bool.true_and]
   constructor
   ·rintro ⟨h2,-⟩
    split at h2
    ·cases h2
    ·rename_i h3
     subst h2
     exact absurd rfl h3
   ·rintro ⟨-,h2⟩
    exact absurd (h2 c (by simp)) hd
theorem Kr (a b:Pt):∀ (l:Pt) (o:Option ByteArray) (s:ByteArray),(∀ t,o=some t->Ao t a≠Ao t b)->Em a b o l=some s ->
  Ao s a≠Ao s b/\(∀ t,o=some t->¬ nm t<nm s)/\∀ c ∈ l,Ao c.1 a≠Ao c.1 b->¬ nm c.1<nm s
 | [],o,s,ho,h=>by
  simp only [Em] at h
  refine ⟨ho s h,fun t ht=>?_,by simp⟩
  rw [h] at ht
  simp only [Option.some.injEq] at ht
  subst ht
  exact Di _
 | c :: r,o,s,ho,h=>by
  rw [Em] at h
  by_cases hd:Ao c.1 a=Ao c.1 b
  ·have bj:(Ao c.1 a != Ao c.1 b)=false:=by simpa using hd
   rw [bj,Bool.false_and,if_neg (by simp)] at h
   obtain ⟨h1,h2,h3⟩:=Kr a b r o s ho h
   refine ⟨h1,h2,fun d hd2 hne=>?_⟩
   rcases List.mem_cons.1 hd2 with rfl|hd2
   ·exact absurd hd hne
   ·exact h3 d hd2 hne
  ·have bj:(Ao c.1 a != Ao c.1 b)=true:=by simpa using hd
   rw [bj,Bool.true_and] at h
   by_cases hl:Ahl o c.1=true
   ·rw [if_pos hl] at h
    obtain ⟨h1,h2,h3⟩:=Kr a b r (some c.1) s (fun t ht=>by simp only [Option.some.injEq] at ht; subst ht; exact hd) h
    have dn:=h2 c.1 rfl
    refine ⟨h1,fun t ht hlt=>?_,fun d hd2 hne=>?_⟩
    ·subst ht
     simp only [Ahl,Ua,decide_eq_true_eq] at hl
     exact dn (E9 hl hlt)
    ·rcases List.mem_cons.1 hd2 with rfl|hd2
     ·exact dn
     ·exact h3 d hd2 hne
   ·rw [if_neg hl] at h
    obtain ⟨h1,h2,h3⟩:=Kr a b r o s ho h
    refine ⟨h1,h2,fun d hd2 hne=>?_⟩
    rcases List.mem_cons.1 hd2 with rfl|hd2
    ·cases o with
     | none=>exact absurd rfl hl
     | some t =>
      simp only [Ahl,Ua,decide_eq_true_eq] at hl
      intro hlt
      rcases Vm d.1 t with q|q|q
      ·exact hl q
      ·rw [q] at hlt; exact h2 t rfl hlt
      ·exact h2 t rfl (E9 q hlt)
    ·exact h3 d hd2 hne
def LtP (a b:Pt):Prop:=radF a<radF b\/radF a=radF b/\∃ s,befF (Ao s a) (Ao s b)=true/\∀ t,nm t<nm s->Ao t a=Ao t b
theorem Q7 (a b:Pt):(ordF a b=-1/\LtP a b)\/(ordF a b=0/\Aj5 a b)\/(ordF a b=1/\LtP b a):=by
 unfold ordF
 by_cases c1:radF a<radF b
 ·rw [if_pos c1]; exact .inl ⟨rfl,.inl c1⟩
 rw [if_neg c1]
 by_cases c2:radF b<radF a
 ·rw [if_pos c2]; exact .inr (.inr ⟨rfl,.inl c2⟩)
 rw [if_neg c2]
 have hr:radF a=radF b:=by omega
 cases h:Em a b none (a++b) with
 | none =>
  have h1:=((least_none a b (a++b) none).1 h).2
  refine .inr (.inl ⟨rfl,fun s=>?_⟩)
  by_cases h0:Ao s a=0
  ·by_cases h0':Ao s b=0
   ·rw [h0,h0']
   ·obtain ⟨c,hc,rfl⟩:=E7 h0'
    exact h1 c (by simp [hc])
  ·obtain ⟨c,hc,rfl⟩:=E7 h0
   exact h1 c (by simp [hc])
 | some s =>
  obtain ⟨h1,-,h3⟩:=Kr a b (a++b) none s (by simp) h
  have h4:∀ t,nm t<nm s->Ao t a=Ao t b:=fun t ht=>by
   refine Decidable.byContradiction fun hne=>?_
   by_cases h0:Ao t a=0
   ·by_cases h0':Ao t b=0
    ·exact hne (by rw [h0,h0'])
    ·obtain ⟨c,hc,rfl⟩:=E7 h0'
     exact h3 c (by simp [hc]) hne ht
   ·obtain ⟨c,hc,rfl⟩:=E7 h0
    exact h3 c (by simp [hc]) hne ht
  cases hb:befF (Ao s a) (Ao s b) with
  | true=>exact .inl ⟨by simp [hb],.inr ⟨hr,s,hb,h4⟩⟩
  | false=>exact .inr (.inr ⟨by simp [hb],.inr ⟨hr.symm,s,Akb h1 hb,fun t ht=>(h4 t ht).symm⟩⟩)
theorem M5 {a b:Pt} (h:LtP a b) (hs:Aj5 a b):False:=by
 rcases h with h|⟨-,s,hb,-⟩
 ·rw [Aie hs] at h; omega
 ·rw [hs s,Abc] at hb; cases hb
theorem Ae0 {a b c:Pt} (h1:LtP a b) (h2:LtP b c):LtP a c:=by
 rcases h1 with h1|⟨r1,s,b1,e1⟩ <;> rcases h2 with h2|⟨r2,t,b2,e2⟩
 ·exact .inl (by omega)
 ·exact .inl (by omega)
 ·exact .inl (by omega)
 refine .inr ⟨by omega,?_⟩
 rcases Vm s t with q|q|q
 ·exact ⟨s,by rw [<- e2 s q]; exact b1,fun u hu=>(e1 u hu).trans (e2 u (E9 hu q))⟩
 ·subst q
  exact ⟨s,Adp b1 b2,fun u hu=>(e1 u hu).trans (e2 u hu)⟩
 ·exact ⟨t,by rw [e1 t q]; exact b2,fun u hu=>(e1 u (E9 hu q)).trans (e2 u hu)⟩
theorem Ps {a b:Pt} (h:LtP a b) (h2:LtP b a):False:=M5 (Ae0 h h2) fun _=>rfl
theorem Aod (a b:Pt):ordF b a=-ordF a b:=by
 rcases Q7 a b with ⟨e,h⟩|⟨e,h⟩|⟨e,h⟩ <;> rcases Q7 b a with ⟨e2,h2⟩|⟨e2,h2⟩|⟨e2,h2⟩
 ·exact absurd h2 fun h2=>Ps h h2
 ·exact absurd h fun h=>M5 h fun s=>(h2 s).symm
 ·omega
 ·exact absurd h2 fun h2=>M5 h2 fun s=>(h s).symm
 ·omega
 ·exact absurd h2 fun h2=>M5 h2 h
 ·omega
 ·exact absurd h fun h=>M5 h h2
 ·exact absurd h2 fun h2=>Ps h h2
theorem Ak6 (a:Pt):ordF a a=0:=by have:=Aod a a; omega
theorem Amd {a b:Pt} (h:LtP a b\/Aj5 a b):ordF a b<=0:=by
 rcases Q7 a b with ⟨e,_⟩|⟨e,_⟩|⟨e,h3⟩
 ·omega
 ·omega
 ·rcases h with h|h
  ·exact absurd h3 fun h3=>Ps h h3
  ·exact absurd h3 fun h3=>M5 h3 fun s=>(h s).symm
def A6 (sat:Pt->Bool) (r:Int):List ByteArray->Pt->Bool->Option Pt
 | [],pt,reached=>if (reached && sat pt)=true then some pt else none
 | s :: ns,pt,reached=>(Db r).findSome? fun n=>A6 sat r ns (pt++[(s,n)]) (reached || n == r || n == -r)
def Ge (sat:Pt->Bool) (names:List ByteArray):Nat->Nat->Option Pt
 | _,0=>none
 | j,k+1=>match A6 sat (j:Int) names [] ((j:Int) == 0) with
  | some p=>some p
  | none=>Ge sat names (j+1) k
def okF (l:List RowT) (most:Int):Bool:=decide (sysE l=0) && decide (0<=most) && decide (most<=8) && decide ((A4 l).length<=6)
def fndF (l:List RowT) (most:Int):Option Pt:=if okF l most=true then Ge (satF l) (A4 l) 0 (most.toNat+1) else none
theorem Vk:∀ (n:Nat) (x:Int),x ∈ K4 n↔x.natAbs<=n
 | 0,x=>by simp [K4]
 | n+1,x=>by
  rw [K4,List.mem_append,Vk n]
  simp only [List.mem_cons,List.not_mem_nil,or_false]
  omega
theorem Jw {r x:Int} (h0:0<=r) (h8:r<=8):x ∈ Db r↔(x.natAbs:Int)<=r:=by
 unfold Db
 rw [if_neg (by omega),Vk]
 omega
theorem Jc {sat:Pt->Bool} {r:Int} : ∀ {ns:List ByteArray} {pt:Pt} {reached:Bool} {p:Pt},A6 sat r ns pt reached=some p->sat p=true/\∃ ext:Pt,p=pt++ext/\ext.map (·.1)=ns/\(∀ x ∈ ext,x.2 ∈ Db r)/\(reached=true\/∃ x ∈ ext,x.2=r\/x.2=-r)
 | [],pt,reached,p,h=>by
  simp only [A6] at h
  split at h
  ·rename_i hs
   simp only [Option.some.injEq] at h
   subst h
   rw [Bool.and_eq_true] at hs
   exact ⟨hs.2,[],by simp,rfl,by simp,.inl hs.1⟩
  ·cases h
 | s :: ns,pt,reached,p,h=>by
  simp only [A6] at h
  obtain ⟨n,hn,h1⟩:=List.exists_of_findSome?_eq_some h
  obtain ⟨h2,ext,rfl,h4,h5,h6⟩:=Jc h1
  refine ⟨h2,(s,n) :: ext,by simp,by simp [h4],fun x hx=>?_,?_⟩
  ·rcases List.mem_cons.1 hx with rfl|hx
   ·exact hn
   ·exact h5 x hx
  ·rcases h6 with h6|⟨x,hx,h6⟩
   ·simp only [Bool.or_eq_true,beq_iff_eq] at h6
    rcases h6 with (h6|h6)|h6
    ·exact .inl h6
    ·exact .inr ⟨(s,n),by simp,.inl h6⟩
    ·exact .inr ⟨(s,n),by simp,.inr h6⟩
   ·exact .inr ⟨x,by simp [hx],h6⟩
def lv (pt:Pt):List (ByteArray × Int)->Int
 | []=>0
 | c :: r=>c.2*Ao c.1 pt+lv pt r
theorem Ud {pt:Pt} : ∀ {cs:List (ByteArray × Int)} {s:Int},(Da pt s cs).2=true->(Da pt s cs).1=s+lv pt cs
 | [],s,_=>by simp [Da,lv]
 | c :: r,s,h=>by
  have ck:∀ {b:Bool} {n:Int},(chk b n).2=true->(chk b n).1=n:=fun {b n} h=>by
   unfold chk at h ⊢
   split at h
   ·rename_i hc; rw [if_pos hc]
   ·cases h
  unfold Da at h ⊢
  split at h
  ·rename_i h1
   rw [if_pos h1]
   split at h
   ·rename_i h2
    rw [if_pos h2]
    rw [Ud h,lv]
    have e1:(mulS c.2 (Ao c.1 pt)).1=c.2*Ao c.1 pt:=ck h1
    have e2:(addS s (mulS c.2 (Ao c.1 pt)).1).1=s+(mulS c.2 (Ao c.1 pt)).1:=ck h2
    rw [e2,e1]; omega
   ·cases h
  ·cases h
theorem Alf {pt:Pt} {r:RowT} (h:Aae pt r=true):r.2.1+lv pt r.1<=0/\(r.2.2=true->r.2.1+lv pt r.1=0):=by
 unfold Aae at h
 rw [Bool.and_eq_true,Bool.and_eq_true,decide_eq_true_eq] at h
 obtain ⟨h1,h2,h3⟩:=h
 unfold Gk at h1 h2 h3
 split at h1
 ·rename_i hc
  rw [if_pos hc] at h2 h3
  rw [Ud h1] at h2 h3
  refine ⟨h2,fun he=>?_⟩
  rw [he] at h3
  simpa using h3
 ·cases h1
theorem Qi {s:ByteArray} {B:Nat} : ∀ {a:Pt},(∀ x ∈ a,x.2.natAbs<=B)->(Ao s a).natAbs<=B
 | [],_=>by simp [Ao]
 | c :: r,h=>by
  unfold Ao
  split
  ·exact h c (by simp)
  ·exact Qi fun x hx=>h x (by simp [hx])
def Wh (pt:Pt):Prop:=pt.Pairwise fun a b=>a.1≠b.1
theorem Ab4 {c:ByteArray × Int} : ∀ {pt:Pt} {s:Int × Int × Bool},(∀ x ∈ pt,x.1≠c.1)->knF c pt s=s
 | [],_,_=>rfl
 | x :: r,s,h=>by
  rw [knF,if_neg (by rw [Gj]; simpa using h x (by simp))]
  exact Ab4 fun y hy=>h y (by simp [hy])
theorem Ab5 {c:ByteArray × Int} {lo hi:Int} {ext:Pt} : ∀ {pt:Pt},Wh pt ->
  (knF c pt (lo,hi,false)=(lo+c.2*Ao c.1 (pt++ext),hi+c.2*Ao c.1 (pt++ext),true))\/(knF c pt (lo,hi,false)=(lo,hi,false)/\Ao c.1 (pt++ext)=Ao c.1 ext)
 | [],_=>.inr ⟨rfl,rfl⟩
 | x :: r,h=>by
  obtain ⟨h1,h2⟩:=List.pairwise_cons.1 h
  rw [knF,List.cons_append,Ao]
  by_cases he:sEq x.1 c.1=true
  ·rw [if_pos he,if_pos he]
   rw [Gj] at he
   have he:x.1=c.1:=by simpa using he
   left
   rw [Ab4 fun y hy=>by rw [<- he]; exact (h1 y hy).symm]
  ·rw [if_neg he,if_neg he]
   exact Ab5 h2
theorem Adn {a b B:Int} (h:(b.natAbs:Int)<=B) : -((a.natAbs:Int)*B)<=a*b/\a*b<=(a.natAbs:Int)*B:=by
 have h1:((a*b).natAbs:Int)<=(a.natAbs:Int)*B:=by
  rw [Int.natAbs_mul,Int.natCast_mul]
  exact Int.mul_le_mul_of_nonneg_left h (by omega)
 omega
theorem T1 {pt ext:Pt} {rad:Int} (ha:Wh pt) (hx:∀ s,((Ao s ext).natAbs:Int)<=rad):∀ (cs:List (ByteArray × Int)) (lo hi v:Int),lo<=v->v<=hi ->
  (lohi pt rad (lo,hi) cs).1<=v+lv (pt++ext) cs/\v+lv (pt++ext) cs<=(lohi pt rad (lo,hi) cs).2
 | [],lo,hi,v,h1,h2=>by simp only [lohi,lv]; omega
 | c :: r,lo,hi,v,h1,h2=>by
  rw [lohi,lv]
  have key:(Ro pt rad (lo,hi) c).1<=v+c.2*Ao c.1 (pt++ext)/\v+c.2*Ao c.1 (pt++ext)<=(Ro pt rad (lo,hi) c).2:=by
   unfold Ro
   simp only
   rcases Ab5 (c:=c) (lo:=lo) (hi:=hi) (ext:=ext) ha with h|⟨h,h3⟩
   ·rw [h,if_pos rfl]; simp only; omega
   ·rw [h,if_neg (by simp)]
    simp only
    rw [h3]
    have:=Adn (a:=c.2) (hx c.1)
    omega
  have:=T1 ha hx r (Ro pt rad (lo,hi) c).1 (Ro pt rad (lo,hi) c).2 (v+c.2*Ao c.1 (pt++ext)) key.1 key.2
  have e:((Ro pt rad (lo,hi) c).1,(Ro pt rad (lo,hi) c).2)=Ro pt rad (lo,hi) c:=rfl
  rw [e] at this
  rw [<- Int.add_assoc]
  exact this
theorem Akq {l:List RowT} {r:RowT} (hr:r ∈ l) {pt:Pt} {rad:Int} (h0:0<=rad) (h8:rad<=8) (ha:Wh pt) (hh:hopF r.1 r.2.1 r.2.2 pt rad=true) (ns:List ByteArray) (reached:Bool):A6 (satF l) rad ns pt reached=none:=by
 cases h:A6 (satF l) rad ns pt reached with
 | none=>rfl
 | some p =>
  exfalso
  obtain ⟨h1,ext,rfl,-,h3,-⟩:=Jc h
  have h4:Aae (pt++ext) r=true:=by
   unfold satF at h1
   exact List.all_eq_true.1 h1 r hr
  obtain ⟨h5,h6⟩:=Alf h4
  have hb:∀ s,((Ao s ext).natAbs:Int)<=rad:=fun s=>by
   have:=Qi (s:=s) (B:=rad.toNat) (a:=ext) fun x hx=>by
    have:=(Jw h0 h8).1 (h3 x hx)
    omega
   omega
  obtain ⟨h7,h9⟩:=T1 ha hb r.1 r.2.1 r.2.1 r.2.1 (Int.le_refl _) (Int.le_refl _)
  unfold hopF at hh
  rw [Bool.or_eq_true,Bool.and_eq_true,decide_eq_true_eq,decide_eq_true_eq] at hh
  rcases hh with hh|⟨he,hh⟩
  ·omega
  ·have:=h6 he; omega
theorem Agx {α β:Type} {f:α->Option β} {l:List α} {j:Nat} {x:α} (h:nth l j=some x) (hn:(l.take j).findSome? f=none):l.findSome? f=match f x with|some y=>some y|none=>(l.drop (j+1)).findSome? f:=by
 have e:l=l.take j++(x :: l.drop (j+1)):=by
  rw [<- Ar h,List.take_append_drop]
 conv=>lhs; rw [e]
 rw [List.findSome?_append,hn,List.findSome?_cons]
 cases f x <;> rfl
theorem Agz {α β:Type} {f:α->Option β} {l:List α} {j:Nat} {x:α} (h:nth l j=some x) (hn:(l.take j).findSome? f=none) (hx:f x=none):(l.take (j+1)).findSome? f=none:=by
 rw [Ew h,List.findSome?_append,hn]
 simp [hx]
end
section
open Go Tryz Go.RowKit
variable {A:Nat->Nat->Prop}
theorem Acs {w:World} {t ty:TypeId} {es ys:List (List AV)} {c2:Cap} {vx vy:Value} {sz:Nat} (hA:Gx A w) (hx:VR (Cq A w) (.frz es .tight) vx) (hy:VR (Cq A w) (.frz ys c2) vy) (hT:apT prog t=some sz) (h1:Bl sz es=true) (h2:Bl sz ys=true) (h3:es.length+ys.length<=1048576) :
  ∃ v w',(Builtin.append_ #[t,t] ty #[vx,vy]).run prog w=.ok v w'/\Below w.heap.size w w'/\VR (Cq A w') (.frz (es++ys) .unk) v:=by
 have hap:apA prog t (.frz es .tight) (.frz ys c2) (Cq A w).tk=some (.frz (es++ys) (Bp [] .tight sz),Ep [] .tight):=by
  simp only [apA,hT]
  rw [if_pos ⟨rfl,h1,h2,by unfold Aen; rw [decide_eq_true h3]; rfl⟩]; rfl
 obtain ⟨v,C',h4,hle,-,-,-,-,hv⟩:=Wy (P:=prog) (Aox hA) hx hy hap
 refine ⟨v,C'.w,h4,⟨hle.os,hle.tape,hle.output,hle.size,fun b hb=>hle.keep b hb fun o hm=>Aao hm⟩,?_⟩
 simp only [VR] at hv ⊢
 obtain ⟨a,len,cap,rfl,g1,g2,-,g4⟩:=hv
 refine ⟨a,len,cap,rfl,g1,g2,trivial,g4.imp id ?_⟩
 rintro ⟨b,o,s',rfl,hr⟩
 exact ⟨b,o,s',rfl,A5.stays (A':=(Cq A C'.w).Avoid) (fun _ _ _ hv ha=>⟨hv,Lu fun h=>ha (.inl (by rw [hle.av]; exact h))⟩) _ _ _ _ hr⟩
theorem Abp {o:Oper} {ρ:Operand->Value} {s x:Operand} {t:TypeId} {w w':World} {v:Value} (ho:o.op=.call { callee:=.builtin .append,args:=#[s,x],argTypes:=#[t,t] }) (h:(Builtin.append_ #[t,t] o.type #[ρ s,ρ x]).run prog w=.ok v w') :
  (execOp ρ o).run prog w=.ok (.value v) w':=by
 simp [execOp,ho,resolve,invoke,builtin,h]
theorem Aak {ops:Array Oper} {rest:List Oper} {o:Oper} {a:Act} {Q:Exit->Act->World->Prop} {w:World} {s x:Operand} {t:TypeId} {es ys:List (List AV)} {c2:Cap} {sz:Nat} (hg:o.guard=none) (ho:o.op=.call { callee:=.builtin .append,args:=#[s,x],argTypes:=#[t,t] })
  (hA:Gx A w) (hx:VR (Cq A w) (.frz es .tight) (a.eval s)) (hy:VR (Cq A w) (.frz ys c2) (a.eval x)) (hT:apT prog t=some sz) (h1:Bl sz es=true) (h2:Bl sz ys=true) (h3:es.length+ys.length<=1048576)
  (h:∀ v' w',Below w.heap.size w w'->VR (Cq A w') (.frz (es++ys) .unk) v'->wpList prog ops Q rest (a.put o.dst v') w'):wpList prog ops Q (o :: rest) a w:=by
 obtain ⟨v,w',h4,h5,h6⟩:=Acs (ty:=o.type) hA hx hy hT h1 h2 h3
 exact wpList_plain hg fun K hK=>Ef (Abp ho h4) (hK _ _ (h v w' h5 h6))
theorem Wf {n:Nat} {ops:Array Oper} {rest:List Oper} {o:Oper} {a:Act} {Q:Exit->Act->World->Prop} {w:World} {s x:Operand} {t:TypeId} {es ys:List (List AV)} {c2:Cap} {sz:Nat} (hg:o.guard=none) (ho:o.op=.call { callee:=.builtin .append,args:=#[s,x],argTypes:=#[t,t] })
  (hA:Gx A w) (hx:VR (Cq A w) (.frz es .tight) (a.eval s)) (hy:VR (Cq A w) (.frz ys c2) (a.eval x)) (hT:apT prog t=some sz) (h1:Bl sz es=true) (h2:Bl sz ys=true) (h3:es.length+ys.length<=1048576)
  (h:∀ v' w',Below w.heap.size w w'->VR (Cq A w') (.frz (es++ys) .unk) v'->wpListIn Fence.wide n prog ops Q rest (a.put o.dst v') w'):wpListIn Fence.wide n prog ops Q (o :: rest) a w:=by
 obtain ⟨v,w',h4,h5,h6⟩:=Acs (ty:=o.type) hA hx hy hT h1 h2 h3
 refine wpListIn_plain hg fun K hK=>⟨fun _ _=>trivial,?_⟩
 have e:(o.semAt Fence.wide.round a.eval).run prog w=.ok (.value v) w':=Abp ho h4
 rw [e]
 exact hK _ _ (h v w' h5 h6)
def Kv (A:Nat->Nat->Prop) (a:AV):Iv.Know:=⟨fun w v=>VR (Cq A w) a v,fun _ _ _ h hv=>hv.below0 h⟩
theorem Aln {w:World} {pt:Pt} {a:Option Addr} {cap:Nat} (h:VR (Cq A w) (Aa pt) (.slice a pt.length cap)):VR (Cq A w) (.frz (pt.map A1) .tight) (.slice a pt.length pt.length):=by
 simp only [Aa,VR] at h ⊢
 obtain ⟨a',len,cap',h0,h1,h2,-,h4⟩:=h
 cases h0
 exact ⟨_,_,_,rfl,h1,Nat.le_refl _,rfl,h4⟩
theorem An8 {w:World} {s:ByteArray} {n:Int} {t:TypeId} (hA:Gx A w):VR (Cq A (w.alloc (.cells #[.string s,.int .i64 n] t))) (.frz [A1 (s,n)] .tight) (.slice (some ⟨w.heap.size,0,none⟩) 1 1):=by
 have h:(w.alloc (.cells #[.string s,.int .i64 n] t)).heap[w.heap.size]?=some (.cells #[.string s,.int .i64 n] t (0,0)):=Ag w _
 simp only [VR]
 refine ⟨_,_,_,rfl,rfl,Nat.le_refl _,rfl,.inr ⟨w.heap.size,0,2,rfl,?_⟩⟩
 exact Lm [(s,n)] 0 fun j u hj=>⟨by
  show (w.alloc (.cells #[.string s,.int .i64 n] t)).cell? _=some u
  match j,hj with
  | 0,hj=>simp only [K3,List.getElem?_cons_zero,Option.some.injEq] at hj; subst hj; unfold World.cell?; dsimp only; rw [h]; rfl
  | 1,hj=>simp only [K3,List.getElem?_cons_succ,List.getElem?_cons_zero,Option.some.injEq] at hj; subst hj; unfold World.cell?; dsimp only; rw [h]; rfl
  | j+2,hj=>simp [K3] at hj,fun h=>by have:=hA _ _ h; omega⟩
end
end Go.Proofs.YtcandeobhlfkbaaGreat
