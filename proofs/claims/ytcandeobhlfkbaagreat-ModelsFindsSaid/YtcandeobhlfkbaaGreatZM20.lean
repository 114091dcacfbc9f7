/- Part 20. -/
import Derived.Test.YtcandeobhlfkbaaGreatZM19
namespace Go.Proofs.YtcandeobhlfkbaaGreat
section
open Go Tryz
theorem X8 {s:Int} {cs:List (ByteArray × Int)} : ∀ {a b:List ByteArray},Gf s cs (a++b)=Gf s cs a++Gf s cs b
 | [],_=>rfl
 | v :: a,b=>by simp only [List.cons_append,Gf,X8]
theorem Ad6 {s:Int} {cs:List (ByteArray × Int)} {vs:List ByteArray} {j:Nat} {v:ByteArray} (h:nth vs j=some v):Gf s cs (vs.take (j+1))=Gf s cs (vs.take j)++[iQ (s*Eg cs v),iQ (-s*Eg cs v)]:=by
 rw [Ac] at h
 rw [List.take_add_one,h,X8]; rfl
theorem Qx {s:Int} {cs:List (ByteArray × Int)} : ∀ {vs:List ByteArray},(Gf s cs vs).length=2*vs.length
 | []=>rfl
 | v :: vs=>by simp only [Gf,List.length_cons,Qx]; omega
theorem U5 {cs:List (ByteArray × Int)} {v:ByteArray} (h:∀ c ∈ cs,inB c.2=true) : -1000000000000<=Eg cs v/\Eg cs v<=1000000000000:=by
 induction cs with
 | nil=>simp [Eg]
 | cons c cs ih =>
  unfold Eg
  split
  ·have:=h c (by simp); simpa [inB] using this
  ·exact ih fun c hc=>h c (by simp [hc])
def OwnL (SS:List Ent) (id e:Nat) (l:List Q):Prop:=if l=[] then SS.length=id else SS.length=id+1/\entAt SS id e=some (flat ceW l)
def En (S:List Ent) (id n:Nat) (l:List Q) (cs:List AV):List Ent:=if l=[] then S++[⟨n,cs⟩] else put S id ⟨n,cs⟩
section
variable {P:Program} {t:TypeId} {S:List Ent} {id e n:Nat} {l zs:List Q} {cs:List AV} {c:Cap}
theorem Abt:flat ceW (l++zs)=flat ceW l++flat ceW zs:=by unfold flat; simp
theorem Zc (h:apT P t=some 4) (hz:zs≠[]) (hO:OwnL S id e l) (hb:l.length+zs.length<=1048576):apO P t (ohd id e l.length) (.frz (zs.map ceW) c) S n=some (ohd id n (l.length+zs.length),En S id n l (flat ceW (l++zs)),n+1):=by
 have hr:Bl 4 (zs.map ceW)=true:=Du (f:=ceW) Aq zs
 have hl:((zs.map ceW).all fun e=>e.all leafOk)=true:=by simp [List.all_eq_true,A3]
 have h0:0<zs.length:=List.length_pos_iff.2 hz
 unfold OwnL at hO
 unfold En
 by_cases hn:l=[]
 ·rw [if_pos hn] at hO
  rw [if_pos hn]
  subst hn hO
  have:=ap4n (S:=S) (n:=n) (c:=c) h hr hl (by simpa using h0) (by simpa using hb)
  rw [List.length_map] at this
  simp only [List.length_nil,Nat.zero_add,List.nil_append]
  rw [show ohd S.length n zs.length=.sref S.length n 0 zs.length 4 from Hh (by omega)]
  exact this
 ·rw [if_neg hn] at hO
  rw [if_neg hn]
  have c8:0<l.length:=List.length_pos_iff.2 hn
  have:=ap4m (S:=S) (n:=n) (c:=c) h hr hl (by simpa using h0) hO.2 (Ql Aq) c8 (by simpa using hb)
  rw [List.length_map] at this
  rw [Hh (by omega),Hh (by omega),Abt]
  exact this
theorem OwnL.put (hO:OwnL S id e l) (hz:zs≠[]):OwnL (En S id n l (flat ceW (l++zs))) id n (l++zs):=by
 unfold OwnL En at *
 rw [if_neg (show l++zs≠[] by simp [hz])]
 by_cases hn:l=[]
 ·rw [if_pos hn] at hO ⊢
  subst hO
  exact ⟨by simp,Dr⟩
 ·rw [if_neg hn] at hO ⊢
  exact ⟨by rw [Au]; exact hO.1,Am (by omega)⟩
theorem OwnL.le (hO:OwnL S id e l):id<=S.length:=by unfold OwnL at hO; split at hO <;> omega
theorem OwnL.old (hO:OwnL S id e l) {j:Nat} (hj:j<id):nth (En S id n l cs) j=nth S j:=by
 have:=hO.le
 unfold En; split
 ·exact Eu (by omega)
 ·exact Ah (by omega)
theorem Aef:(En S id n l cs).length=S.length+(if l=[] then 1 else 0):=by
 unfold En; split
 ·simp
 ·simp [Au]
end
def Zv (S:List Ent) (tk:List Nat) (it et:Nat) (a b c:AV) (vars:List ByteArray) (m:Nat) (fl:List Bool) (cc:Cap) (i:Nat) (r:RowT) (o:Rs):Prop :=
 ∃ S' k' ep,o=(.sref (S.length+1) ep 0 (Gq vars m i r).length 4,S',Ep tk cc,k')/\S'.length=S.length+2/\(∀ j,j<S.length->j≠it->nth S' j=nth S j)/\entAt S' it et=some [a,b,c,.frz (vars.map strC) .unk,.frz ((fl++[decide (sgI r<0)]).map Hm) (Bp tk cc 1),intA m]/\entAt S' (S.length+1) ep=some (flat ceW (Gq vars m i r))
section
variable (S:List Ent) (tk:List Nat) (k:Nat)
theorem Lx (n:Int) (hn:i64 n):cL prog 56 [.int n] S tk k=some (.agg (ceW (iQ n)),S,tk,k):=Amq S tk k n hn
structure Ao3 (S:List Ent) (tk:List Nat) (it et:Nat) (vars:List ByteArray) (m:Nat) (fl:List Bool) (cc:Cap) (i:Nat) (r:RowT):Prop where
 hit:it<S.length
 hcap:A9 tk cc 1=true
 hfl:fl.length<=1000000
 hi:i<m
 hv:vars.length<=100000
 hm:m<=100000
 hcl:r.1.length<=1048576
 hc:∀ c ∈ r.1,inB c.2=true
 hn:inB r.2.1=true
set_option maxHeartbeats 8000000 in
set_option maxRecDepth 100000 in
theorem X9 (it et:Nat) (a b c:AV) (vars:List ByteArray) (m:Nat) (fl:List Bool) (cc:Cap) (i:Nat) (r:RowT) (C:Ao3 S tk it et vars m fl cc i r) (sg:Int) (r6:sg=sgI r) (E:Ent) (hE:E=⟨et,[a,b,c,.frz (vars.map strC) .unk,.frz (fl.map Hm++[Hm (decide (sg<0))]) (Bp tk cc 1),.prim (.int .i64 (m:Int))]⟩) (T:List AV)
  (hTl:T.length=97) (t0:getT T 0=.ref it et 0) (t1:getT T 1=.int (i:Nat)) (t5:getT T 5=.ref S.length k 0) (t7:getT T 7=.int (-r.2.1)) (t8:getT T 8=.int sg) (t9:getT T 9=.frz [] .nilc) (t34:getT T 34=.frz (vars.map strC) .unk) (t35:getT T 35=.int (vars.length:Nat)) (t36:getT T 36=.int ((0:Nat):Int)) :
  Gd finM (Zv S tk it et a b c vars m fl cc i r) (KA prog Tryz.f54 8 [] ⟨T,put S it E++[(⟨k,[Aa r.1,.int r.2.1,.bool r.2.2]⟩:Ent)],Ep tk cc,k+1⟩):=by
 obtain ⟨hit,hcap,hfl,hi,hv,hm,hcl,hc,hn⟩:=C
 obtain ⟨Φ,hΦ⟩:∃ Φ,Φ=Zv S tk it et a b c vars m fl cc i r:=⟨_,rfl⟩
 rw [<- hΦ]
 have hs1:sg=1\/sg=-1:=by rw [r6]; unfold sgI; split <;> simp
 have kz : -1000000000000<=r.2.1/\r.2.1<=1000000000000:=by simpa [inB] using hn
 have wc:∀ v S tk k,cL prog 76 [.agg [Aa r.1,.int r.2.1],.str v] S tk k=some (.int (Eg r.1 v),S,tk,k):=fun v S tk k=>Ajk S tk k r.1 r.2.1 v hcl
 simp only [Aa] at wc
 have gi:IntKind.i64.wrap (2*(m:Int))=((2*m:Nat):Int):=by rw [Ad (by unfold i64; omega)]; rfl
 have ym:IntKind.i64.wrap ((m:Int)+(i:Int))=((m+i:Nat):Int):=by rw [Ad (by unfold i64; omega)]; rfl
 have hap:apT prog 57=some 4:=by kernel_rfl
 have wd:=fun S tk k=>Lx S tk k 0 (by unfold i64; omega)
 have hi1:=fun S tk k=>Lx S tk k 1 (by unfold i64; omega)
 have is:=fun S tk k=>Lx S tk k sg (by unfold i64; omega)
 have hEt:∀ (L:List Ent),entAt (put S it E++L) it et=some E.cells:=fun L=>by rw [hE]; exact A2 (Am hit)
 refine Ajh rfl (t:=.mk) ?_
 refine Q0 (P:=prog) (fun x st=>st.T.length=97/\(x.2.2.1<=vars.length)/\(OwnL x.1 (S.length+1) x.2.2.2 (Gf sg r.1 (vars.take x.2.2.1)))/\(entAt x.1 S.length k=some [Aa r.1,.int r.2.1,.bool r.2.2])/\(entAt x.1 it et=some E.cells)/\(∀ q,q<S.length->q≠it->nth x.1 q=nth S q)/\getT st.T 0=.ref it et 0/\getT st.T 1=.int (i:Nat)/\getT st.T 5=.ref S.length k 0/\getT st.T 7=.int (-r.2.1)/\getT st.T 8=.int sg/\getT st.T 9=ohd (S.length+1) x.2.2.2 (2*x.2.2.1)/\getT st.T 34=.frz (vars.map strC) .unk/\getT st.T 35=.int (vars.length:Nat)/\getT st.T 36=.int (x.2.2.1:Nat)/\st.S=x.1/\st.tk=Ep tk cc/\st.n=x.2.1) (fun x=>vars.length - x.2.2.1) ((put S it E++[(⟨k,[Aa r.1,.int r.2.1,.bool r.2.2]⟩:Ent)]),(k+1),0,0) ?_ ?_
 case refine_2=>exact ⟨(by first|rfl|assumption),Nat.zero_le _,by simp [OwnL,Gf,Au],Ko (Au),hEt _,(fun q h1 h2=>by rw [Eu (by rw [Au]; exact h1),Ah (Ne.symm h2)]),(by first|rfl|assumption),(by first|rfl|assumption),(by first|rfl|assumption),(by first|rfl|assumption),(by first|rfl|assumption),(by first|rfl|assumption),(by first|rfl|assumption),(by first|rfl|assumption),(by first|rfl|assumption),(by first|rfl|assumption),(by first|rfl|assumption),(by first|rfl|assumption)⟩
 rintro ⟨SS,n1,j,e⟩ ⟨T,S',tk',n'⟩ ⟨hl,hj,hO,hB,oe,fb,e0,e1,e5,e7,e8,e9,e34,e35,e36,eS,eT,eN⟩ IH
 simp only at hj hO hB oe fb e0 e1 e5 e7 e8 e9 e34 e35 e36 eS eT eN
 subst eS eT eN
 obtain ⟨g,hg,hT⟩:=Ap hl
 rw [hg] at e0 e1 e5 e7 e8 e9 e34 e35 e36
 subst hT
 clear hg hl
 have rm:(Gf sg r.1 (vars.take j)).length=2*j:=by rw [Qx]; simp; omega
 by_cases xr:j<vars.length
 ·have c1:decide ((j:Int)<(vars.length:Int))=true:=by simpa using xr
  have hw:IntKind.i64.wrap ((j:Int)+1)=((j+1:Nat):Int):=by rw [Ad (by unfold i64; omega)]; rfl
  obtain ⟨v,hv1⟩:=Ab xr
  have hv2:nth (vars.map strC) j=some (strC v):=by rw [Bt,hv1]; rfl
  simp only [strC] at hv2
  have hcb:=U5 (v:=v) hc
  obtain ⟨x,hx⟩:∃ x,x=sg*Eg r.1 v:=⟨_,rfl⟩
  obtain ⟨y,hy⟩:∃ y,y=-sg*Eg r.1 v:=⟨_,rfl⟩
  have xk:IntKind.i64.wrap (sg*Eg r.1 v)=x:=by rw [hx]; exact Ad (by unfold i64; rcases hs1 with h|h <;> rw [h] <;> omega)
  have hm2:IntKind.i64.wrap (-sg*Eg r.1 v)=y:=by rw [hy]; exact Ad (by unfold i64; rcases hs1 with h|h <;> rw [h] <;> omega)
  have hng:IntKind.i64.wrap (0 - sg)=-sg:=by rw [Ad (by unfold i64; omega)]; omega
  have ix:=fun S tk k=>Lx S tk k x (by unfold i64; rw [hx]; rcases hs1 with h|h <;> rw [h] <;> omega)
  have iy:=fun S tk k=>Lx S tk k y (by unfold i64; rw [hy]; rcases hs1 with h|h <;> rw [h] <;> omega)
  have lx:=Ad6 (s:=sg) (cs:=r.1) hv1
  rw [<- hx,<- hy] at lx
  have dx:∀ c n,apO prog 57 (ohd (S.length+1) e (2*j)) (.frz [ceW (iQ x),ceW (iQ y)] c) S' n=some (ohd (S.length+1) n (2*(j+1)),En S' (S.length+1) n (Gf sg r.1 (vars.take j)) (flat ceW (Gf sg r.1 (vars.take (j+1)))),n+1):=fun c n=>by
   have:=Zc (n:=n) (c:=c) (zs:=[iQ x,iQ y]) hap (by simp) hO (by rw [rm]; simp; omega)
   rw [rm,<- lx] at this
   exact this
  simp (maxSteps:=10^6)+contextual(disch:=try exact dqd)only[evg1,simprocAttr,AV.int,AV.bool,AV.str,results54,e0,e1,e5,e7,e8,e9,e34,e35,e36,c1,hw,hv2,xr,hB,wc,xk,hm2,hng,ix,iy,dx,Aa,Aq,A3,Dx,Dw,tkW,puW]
  exact IH (En S' (S.length+1) n' (Gf sg r.1 (vars.take j)) (flat ceW (Gf sg r.1 (vars.take (j+1)))),n'+1,j+1,n') _ (by first|omega|(simp only; omega)) ⟨rfl,by first|omega|(dsimp only; omega),by rw [lx]; exact hO.put (by simp),by rw [Ae (hO.old (by first|omega|(dsimp only; omega)))]; exact hB,by rw [Ae (hO.old (by first|omega|(dsimp only; omega)))]; exact oe,fun q h1 h2=>by rw [hO.old (by first|omega|(dsimp only; omega))]; exact fb q h1 h2,by and_intros <;> first|rfl|simp only [getT,List.map_append]⟩
 ·have c1:decide ((j:Int)<(vars.length:Int))=false:=by simpa using xr
  have fu:j=vars.length:=by omega
  subst fu
  rw [List.take_length] at hO rm
  obtain ⟨L1,hL1⟩:∃ L1,L1=Gf sg r.1 vars:=⟨_,rfl⟩
  rw [<- hL1] at hO rm
  have r7:=oe
  rw [hE] at r7
  simp only at r7
  simp (maxSteps:=10^6)+contextual(disch:=try exact dqd)only[evg1,simprocAttr,AV.int,AV.bool,AV.str,results54,e0,e1,e5,e7,e8,e9,e34,e35,e36,c1,r7,gi]
  obtain ⟨F,hF⟩:∃ F:Nat->Q,F=fun q=>iQ (Vh m i r q):=⟨_,rfl⟩
  refine Q0 (P:=prog) (fun x st=>st.T.length=97/\(x.2.2.1<=2*m)/\(OwnL x.1 (S.length+1) x.2.2.2 (L1++(List.range x.2.2.1).map F))/\(entAt x.1 S.length k=some [Aa r.1,.int r.2.1,.bool r.2.2])/\(entAt x.1 it et=some E.cells)/\(∀ q,q<S.length->q≠it->nth x.1 q=nth S q)/\getT st.T 0=.ref it et 0/\getT st.T 1=.int (i:Nat)/\getT st.T 5=.ref S.length k 0/\getT st.T 7=.int (-r.2.1)/\getT st.T 8=.int sg/\getT st.T 9=ohd (S.length+1) x.2.2.2 (2*vars.length+x.2.2.1)/\getT st.T 63=.int ((2*m:Nat):Int)/\getT st.T 64=.int (x.2.2.1:Nat)/\st.S=x.1/\st.tk=Ep tk cc/\st.n=x.2.1) (fun x=>2*m - x.2.2.1) (S',n',0,e) ?_ ?_
  case refine_2=>exact ⟨rfl,Nat.zero_le _,by simpa using hO,hB,oe,fb,rfl,rfl,rfl,rfl,rfl,rfl,rfl,rfl,rfl,rfl,rfl⟩
  rintro ⟨SS,n1,j,e⟩ ⟨T,S',tk',n'⟩ ⟨hl,hj,hO,hB,oe,fb,e0,e1,e5,e7,e8,e9,e63,e64,eS,eT,eN⟩ IH
  simp only at hj hO hB oe fb e0 e1 e5 e7 e8 e9 e63 e64 eS eT eN
  subst eS eT eN
  obtain ⟨g,hg,hT⟩:=Ap hl
  rw [hg] at e0 e1 e5 e7 e8 e9 e63 e64
  subst hT
  clear hg hl
  have og:(L1++(List.range j).map F).length=2*vars.length+j:=by simp [rm]
  have r8:=oe
  rw [hE] at r8
  simp only at r8
  by_cases hjm:j<2*m
  ·have c2:decide ((j:Int)<((2*m:Nat):Int))=true:=by simp; omega
   have hw:IntKind.i64.wrap ((j:Int)+1)=((j+1:Nat):Int):=by rw [Ad (by unfold i64; omega)]; rfl
   have lx:(List.range (j+1)).map F=(List.range j).map F++[F j]:=by rw [List.range_succ]; simp
   have dx:∀ c n,apO prog 57 (ohd (S.length+1) e (2*vars.length+j)) (.frz [ceW (F j)] c) S' n=some (ohd (S.length+1) n (2*vars.length+(j+1)),En S' (S.length+1) n (L1++(List.range j).map F) (flat ceW (L1++(List.range (j+1)).map F)),n+1):=fun c n=>by
    have:=Zc (n:=n) (c:=c) (zs:=[F j]) hap (by simp) hO (by rw [og]; simp; omega)
    rw [og,List.append_assoc,<- lx] at this
    exact this
   have hO2:OwnL (En S' (S.length+1) n' (L1++(List.range j).map F) (flat ceW (L1++(List.range (j+1)).map F))) (S.length+1) n' (L1++(List.range (j+1)).map F):=by
    rw [lx,<- List.append_assoc]; exact hO.put (by simp)
   have hFj:F j=iQ (Vh m i r j):=by rw [hF]
   have hL:Vh m i r j=bif ((j:Int) == ((m+i:Nat):Int)) then 1 else bif ((j:Int) == (i:Int)) && !r.2.2 then sg else 0:=by
    rw [r6]; unfold Vh
    by_cases h1:j=m+i
    ·rw [if_pos h1,show ((j:Int) == ((m+i:Nat):Int))=true by simp; omega]; rfl
    ·rw [if_neg h1,show ((j:Int) == ((m+i:Nat):Int))=false by simp; omega]
     by_cases h2:j=i
     ·subst h2; cases r.2.2 <;> simp
     ·rw [show ((j:Int) == (i:Int))=false by simp; omega]
      simp [h2]
   cases q1:((j:Int) == (i:Int)) <;> cases q2:r.2.2 <;> cases q3:((j:Int) == ((m+i:Nat):Int))
   all_goals
    rw [q1,q2,q3] at hL
    simp only [cond_true,cond_false,Bool.not_true,Bool.not_false,Bool.and_true,Bool.and_false,Bool.true_and,Bool.false_and] at hL
    rw [hFj,hL] at dx
    simp (maxSteps:=10^6)+contextual(disch:=try exact dqd)only[evg1,simprocAttr,AV.int,AV.bool,AV.str,results54,e0,e1,e5,e7,e8,e9,e63,e64,c2,hw,q1,q2,q3,hB,r8,ym,wd,hi1,is,dx,Aa,Aq,A3,Dx,Dw,tkW,puW]
    exact IH (En S' (S.length+1) n' (L1++(List.range j).map F) (flat ceW (L1++(List.range (j+1)).map F)),n'+1,j+1,n') _ (by first|omega|(simp only; omega)) ⟨rfl,by first|omega|(dsimp only; omega),hO2,by rw [Ae (hO.old (by first|omega|(dsimp only; omega)))]; exact hB,by rw [Ae (hO.old (by first|omega|(dsimp only; omega)))]; exact oe,fun q h1 h2=>by rw [hO.old (by first|omega|(dsimp only; omega))]; exact fb q h1 h2,by and_intros <;> first|rfl|simp only [getT,List.map_append]⟩
  ·have c2:decide ((j:Int)<((2*m:Nat):Int))=false:=by simp; omega
   have fu:j=2*m:=by omega
   subst fu
   obtain ⟨z,hz⟩:∃ z,z=sg*-r.2.1:=⟨_,rfl⟩
   have hmz:IntKind.i64.wrap (sg*-r.2.1)=z:=by rw [hz]; exact Ad (by unfold i64; rcases hs1 with h|h <;> rw [h] <;> omega)
   have iz:=fun S tk k=>Lx S tk k z (by unfold i64; rw [hz]; rcases hs1 with h|h <;> rw [h] <;> omega)
   have dx:∀ c n,apO prog 57 (ohd (S.length+1) e (2*vars.length+2*m)) (.frz [ceW (iQ z)] c) S' n=some (ohd (S.length+1) n (2*vars.length+2*m+1),En S' (S.length+1) n (L1++(List.range (2*m)).map F) (flat ceW (L1++(List.range (2*m)).map F++[iQ z])),n+1):=fun c n=>by
    have:=Zc (n:=n) (c:=c) (zs:=[iQ z]) hap (by simp) hO (by rw [og]; simp; omega)
    rw [og] at this
    exact this
   have hO2:=hO.put (n:=n') (zs:=[iQ z]) (by simp)
   have hLR:Gq vars m i r=L1++(List.range (2*m)).map F++[iQ z]:=by unfold Gq; rw [hL1,hF,hz,r6]
   simp (maxSteps:=10^6)+contextual(disch:=try exact dqd)only[evg1,simprocAttr,AV.int,AV.bool,AV.str,results54,e0,e1,e5,e7,e8,e9,e63,e64,c2,hmz,iz,dx,Aq,A3,Dx,Dw,tkW,puW]
   have hlen:(Gq vars m i r).length=2*vars.length+2*m+1:=by rw [hLR]; simp [rm]; omega
   have r9:=hO2
   unfold OwnL at r9
   rw [if_neg (by simp)] at r9
   rw [Hh (by omega)]
   rw [hΦ]
   refine ⟨_,_,n',by rw [hlen],r9.1,fun q h1 h2=>by rw [hO.old (by omega)]; exact fb q h1 h2,?_,by rw [hLR]; exact r9.2⟩
   rw [Ae (hO.old (by omega)),oe,hE,r6]
   simp only [List.map_append,List.map_cons,List.map_nil,intA]
set_option maxHeartbeats 8000000 in
set_option maxRecDepth 100000 in
theorem Ajm (it et:Nat) (a b c:AV) (vars:List ByteArray) (m:Nat) (fl:List Bool) (cc:Cap) (i:Nat) (r:RowT) (C:Ao3 S tk it et vars m fl cc i r) (hT:entAt S it et=some [a,b,c,.frz (vars.map strC) .unk,.frz (fl.map Hm) cc,intA m]) :
  ∃ o,cL prog 54 [.ref it et 0,.int i,.agg (rowC r)] S tk k=some o/\Zv S tk it et a b c vars m fl cc i r o:=by
 have hit:=C.hit
 have hfl:=C.hfl
 simp only [intA] at hT
 have kz : -1000000000000<=r.2.1/\r.2.1<=1000000000000:=by simpa [inB] using C.hn
 have xf:IntKind.i64.wrap (0 - r.2.1)=-r.2.1:=by rw [Ad (by unfold i64; omega)]; omega
 have hA:=fun v=>apB_one (tk:=tk) (c:=cc) (es:=fl.map Hm) (y:=[v]) C.hcap (Du (f:=Hm) (fun _=>rfl) fl) rfl (by rw [List.length_map]; omega)
 have th:∀ cs L,entAt (put S it ⟨et,cs⟩++L) it et=some cs:=fun cs L=>A2 (Am hit)
 have we:∀ v (e:Ent),put (S++[e]) it v=put S it v++[e]:=fun v e=>Z6 hit
 refine opM func54 ntmps54 ?_
 cases d0:decide (-r.2.1<0)
 ·have ri:(1:Int)=sgI r:=by unfold sgI; rw [if_neg (of_decide_eq_false d0)]
  simp (maxSteps:=10^6)+contextual(disch:=try exact dqd)only[evg1,simprocAttr,AV.int,AV.bool,AV.str,results54,rowC,xf,d0,hT,hA,we,th,List.length_map,Aa]
  exact Ahz rfl (X9 S tk k it et a b c vars m fl cc i r C 1 ri _ rfl _ rfl rfl rfl rfl rfl rfl rfl rfl rfl rfl)
 ·have ri:(-1:Int)=sgI r:=by unfold sgI; rw [if_pos (of_decide_eq_true d0)]
  simp (maxSteps:=10^6)+contextual(disch:=try exact dqd)only[evg1,simprocAttr,AV.int,AV.bool,AV.str,results54,rowC,xf,d0,hT,hA,we,th,List.length_map,Aa]
  exact Ahz rfl (X9 S tk k it et a b c vars m fl cc i r C (-1) ri _ rfl _ rfl rfl rfl rfl rfl rfl rfl rfl rfl rfl)
end
end
section
open Go
def shd (id e:Nat):Nat->AV
 | 0=>.frz [] .nilc
 | k+1=>.sref id e 0 (k+1) 1
def Hf (S:List Ent) (id n:Nat) (ls:List AV) (x:AV):List Ent:=if ls=[] then S++[⟨n,[x]⟩] else put S id ⟨n,ls++[x]⟩
section
variable {P:Program} {t:TypeId} {S:List Ent} {id e n j:Nat} {ls:List AV} {x y:AV}
theorem Afv (h:apT P t=some 1) (hy:litC 1 y=some (1,[x])) (h0:ls=[]->S.length=id) (h1:ls≠[]->entAt S id e=some ls) (hb:ls.length+1<=1048576):apO P t (shd id e ls.length) y S n=some (.sref id n 0 (ls.length+1) 1,Hf S id n ls x,n+1):=by
 unfold apO Hf
 rw [h]; simp only [hy]
 rw [if_pos ⟨by omega,by simp [roomy]⟩]
 by_cases hn:ls=[]
 ·rw [if_pos hn]
  subst hn
  rw [<- h0 rfl]; rfl
 ·rw [if_neg hn]
  have hl:0<ls.length:=List.length_pos_iff.2 hn
  have:shd id e ls.length=.sref id e 0 ls.length 1:=by
   generalize ls.length=q at hl
   cases q with
   | zero=>omega
   | succ q=>rfl
  rw [this]
  simp only [apO2,h1 hn]
  rw [if_pos ⟨trivial,hl⟩,if_pos ⟨by omega,by simpa [roomy] using hb⟩]
theorem Tp (h0:ls=[]->S.length=id) (h1:ls≠[]->id<S.length):entAt (Hf S id n ls x) id n=some (ls++[x]):=by
 unfold Hf
 by_cases hn:ls=[]
 ·rw [if_pos hn,<- h0 hn,hn]; exact Dr
 ·rw [if_neg hn]; exact Am (h1 hn)
theorem P5:(Hf S id n ls x).length=S.length+(if ls=[] then 1 else 0):=by
 unfold Hf; split <;> simp [Au]
theorem P6 (hj:j≠id) (hl:j<S.length):nth (Hf S id n ls x) j=nth S j:=by
 unfold Hf; split
 ·exact Eu hl
 ·exact Ah (Ne.symm hj)
end
structure PTab (S:List Ent) (I:TI) (R:List (List Q)) (B:List Nat) (F:List Bool) (vars:List ByteArray) (m W:Nat) (cc:Cap) (x:AV):Prop where
 top:entAt S I.it I.et=some [shd I.ir I.er R.length,shd I.ib I.eb B.length,x,.frz (vars.map strC) .unk,.frz (F.map Hm) cc,.prim (.int .i64 (m:Int))]
 nids:I.ids.length=R.length
 nb:B.length=R.length
 rowsE:R≠[]->entAt S I.ir I.er=some (I.ids.map (cd W 4))
 basisE:R≠[]->entAt S I.ib I.eb=some (B.map intA)
 rowE:∀ i p r,nth I.ids i=some p->nth R i=some r->entAt S p.1 p.2=some (flat ceW r)
 rowW:∀ r ∈ R,r.length=W
 okr:∀ r ∈ R,okL wF r
 tr:I.it≠I.ir
 tb:I.it≠I.ib
 rb:I.ir≠I.ib
 row:∀ p ∈ I.ids,p.1≠I.it/\p.1≠I.ir/\p.1≠I.ib
 lt:I.it<S.length/\∀ p ∈ I.ids,p.1<S.length
 rows:∀ i j p q,nth I.ids i=some p->nth I.ids j=some q->i≠j->p.1≠q.1
theorem Q5 {α:Type} {l:List α} {x y:α} {i:Nat} (h:nth (l++[x]) i=some y):nth l i=some y\/i=l.length/\y=x:=by
 rw [Ac] at h ⊢
 by_cases hi:i<l.length
 ·rw [List.getElem?_append_left hi] at h; exact .inl h
 ·have:=(List.getElem?_eq_some_iff.1 h).1
  simp at this
  have e:i=l.length:=by omega
  rw [e,List.getElem?_append_right (Nat.le_refl _),Nat.sub_self] at h
  simp at h; exact .inr ⟨e,h.symm⟩
theorem PTab.add {S S':List Ent} {I:TI} {R:List (List Q)} {B:List Nat} {F:List Bool} {vars:List ByteArray} {m W:Nat} {cc cc':Cap} {x:AV} (h:PTab S I R B F vars m W cc x) {er eb id ep b:Nat} {f:Bool} {row:List Q}
  (ht:entAt S' I.it I.et=some [.sref I.ir er 0 (R.length+1) 1,.sref I.ib eb 0 (R.length+1) 1,x,.frz (vars.map strC) .unk,.frz ((F++[f]).map Hm) cc',.prim (.int .i64 (m:Int))])
  (hr:entAt S' I.ir er=some ((I.ids++[(id,ep)]).map (cd W 4))) (hb:entAt S' I.ib eb=some ((B++[b]).map intA)) (bf:entAt S' id ep=some (flat ceW row)) (hW:row.length=W) (ho:okL wF row) (ci:∀ p ∈ I.ids,nth S' p.1=nth S p.1) (hlen:S.length<=S'.length)
  (hid:id≠I.it/\id≠I.ir/\id≠I.ib) (oh:S.length<=id) (ba:id<S'.length) :
  PTab S' { I with er:=er,eb:=eb,ids:=I.ids++[(id,ep)] } (R++[row]) (B++[b]) (F++[f]) vars m W cc' x:=by
 have hl1:=h.lt
 refine ⟨?_,by simp [h.nids],by simp [h.nb],fun _=>hr,fun _=>hb,fun i p r hp hr=>?_,fun r hr=>?_,fun r hr=>?_,h.tr,h.tb,h.rb,fun p hp=>?_,⟨by show I.it<_; omega,fun p hp=>?_⟩,fun i j p q hp hq hij=>?_⟩
 ·simp only [List.length_append,List.length_singleton,h.nb]; exact ht
 ·rcases Q5 hp with hp|⟨e1,rfl⟩
  ·have hi:i<R.length:=by rw [<- h.nids]; have:=Bb hp; exact this
   rcases Q5 hr with hr|⟨e2,-⟩
   ·rw [Ae (ci p (Ak hp))]; exact h.rowE i p r hp hr
   ·omega
  ·rcases Q5 hr with hr|⟨e2,rfl⟩
   ·have:=Bb hr; rw [<- h.nids] at this; omega
   ·exact bf
 ·rcases List.mem_append.1 hr with hr|hr
  ·exact h.rowW r hr
  ·rw [List.mem_singleton.1 hr]; exact hW
 ·rcases List.mem_append.1 hr with hr|hr
  ·exact h.okr r hr
  ·rw [List.mem_singleton.1 hr]; exact ho
 ·rcases List.mem_append.1 hp with hp|hp
  ·exact h.row p hp
  ·rw [List.mem_singleton.1 hp]; exact hid
 ·rcases List.mem_append.1 hp with hp|hp
  ·have:=hl1.2 p hp; omega
  ·rw [List.mem_singleton.1 hp]; exact ba
 ·rcases Q5 hp with hp|⟨e1,rfl⟩ <;> rcases Q5 hq with hq|⟨e2,rfl⟩
  ·exact h.rows i j p q hp hq hij
  ·have:=hl1.2 p (Ak hp); show p.1≠id; omega
  ·have:=hl1.2 q (Ak hq); show id≠q.1; omega
  ·omega
theorem Qz {vars:List ByteArray} {m:Nat} {r:RowT} : ∀ {l:List RowT} {i:Nat},linesR vars m i (l++[r])=linesR vars m i l++[Gq vars m (i+l.length) r]
 | [],i=>rfl
 | a :: l,i=>by simp only [List.cons_append,linesR,Qz,List.length_cons,Nat.add_right_comm,Nat.add_assoc]
theorem Nm {vars:List ByteArray} {m:Nat} : ∀ {l:List RowT} {i:Nat},(linesR vars m i l).length=l.length
 | [],i=>rfl
 | a :: l,i=>by simp only [linesR,List.length_cons,Nm]
def qv (a:Q):Rat:=((a.1:Int):Rat) / ((a.2:Int):Rat)
theorem G5 {d:Int} (h:d≠0):((d:Int):Rat)≠0:=fun e=>h (Rat.intCast_inj.mp (e.trans rfl))
theorem qv_is {a:Q} {n d:Int} (ha:a.2≠0) (hd:d≠0) (h:a.1*d=n*a.2):qv a=((n:Int):Rat) / ((d:Int):Rat):=by
 have h1:=congrArg (fun z:Int=>(z:Rat)) h
 simp only [Rat.intCast_mul] at h1
 have h2:=G5 ha
 have h3:=G5 hd
 unfold qv
 grind
theorem Ap7 {a:Q} (h:0<a.2):qv a<0↔a.1<0:=by
 unfold qv
 rw [Rat.div_lt_iff (Rat.intCast_pos.2 h),Rat.zero_mul,Rat.intCast_neg_iff]
theorem Ap8 {a:Q} (h:0<a.2):0<qv a↔0<a.1:=by
 unfold qv
 rw [Rat.lt_div_iff (Rat.intCast_pos.2 h),Rat.zero_mul,Rat.intCast_pos]
theorem Ain {a:Q} (h:0<a.2):sgn a<0↔qv a<0:=by
 rw [Ap7 h]; unfold sgn; split
 ·omega
 ·split <;> omega
theorem Aai {a:Q} (h:0<a.2):0<sgn a↔0<qv a:=by
 rw [Ap8 h]; unfold sgn; split
 ·omega
 ·split <;> omega
theorem Acw {a:Q} (h:0<a.2):sgn a=0↔qv a=0:=by
 have h1:=Ain h
 have h2:=Aai h
 constructor
 ·intro h0
  have a1:¬ qv a<0:=fun h'=>by have:=h1.2 h'; omega
  have a2:¬ 0<qv a:=fun h'=>by have:=h2.2 h'; omega
  grind
 ·intro h0
  have a1:¬ sgn a<0:=fun h'=>by have:=h1.1 h'; grind
  have a2:¬ 0<sgn a:=fun h'=>by have:=h2.1 h'; grind
  omega
theorem Aej:qv q0=0:=by unfold qv q0; grind
structure Fld.Exact (F:Fld) (G:Q->Prop):Prop where
 pos:∀ a,G a->0<a.2
 zero:G q0
 whole:∀ n,i64 n->(F.whole n).2=false->G (F.whole n).1/\qv (F.whole n).1=((n:Int):Rat)
 minus:∀ a b,G a->G b->(F.minus a b).2=false->G (F.minus a b).1/\qv (F.minus a b).1=qv a - qv b
 times:∀ a b,G a->G b->(F.times a b).2=false->G (F.times a b).1/\qv (F.times a b).1=qv a*qv b
 over:∀ a b,G a->G b->qv b≠0->(F.over a b).2=false->G (F.over a b).1/\qv (F.over a b).1=qv a / qv b
structure Fld.Total (F:Fld) (G:Q->Prop) (fit:Rat->Prop):Prop where
 whole:∀ n,i64 n->(F.whole n).2=false
 minus:∀ a b,G a->G b->fit (qv a - qv b)->(F.minus a b).2=false
 times:∀ a b,G a->G b->fit (qv a*qv b)->(F.times a b).2=false
 over:∀ a b,G a->G b->qv b≠0->fit (qv a / qv b)->(F.over a b).2=false
theorem Wc {n d:Int} (h:(wn n d).2=false):He (wn n d).1.1 (wn n d).1.2/\qv (wn n d).1=((n:Int):Rat) / ((d:Int):Rat):=by
 have hf:Eh n d=true:=by simpa [wn] using h
 have g:=Acn hf
 exact ⟨g,qv_is (a:=(resN n d,resD n d)) (by have:=g.pos; simp only; omega) (Zm hf) (Aii hf)⟩
def Ho (x:Rat):Prop:=∃ n d:Int,d≠0/\x=((n:Int):Rat) / ((d:Int):Rat)/\n.natAbs<10000 ^ 200/\d.natAbs<10000 ^ 200
theorem Amc {z:Int} (h:z.natAbs<10000 ^ 200):okZ z=true:=by
 have:=Bf.2 h
 simp only [okZ,Bool.not_eq_true',decide_eq_false_iff_not]
 omega
theorem We {n d:Int} (hd:d≠0) (h:Ho (((n:Int):Rat) / ((d:Int):Rat))):(wn n d).2=false:=by
 obtain ⟨a,b,hb,he,ha1,hb1⟩:=h
 have e:n*b=a*d:=by
  have h2:=G5 hd
  have h3:=G5 hb
  have h4:((n*b:Int):Rat)=((a*d:Int):Rat):=by
   rw [Rat.intCast_mul,Rat.intCast_mul]
   grind
  exact Rat.intCast_inj.mp h4
 have hf:=(Anz hd hb e).1
 have hg:Eh a b=true:=by
  unfold Eh
  have l1:(lowN a b).natAbs<10000 ^ 200:=by rw [Q2]; exact Nat.lt_of_le_of_lt (Nat.div_le_self _ _) ha1
  have l2:(lowD a b).natAbs<10000 ^ 200:=Nat.lt_of_le_of_lt (Nat.div_le_self _ _) hb1
  rw [Amc l1,Amc l2]
  simp [hb]
 unfold wn
 rw [hf,hg]; rfl
theorem Yr {a b c d:Rat} (hb:b≠0) (hd:d≠0):(a*d - c*b) / (b*d)=a / b - c / d:=by grind
theorem N1 {a b c d:Rat} (hb:b≠0) (hd:d≠0):(a*d+-c*b) / (b*d)=a / b - c / d:=by grind
theorem J7 {a b c d:Rat} (hb:b≠0) (hd:d≠0):(a*c) / (b*d)=a / b*(c / d):=by grind
theorem N2 {a b c d:Rat} (hb:b≠0) (hd:d≠0) (hc:c≠0):(a*d) / (b*c)=a / b / (c / d):=by grind
theorem Yq {b:Q} (h:qv b≠0):b.1≠0:=fun h0=>h (by unfold qv; rw [h0]; show (0:Rat) / _=0; grind)
def gW (a:Q):Prop:=He a.1 a.2
theorem Mx {a:Q} (h:gW a):qz a=a:=by
 have:=h.pos
 unfold qz; rw [if_neg (by omega)]
theorem Vd {n:Int} (h:i64 n):gW (n,1):=by
 have:=Ee.whole n h
 rcases this with h1|h1
 ·exact h1
 ·simp [wF] at h1
theorem M3:wF.Exact gW:=by
 refine ⟨fun a h=>h.pos,Ag8,fun n hn h=>⟨Vd hn,?_⟩,fun a b ha hb h=>?_,fun a b ha hb h=>?_,fun a b ha hb h0 h=>?_⟩
 ·simp only [wF]; unfold qv; simp only; show _ / ((1:Int):Rat)=_; rw [Rat.intCast_one]; grind
 ·have h1:=ha.pos
  have h2:=hb.pos
  simp only [wF,Mx ha,Mx hb] at h ⊢
  have e:=Wc h
  refine ⟨e.1,e.2.trans ?_⟩
  rw [Rat.intCast_add,Rat.intCast_mul,Rat.intCast_mul,Rat.intCast_mul,Rat.intCast_neg]
  exact N1 (G5 (by omega)) (G5 (by omega))
 ·have h1:=ha.pos
  have h2:=hb.pos
  simp only [wF,Mx ha,Mx hb] at h ⊢
  have e:=Wc h
  refine ⟨e.1,e.2.trans ?_⟩
  rw [Rat.intCast_mul,Rat.intCast_mul]
  exact J7 (G5 (by omega)) (G5 (by omega))
 ·have h1:=ha.pos
  have h2:=hb.pos
  have h3:=Yq h0
  simp only [wF,Mx ha,Mx hb] at h ⊢
  have e:=Wc h
  refine ⟨e.1,e.2.trans ?_⟩
  rw [Rat.intCast_mul,Rat.intCast_mul]
  exact N2 (G5 (by omega)) (G5 (by omega)) (G5 h3)
theorem Wa:wF.Total gW Ho:=by
 refine ⟨fun n _=>rfl,fun a b ha hb h=>?_,fun a b ha hb h=>?_,fun a b ha hb h0 h=>?_⟩
 ·have h1:=ha.pos
  have h2:=hb.pos
  simp only [wF,Mx ha,Mx hb]
  refine We (Int.mul_ne_zero (by omega) (by omega)) ?_
  rw [Rat.intCast_add,Rat.intCast_mul,Rat.intCast_mul,Rat.intCast_mul,Rat.intCast_neg,N1 (G5 (by omega)) (G5 (by omega))]
  exact h
 ·have h1:=ha.pos
  have h2:=hb.pos
  simp only [wF,Mx ha,Mx hb]
  refine We (Int.mul_ne_zero (by omega) (by omega)) ?_
  rw [Rat.intCast_mul,Rat.intCast_mul,J7 (G5 (by omega)) (G5 (by omega))]
  exact h
 ·have h1:=ha.pos
  have h2:=hb.pos
  have h3:=Yq h0
  simp only [wF,Mx ha,Mx hb]
  refine We (Int.mul_ne_zero (by omega) h3) ?_
  rw [Rat.intCast_mul,Rat.intCast_mul,N2 (G5 (by omega)) (G5 (by omega)) (G5 h3)]
  exact h
theorem Vf {l:List ByteArray} {s:ByteArray} (h:s ∈ l):nth l (idxV l s)=some s:=by
 obtain ⟨j,h1,h2,h3⟩:=Qh (i:=0) h
 unfold idxV
 rw [h2]
 have:((0+j:Nat):Int).toNat=j:=by omega
 rw [this]; exact h3
def tabV (t:Tb):Simp.Tab:=⟨fun i j=>qv (at_ q0 (Ei t i) j),fun j=>qv (at_ q0 t.cost j),fun i=>at_ 0 t.basis i⟩
structure TOk (G:Q->Prop) (m N:Nat) (t:Tb):Prop where
 rows:t.rows.length=m
 basis:t.basis.length=m
 cost:t.cost.length=N+1
 rowW:∀ r ∈ t.rows,r.length=N+1
 okr:∀ r ∈ t.rows,∀ q ∈ r,G q
 okc:∀ q ∈ t.cost,G q
section
variable {α:Type} {d x:α} {l:List α} {k:Nat}
theorem W5:at_ d [] k=d:=rfl
theorem Afz:at_ d (x :: l) 0=x:=rfl
theorem Am9:at_ d (x :: l) (k+1)=at_ d l k:=rfl
theorem Afw (h:k<l.length):nth l k=some (at_ d l k):=by
 obtain ⟨y,hy⟩:=Ab h
 unfold at_; rw [hy]; rfl
theorem Gh (h:k<l.length):at_ d l k ∈ l:=Ak (Afw h)
theorem Afx (h:l.length<=k):at_ d l k=d:=by
 unfold at_; rw [Ac,List.getElem?_eq_none h]; rfl
theorem Nv (h:k<l.length) {j:Nat} : at_ d (put l k x) j=if j=k then x else at_ d l j:=by
 unfold at_
 by_cases e:j=k
 ·subst e; rw [if_pos rfl,Hr h]; rfl
 ·rw [if_neg e,Ah (Ne.symm e)]
end
section
variable {F:Fld} {G:Q->Prop} {fit:Rat->Prop} {m N:Nat}
structure Ae3 (fit:Rat->Prop) (m N:Nat) (t:Simp.Tab) (r s:Nat):Prop where
 row:∀ j,j<N+1->fit (t.T r j / t.T r s)
 mul:∀ i j,i<m->j<N+1->fit (t.T i s*(t.T r j / t.T r s))
 sub:∀ i j,i<m->j<N+1->i≠r->fit (t.T i j - t.T i s*(t.T r j / t.T r s))
 cmul:∀ j,j<N+1->fit (t.c s*(t.T r j / t.T r s))
 csub:∀ j,j<N+1->fit (t.c j - t.c s*(t.T r j / t.T r s))
theorem Rk {t:Tb} (h:TOk G m N t) {i:Nat} (hi:i<m):Ei t i ∈ t.rows:=Gh (by rw [h.rows]; exact hi)
end
structure N9 (fit:Rat->Prop) (m N c:Nat) (T:Simp.Tab):Prop where
 quo:∀ i,i<m->0<T.T i c->fit (T.T i N / T.T i c)
 sub:∀ i k,i<m->k<m->0<T.T i c->0<T.T k c->fit (T.T i N / T.T i c - T.T k N / T.T k c)
section
variable {F:Fld} {G:Q->Prop} {fit:Rat->Prop} {m N L:Nat}
theorem Agd (hE:F.Exact G) {cost:List Q} (hg:∀ q ∈ cost,G q):∀ {n k:Nat},k+n<=cost.length->match colF cost n k with
  | none=>∀ j,k<=j->j<k+n->0<=qv (at_ q0 cost j)
  | some c=>k<=c/\c<k+n/\qv (at_ q0 cost c)<0/\∀ j,k<=j->j<c->0<=qv (at_ q0 cost j)
 | 0,k,_=>fun j h1 h2=>by omega
 | n+1,k,hn=>by
  have gk:=hg _ (Gh (d:=q0) (k:=k) (l:=cost) (by omega))
  have hs:=Ain (hE.pos _ gk)
  unfold colF
  by_cases c1:sgn (at_ q0 cost k)<0
  ·rw [if_pos c1]
   exact ⟨Nat.le_refl _,by omega,hs.1 c1,fun j h1 h2=>by omega⟩
  ·rw [if_neg c1]
   have hk:0<=qv (at_ q0 cost k):=by
    have:¬ qv (at_ q0 cost k)<0:=fun h'=>c1 (hs.2 h')
    grind
   have ih:=Agd hE hg (n:=n) (k:=k+1) (by omega)
   cases ej:colF cost n (k+1) with
   | none =>
    rw [ej] at ih
    intro j h1 h2
    by_cases e:j=k
    ·subst e; exact hk
    ·exact ih j (by omega) (by omega)
   | some c =>
    rw [ej] at ih
    obtain ⟨i1,i2,i3,i4⟩:=ih
    refine ⟨by omega,by omega,i3,fun j h1 h2=>?_⟩
    by_cases e:j=k
    ·subst e; exact hk
    ·exact i4 j (by omega) h2
end
def Ints (m N M Mc:Nat) (t0:Simp.Tab):Prop:=(∀ i j,i<m->j<N+1->∃ z:Int,t0.T i j=((z:Int):Rat)/\z.natAbs<=M)/\∀ j,j<N+1->∃ z:Int,t0.c j=((z:Int):Rat)/\z.natAbs<=Mc
structure Reach (m N:Nat) (t0 t:Simp.Tab):Prop where
 fit:Simp.Fit m N t
 ker:∀ x,Simp.Ker m N t0 x->Simp.Ker m N t x
 cost:∀ x,Simp.Ker m N t0 x->Simp.dot N t.c x=Simp.dot N t0.c x
def bndX (m M Mc:Nat):Nat:=(2*((m+1)*M)) ^ m+(m+1)*(Mc*(2*((m+1)*M)) ^ m)
section
variable {m N L M Mc X:Nat} {t0 t:Simp.Tab}
theorem Reach.piv (h:Reach m N t0 t) {r s:Nat} (hr:r<m) (hs:s<N) (hp:t.T r s≠0):Reach m N t0 (Simp.piv t r s) :=
 ⟨Simp.piv_fit h.fit hr hs hp,fun x hx=>(Simp.piv_ker hr hp x).2 (h.ker x hx),fun x hx=>by rw [Simp.piv_cost hr (h.ker x hx)]; exact h.cost x hx⟩
theorem Reach.run {K:Nat} (R:Simp.Run m N L K):Reach m N (R.t 0) (R.t K) :=
 ⟨R.fits K (Nat.le_refl _),fun x hx=>(R.ker (Nat.zero_le _) (Nat.le_refl _) x).2 hx,fun x hx=>R.cost (Nat.zero_le _) (Nat.le_refl _) hx⟩
theorem Lp (hM:1<=M) (hI:Ints m N M Mc t0) (h:Reach m N t0 t) {j:Nat} (hj:j<N+1) :
  ∃ y0:Int,y0≠0/\y0.natAbs<=bndX m M Mc/\(∀ i,i<m->∃ y:Int,t.T i j=((y:Int):Rat) / ((y0:Int):Rat)/\y.natAbs<=bndX m M Mc)/\∃ w:Int,t.c j=((w:Int):Rat) / ((y0:Int):Rat)/\w.natAbs<=bndX m M Mc:=by
 obtain ⟨hI1,sa⟩:=hI
 obtain ⟨a,ha⟩:∃ a:Nat->Nat->Int,∀ i j,i<m->j<N+1->t0.T i j=((a i j:Int):Rat)/\(a i j).natAbs<=M :=
  ⟨fun i j=>if h:i<m/\j<N+1 then Classical.choose (hI1 i j h.1 h.2) else 0,fun i j hi hj=>by
   dsimp only; rw [dif_pos ⟨hi,hj⟩]; exact Classical.choose_spec (hI1 i j hi hj)⟩
 obtain ⟨a0,nk⟩:∃ a0:Nat->Int,∀ j,j<N+1->t0.c j=((a0 j:Int):Rat)/\(a0 j).natAbs<=Mc :=
  ⟨fun j=>if h:j<N+1 then Classical.choose (sa j h) else 0,fun j hj=>by
   dsimp only; rw [dif_pos hj]; exact Classical.choose_spec (sa j hj)⟩
 obtain ⟨y0,h1,h2,h3,w,h4,h5⟩:=Simp.small hM ha nk h.fit h.ker h.cost hj
 refine ⟨y0,h1,Nat.le_trans h2 (Nat.le_add_right _ _),fun i hi=>?_,w,h4,Nat.le_trans h5 (Nat.le_add_left _ _)⟩
 obtain ⟨y,e1,e2⟩:=h3 i hi
 exact ⟨y,e1,Nat.le_trans e2 (Nat.le_add_right _ _)⟩
theorem Ahj {a b:Nat} (h:a<=X) (hb:b<=X):a*b<=X*X:=Nat.mul_le_mul h hb
theorem Vc {n d:Int} (hd:d≠0) (h1:n.natAbs<=X) (h2:d.natAbs<=X) (hX:2*(X*X)<10000 ^ 200):Ho (((n:Int):Rat) / ((d:Int):Rat)):=by
 have h3:X<=X*X:=Nat.le_mul_self X
 exact ⟨n,d,hd,rfl,by omega,by omega⟩
theorem Ag0 {n d n' d':Int} (hd:d≠0) (bj:d'≠0) (h1:n.natAbs<=X) (h2:d.natAbs<=X) (h3:n'.natAbs<=X) (h4:d'.natAbs<=X) (hX:2*(X*X)<10000 ^ 200):Ho (((n:Int):Rat) / ((d:Int):Rat)*(((n':Int):Rat) / ((d':Int):Rat))):=by
 have k1:=Ahj h1 h3
 have k2:=Ahj h2 h4
 refine ⟨n*n',d*d',Int.mul_ne_zero hd bj,?_,?_,?_⟩
 ·rw [Rat.intCast_mul,Rat.intCast_mul]; exact (J7 (G5 hd) (G5 bj)).symm
 ·rw [Int.natAbs_mul]; omega
 ·rw [Int.natAbs_mul]; omega
theorem Anx {n d n' d':Int} (hd:d≠0) (bj:d'≠0) (h1:n.natAbs<=X) (h2:d.natAbs<=X) (h3:n'.natAbs<=X) (h4:d'.natAbs<=X) (hX:2*(X*X)<10000 ^ 200):Ho (((n:Int):Rat) / ((d:Int):Rat) - ((n':Int):Rat) / ((d':Int):Rat)):=by
 have k1:=Ahj h1 h4
 have k2:=Ahj h3 h2
 have k3:=Ahj h2 h4
 refine ⟨n*d' - n'*d,d*d',Int.mul_ne_zero hd bj,?_,?_,?_⟩
 ·rw [Rat.intCast_sub,Rat.intCast_mul,Rat.intCast_mul,Rat.intCast_mul]; exact (Yr (G5 hd) (G5 bj)).symm
 ·have:=Int.natAbs_sub_le (n*d') (n'*d)
  rw [Int.natAbs_mul,Int.natAbs_mul] at this
  omega
 ·rw [Int.natAbs_mul]; omega
theorem Vx (hM:1<=M) (hI:Ints m N M Mc t0) (hX:2*(bndX m M Mc*bndX m M Mc)<10000 ^ 200) (h:Reach m N t0 t) {r s:Nat} (hr:r<m) (hs:s<N) (hp:t.T r s≠0):Ae3 Ho m N t r s:=by
 have hq:=h.piv hr hs hp
 have e1:∀ j,(Simp.piv t r s).T r j=t.T r j / t.T r s:=fun j=>if_pos rfl
 have e2:∀ i j,i≠r->(Simp.piv t r s).T i j=t.T i j - t.T i s*(t.T r j / t.T r s):=fun i j hi=>if_neg hi
 have e3:∀ j,(Simp.piv t r s).c j=t.c j - t.c s*(t.T r j / t.T r s):=fun j=>rfl
 obtain ⟨z0,c1,c2,c3,w,c4,c5⟩:=Lp hM hI h (j:=s) (by omega)
 refine ⟨fun j hj=>?_,fun i j hi hj=>?_,fun i j hi hj nj=>?_,fun j hj=>?_,fun j hj=>?_⟩
 all_goals obtain ⟨y0,b1,b2,b3,u,b4,b5⟩:=Lp hM hI hq hj
 ·obtain ⟨y,y1,y2⟩:=b3 r hr
  rw [e1] at y1
  rw [y1]; exact Vc b1 y2 b2 hX
 ·obtain ⟨y,y1,y2⟩:=b3 r hr
  obtain ⟨z,z1,z2⟩:=c3 i hi
  rw [e1] at y1
  rw [y1,z1]; exact Ag0 c1 b1 z2 c2 y2 b2 hX
 ·obtain ⟨y,y1,y2⟩:=b3 i hi
  rw [e2 i j nj] at y1
  rw [y1]; exact Vc b1 y2 b2 hX
 ·obtain ⟨y,y1,y2⟩:=b3 r hr
  rw [e1] at y1
  rw [y1,c4]; exact Ag0 c1 b1 c5 c2 y2 b2 hX
 ·rw [e3] at b4
  rw [b4]; exact Vc b1 b5 b2 hX
theorem Ri (hM:1<=M) (hI:Ints m N M Mc t0) (hX:2*(bndX m M Mc*bndX m M Mc)<10000 ^ 200) (h:Reach m N t0 t) {c:Nat} (hc:c<N):N9 Ho m N c t:=by
 have key:∀ i,i<m->0<t.T i c->∃ y y0:Int,y0≠0/\y.natAbs<=bndX m M Mc/\y0.natAbs<=bndX m M Mc/\t.T i N / t.T i c=((y:Int):Rat) / ((y0:Int):Rat):=fun i hi hp=>by
  have hq:=h.piv hi hc (by grind)
  obtain ⟨y0,b1,b2,b3,-⟩:=Lp hM hI hq (j:=N) (by omega)
  obtain ⟨y,y1,y2⟩:=b3 i hi
  have e1:(Simp.piv t i c).T i N=t.T i N / t.T i c:=if_pos rfl
  exact ⟨y,y0,b1,y2,b2,by rw [<- e1,y1]⟩
 refine ⟨fun i hi hp=>?_,fun i k hi hk hp hq=>?_⟩
 ·obtain ⟨y,y0,a1,a2,a3,a4⟩:=key i hi hp
  rw [a4]; exact Vc a1 a2 a3 hX
 ·obtain ⟨y,y0,a1,a2,a3,a4⟩:=key i hi hp
  obtain ⟨z,z0,b1,b2,b3,b4⟩:=key k hk hq
  rw [a4,b4]; exact Anx a1 b1 a2 a3 b2 b3 hX
end
def Nd (u:Rat) (vars:List ByteArray):List (ByteArray × Int)->(Nat->Rat)->Nat->Rat
 | [],f=>f
 | c :: cs,f=>Nd u vars cs fun j=>if j=2*idxV vars c.1+1 then -(u*((c.2:Int):Rat)) else if j=2*idxV vars c.1 then u*((c.2:Int):Rat) else f j
theorem Kk {u:Rat} {vars:List ByteArray} {k:Nat} : ∀ {cs:List (ByteArray × Int)} {f:Nat->Rat},(∀ c ∈ cs,idxV vars c.1≠k)->Nd u vars cs f (2*k)=f (2*k)/\Nd u vars cs f (2*k+1)=f (2*k+1)
 | [],_,_=>⟨rfl,rfl⟩
 | c :: cs,f,h=>by
  have h1:=h c (List.mem_cons_self ..)
  have ih:=Kk (u:=u) (cs:=cs) (f:=fun j=>if j=2*idxV vars c.1+1 then -(u*((c.2:Int):Rat)) else if j=2*idxV vars c.1 then u*((c.2:Int):Rat) else f j) fun c' hc=>h c' (List.mem_cons_of_mem _ hc)
  rw [Nd,ih.1,ih.2]
  exact ⟨by rw [if_neg (by omega),if_neg (by omega)],by rw [if_neg (by omega),if_neg (by omega)]⟩
theorem Tq {u:Rat} {vars:List ByteArray} {c:ByteArray × Int} : ∀ {cs:List (ByteArray × Int)} {f:Nat->Rat},(cs.map fun c=>idxV vars c.1).Pairwise (·≠·)->c ∈ cs->Nd u vars cs f (2*idxV vars c.1)=u*((c.2:Int):Rat)/\Nd u vars cs f (2*idxV vars c.1+1)=-(u*((c.2:Int):Rat))
 | [],_,_,h=>by cases h
 | c' :: cs,f,hp,h=>by
  rw [List.map_cons,List.pairwise_cons] at hp
  rw [Nd]
  rcases List.mem_cons.1 h with rfl|h
  ·have:=Kk (u:=u) (vars:=vars) (k:=idxV vars c.1) (cs:=cs) (f:=fun j=>if j=2*idxV vars c.1+1 then -(u*((c.2:Int):Rat)) else if j=2*idxV vars c.1 then u*((c.2:Int):Rat) else f j) fun c' hc=>(hp.1 _ (List.mem_map.2 ⟨c',hc,rfl⟩)).symm
   rw [this.1,this.2]
   exact ⟨by rw [if_neg (by omega),if_pos rfl],by rw [if_pos rfl]⟩
  ·exact Tq hp.2 h
def cofI (vars:List ByteArray):List (ByteArray × Int)->Nat->Int
 | [],_=>0
 | c :: cs,k=>if idxV vars c.1=k then c.2 else cofI vars cs k
theorem P8 {vars:List ByteArray} {k:Nat} : ∀ {cs:List (ByteArray × Int)},(∀ c ∈ cs,idxV vars c.1≠k)->cofI vars cs k=0
 | [],_=>rfl
 | c :: cs,h=>by rw [cofI,if_neg (h c (List.mem_cons_self ..))]; exact P8 fun c' hc=>h c' (List.mem_cons_of_mem _ hc)
theorem Xh {vars:List ByteArray} {c:ByteArray × Int} : ∀ {cs:List (ByteArray × Int)},(cs.map fun c=>idxV vars c.1).Pairwise (·≠·)->c ∈ cs->cofI vars cs (idxV vars c.1)=c.2
 | [],_,h=>by cases h
 | c' :: cs,hp,h=>by
  rw [List.map_cons,List.pairwise_cons] at hp
  rcases List.mem_cons.1 h with rfl|h
  ·rw [cofI,if_pos rfl]
  ·rw [cofI,if_neg (hp.1 _ (List.mem_map.2 ⟨c,h,rfl⟩))]
   exact Xh hp.2 h
theorem L5 {u:Rat} {vars:List ByteArray} {cs:List (ByteArray × Int)} (hp:(cs.map fun c=>idxV vars c.1).Pairwise (·≠·)) (k:Nat):Nd u vars cs (fun _=>0) (2*k)=u*((cofI vars cs k:Int):Rat)/\Nd u vars cs (fun _=>0) (2*k+1)=-(u*((cofI vars cs k:Int):Rat)):=by
 by_cases h:∃ c ∈ cs,idxV vars c.1=k
 ·obtain ⟨c,hc,rfl⟩:=h
  rw [Xh hp hc]
  exact Tq hp hc
 ·have h':∀ c ∈ cs,idxV vars c.1≠k:=fun c hc e=>h ⟨c,hc,e⟩
  rw [P8 h',(Kk h').1,(Kk h').2,Rat.intCast_zero]
  exact ⟨by grind,by grind⟩
section
variable {F:Fld} {G:Q->Prop} {fit:Rat->Prop}
theorem Acj {l:List Q} {i j:Nat} {x y q:Q} (hl:∀ q ∈ l,G q) (hx:G x) (hy:G y) (h:q ∈ put (put l i x) j y):G q:=by
 rcases J4 h with rfl|h
 ·exact hy
 ·rcases J4 h with rfl|h
  ·exact hx
  ·exact hl q h
theorem Xf (hE:F.Exact G) {u z:Q} {vars:List ByteArray} (hu:G u) (hz:G z) (hz0:qv z=0):∀ {cs:List (ByteArray × Int)} {row:List Q} {f:Nat->Rat},(∀ c ∈ cs,i64 c.2/\c.1 ∈ vars)->2*vars.length<=row.length->(∀ q ∈ row,G q)->(∀ j,qv (at_ q0 row j)=f j)->(coefsC F u z vars cs row).2=false ->
  (coefsC F u z vars cs row).1.length=row.length/\(∀ q ∈ (coefsC F u z vars cs row).1,G q)/\∀ j,qv (at_ q0 (coefsC F u z vars cs row).1 j)=Nd (qv u) vars cs f j
 | [],row,f,_,_,hg,hf,_=>⟨rfl,hg,hf⟩
 | c :: cs,row,f,hc,hl,hg,hf,hfl=>by
  obtain ⟨hi,hm⟩:=hc c (List.mem_cons_self ..)
  have ka:=(Ab0 hm).2
  simp only [coefsC,setC,Bool.or_eq_false_iff] at hfl
  obtain ⟨⟨⟨f1,f2⟩,f3⟩,f4⟩:=hfl
  have w:=hE.whole c.2 hi f1
  have t:=hE.times u _ hu w.1 f2
  have d:=hE.minus z _ hz t.1 f3
  have ih:=Xf hE hu hz hz0 (cs:=cs) (row:=put (put row (2*idxV vars c.1) (F.times u (F.whole c.2).1).1) (2*idxV vars c.1+1) (F.minus z (F.times u (F.whole c.2).1).1).1)
   (f:=fun j=>if j=2*idxV vars c.1+1 then -(qv u*((c.2:Int):Rat)) else if j=2*idxV vars c.1 then qv u*((c.2:Int):Rat) else f j)
   (fun c' h=>hc c' (List.mem_cons_of_mem _ h)) (by rw [Ai,Ai]; exact hl) (fun q h=>Acj hg t.1 d.1 h) (fun j=>by
    rw [Nv (by rw [Ai]; omega),Nv (by omega)]
    split
    ·rw [d.2,t.2,w.2,hz0]; grind
    ·split
     ·rw [t.2,w.2]
     ·exact hf j) f4
  rw [Ai,Ai] at ih
  exact ih
def sgR (r:RowT):Rat:=if 0<r.2.1 then -1 else 1
def rowR (vars:List ByteArray) (real W i slack:Nat) (r:RowT) (j:Nat):Rat :=
 if j=W - 1 then -(sgR r*((r.2.1:Int):Rat)) else if j=real+i then 1 else if r.2.2=false/\j=slack then sgR r else Nd (sgR r) vars r.1 (fun _=>0) j
theorem Apn {z:Q} (hz:qv z=0) {n j:Nat} : qv (at_ q0 (List.replicate n z) j)=0:=by
 by_cases h:j<n
 ·have:at_ q0 (List.replicate n z) j=z:=by
   unfold at_
   rw [Ac,List.getElem?_replicate,if_pos h]; rfl
  rw [this,hz]
 ·rw [Afx (by rw [List.length_replicate]; omega),Aej]
theorem Alr (hE:F.Exact G) {r:RowT} (hf:(N8 F (Mb r)).2=false):G (N8 F (Mb r)).1/\qv (N8 F (Mb r)).1=sgR r:=by
 unfold N8 Mb sgR at *
 by_cases h:0<r.2.1
 ·simp only [decide_eq_true_eq,h,if_true,Bool.or_eq_false_iff] at hf ⊢
  have:=hE.whole (-1) (by unfold i64; omega) hf.2
  exact ⟨this.1,this.2.trans rfl⟩
 ·simp only [decide_eq_true_eq,h,if_false] at hf ⊢
  have:=hE.whole 1 (by unfold i64; omega) hf
  exact ⟨this.1,this.2.trans rfl⟩
theorem Aoi (hE:F.Exact G) {z:Q} {vars:List ByteArray} (hz:G z) (hz0:qv z=0) {real W i slack:Nat} {r:RowT} (hi:i64 r.2.1) (hc:∀ c ∈ r.1,i64 c.2/\c.1 ∈ vars) (hv:2*vars.length<=real) (dm:real+i<W - 1) (hs:r.2.2=false->slack<W) (hf:(rowF F z vars real W i slack r).2=false) :
  (rowF F z vars real W i slack r).1.length=W/\(∀ q ∈ (rowF F z vars real W i slack r).1,G q)/\∀ j,qv (at_ q0 (rowF F z vars real W i slack r).1 j)=rowR vars real W i slack r j:=by
 simp only [rowF,Apz,Bool.or_eq_false_iff] at hf
 obtain ⟨⟨⟨f1,f2⟩,f3⟩,⟨f4,f5⟩,f6⟩:=hf
 obtain ⟨gu,eu⟩:=Alr hE f1
 obtain ⟨a1,a2,a3⟩:=Xf hE gu hz hz0 (f:=fun _=>0) hc (by rw [List.length_replicate]; omega) (fun q h=>by rw [(List.mem_replicate.1 h).2]; exact hz) (fun j=>Apn hz0) f2
 rw [List.length_replicate] at a1
 have o:=hE.whole 1 (by unfold i64; omega) f3
 have w:=hE.whole _ hi f4
 have t:=hE.times _ _ gu w.1 f5
 have d:=hE.minus z _ hz t.1 f6
 have hsl:(Yu r.2.2 (coefsC F (N8 F (Mb r)).1 z vars r.1 (List.replicate W z)).1 slack (N8 F (Mb r)).1).length=W/\(∀ q ∈ Yu r.2.2 (coefsC F (N8 F (Mb r)).1 z vars r.1 (List.replicate W z)).1 slack (N8 F (Mb r)).1,G q)/\∀ j,qv (at_ q0 (Yu r.2.2 (coefsC F (N8 F (Mb r)).1 z vars r.1 (List.replicate W z)).1 slack (N8 F (Mb r)).1) j)=if r.2.2=false/\j=slack then sgR r else Nd (sgR r) vars r.1 (fun _=>0) j:=by
  unfold Yu
  cases he:r.2.2 with
  | true =>
   rw [if_pos rfl]
   exact ⟨a1,a2,fun j=>by rw [if_neg (by simp),a3,eu]⟩
  | false =>
   rw [if_neg (by simp)]
   refine ⟨by rw [Ai]; exact a1,fun q h=>?_,fun j=>?_⟩
   ·rcases J4 h with rfl|h
    ·exact gu
    ·exact a2 q h
   ·rw [Nv (by rw [a1]; exact hs he)]
    by_cases e:j=slack
    ·rw [if_pos e,if_pos ⟨rfl,e⟩,eu]
    ·rw [if_neg e,if_neg (fun h=>e h.2),a3,eu]
 obtain ⟨b1,b2,b3⟩:=hsl
 refine ⟨?_,fun q h=>Acj b2 o.1 d.1 h,fun j=>?_⟩
 ·show (put (put _ _ _) _ _).length=W
  rw [Ai,Ai]; exact b1
 ·show qv (at_ q0 (put (put _ _ _) _ _) j)=_
  rw [Nv (by rw [Ai,b1]; omega),Nv (by rw [b1]; omega)]
  unfold rowR
  by_cases e1:j=W - 1
  ·rw [if_pos e1,if_pos e1]
   show qv (F.minus z (F.times (N8 F (Mb r)).1 (F.whole r.2.1).1).1).1=_
   rw [d.2,t.2,w.2,eu,hz0]; grind
  ·rw [if_neg e1,if_neg e1]
   by_cases e2:j=real+i
   ·rw [if_pos e2,if_pos e2,o.2]; rfl
   ·rw [if_neg e2,if_neg e2,b3]
theorem Abh (hE:F.Exact G) {real W:Nat} : ∀ {c r:List Q} {k:Nat},c.length=r.length->(∀ q ∈ c,G q)->(∀ q ∈ r,G q)->(costL F real W k c r).2=false->(∀ q ∈ (costL F real W k c r).1,G q)/\∀ j,qv (at_ q0 (costL F real W k c r).1 j)=if k+j<real\/k+j=W - 1 then qv (at_ q0 c j) - qv (at_ q0 r j) else qv (at_ q0 c j)
 | [],[],_,_,_,_,_=>⟨fun q h=>(by cases h),fun j=>by simp only [costL,W5,Aej]; split <;> grind⟩
 | [],_ :: _,_,h,_,_,_=>by simp at h
 | _ :: _,[],_,h,_,_,_=>by simp at h
 | a :: c,b :: r,k,h,hc,hr,hf=>by
  have hx:(Adu F real W k a b).2=false/\(costL F real W (k+1) c r).2=false:=by simpa [costL] using hf
  have ih:=Abh hE (by simpa using h) (fun q h=>hc q (List.mem_cons_of_mem _ h)) (fun q h=>hr q (List.mem_cons_of_mem _ h)) hx.2
  have hs:G (Adu F real W k a b).1/\qv (Adu F real W k a b).1=if k<real\/k=W - 1 then qv a - qv b else qv a:=by
   have h1:=hx.1
   unfold Adu at h1 ⊢
   split
   ·rename_i hk
    rw [if_pos hk] at h1
    exact hE.minus a b (hc a (List.mem_cons_self ..)) (hr b (List.mem_cons_self ..)) h1
   ·exact ⟨hc a (List.mem_cons_self ..),rfl⟩
  refine ⟨fun q h=>?_,fun j=>?_⟩
  ·rcases List.mem_cons.1 h with rfl|h
   ·exact hs.1
   ·exact ih.1 q h
  ·cases j with
   | zero=>exact hs.2
   | succ j =>
    have:=ih.2 j
    rw [show k+1+j=k+(j+1) by omega] at this
    exact this
end
def rowX (vars:List ByteArray) (real W:Nat) (l:List RowT) (i j:Nat):Rat :=
 match nth l i with
 | some r=>rowR vars real W i (2*vars.length+neqs (l.take i)) r j
 | none=>0
theorem Acp {vars:List ByteArray} {real W:Nat} {l:List RowT} {r:RowT} {i j:Nat} (h:i<l.length):rowX vars real W (l++[r]) i j=rowX vars real W l i j:=by
 unfold rowX
 rw [Ac,Ac,List.getElem?_append_left h,List.take_append_of_le_length (by omega)]
theorem Aco {vars:List ByteArray} {real W:Nat} {l:List RowT} {r:RowT} {j:Nat} : rowX vars real W (l++[r]) l.length j=rowR vars real W l.length (2*vars.length+neqs l) r j:=by
 unfold rowX
 rw [Ac,List.getElem?_append_right (Nat.le_refl _),Nat.sub_self,List.take_append_of_le_length (Nat.le_refl _),List.take_length]; rfl
theorem Afy {α:Type} {d x:α} {l:List α} {i:Nat} : at_ d (l++[x]) i=if i=l.length then x else at_ d l i:=by
 unfold at_
 by_cases e:i=l.length
 ·subst e; rw [if_pos rfl,Ac,List.getElem?_append_right (Nat.le_refl _),Nat.sub_self]; rfl
 ·rw [if_neg e]
  by_cases h:i<l.length
  ·rw [Ac,Ac,List.getElem?_append_left h]
  ·rw [Ac,Ac,List.getElem?_eq_none (by simp; omega),List.getElem?_eq_none (by omega)]
structure BInv (G:Q->Prop) (vars:List ByteArray) (real W:Nat) (done:List RowT) (t:Tb):Prop where
 nr:t.rows.length=done.length
 nb:t.basis.length=done.length
 nc:t.cost.length=W
 rowW:∀ r ∈ t.rows,r.length=W
 okr:∀ r ∈ t.rows,∀ q ∈ r,G q
 okc:∀ q ∈ t.cost,G q
 vals:∀ i,i<done.length->∀ j,qv (at_ q0 (Ei t i) j)=rowX vars real W done i j
 costs:∀ j,qv (at_ q0 t.cost j)=if j<real\/j=W - 1 then - Simp.sum done.length (fun i=>rowX vars real W done i j) else 0
 bas:∀ i,i<done.length->at_ 0 t.basis i=real+i
 flips:t.flip=done.map Mb
structure M9 (vars:List ByteArray) (r:RowT):Prop where
 c64:i64 r.2.1
 n64:∀ c ∈ r.1,i64 c.2
 mem:∀ c ∈ r.1,c.1 ∈ vars
 dis:(r.1.map fun c=>idxV vars c.1).Pairwise (·≠·)
section
variable {F:Fld} {G:Q->Prop} {fit:Rat->Prop} {vars:List ByteArray} {real W:Nat} {z:Q}
theorem BInv.step (hE:F.Exact G) (hz:G z) (hz0:qv z=0) {done:List RowT} {t:Tb} (h:BInv G vars real W done t) {r:RowT} (hr:M9 vars r) (hv:2*vars.length<=real) (dm:real+done.length<W - 1) (hs:r.2.2=false->2*vars.length+neqs done<real)
  (ha:(rowF F z vars real W done.length (2*vars.length+neqs done) r).2=false) (qo:(costL F real W 0 t.cost (rowF F z vars real W done.length (2*vars.length+neqs done) r).1).2=false) (fl:Bool) :
  BInv G vars real W (done++[r]) { t with rows:=t.rows++[(rowF F z vars real W done.length (2*vars.length+neqs done) r).1],cost:=(costL F real W 0 t.cost (rowF F z vars real W done.length (2*vars.length+neqs done) r).1).1,basis:=t.basis++[real+done.length],flip:=t.flip++[Mb r],fl:=fl }:=by
 obtain ⟨a1,a2,a3⟩:=Aoi hE hz hz0 hr.c64 (fun c hc=>⟨hr.n64 c hc,hr.mem c hc⟩) hv dm (fun e=>by have:=hs e; omega) ha
 obtain ⟨c1,c2⟩:=Abh hE (by rw [h.nc,a1]) h.okc a2 qo
 refine ⟨by simp [h.nr],by simp [h.nb],by rw [Abi]; exact h.nc,fun q hq=>?_,fun q hq=>?_,c1,fun i hi j=>?_,fun j=>?_,fun i hi=>?_,by simp [h.flips]⟩
 ·rcases List.mem_append.1 hq with hq|hq
  ·exact h.rowW q hq
  ·rw [List.mem_singleton.1 hq]; exact a1
 ·rcases List.mem_append.1 hq with hq|hq
  ·exact h.okr q hq
  ·rw [List.mem_singleton.1 hq]; exact a2
 ·show qv (at_ q0 (at_ [] (t.rows++[_]) i) j)=_
  rw [Afy,h.nr]
  by_cases e:i=done.length
  ·subst e; rw [if_pos rfl,a3,Aco]
  ·rw [if_neg e,Acp (by simp at hi; omega)]
   exact h.vals i (by simp at hi; omega) j
 ·rw [c2,a3,h.costs,Nat.zero_add]
  by_cases e:j<real\/j=W - 1
  ·rw [if_pos e,if_pos e,if_pos e,List.length_append,List.length_singleton,Simp.sum,Aco]
   rw [Simp.sum_congr (g:=fun i=>rowX vars real W done i j) fun i hi=>Acp hi]
   grind
  ·rw [if_neg e,if_neg e,if_neg e]
 ·rw [Afy,h.nb]
  by_cases e:i=done.length
  ·subst e; rw [if_pos rfl]
  ·rw [if_neg e]
   exact h.bas i (by simp at hi; omega)
structure Kg (M:Nat) (r:RowT):Prop where
 one:1<=M
 con:r.2.1.natAbs<=M
 cof:∀ c ∈ r.1,c.2.natAbs<=M
theorem Aiw {M:Nat} {f:Nat->Rat} : ∀ {n:Nat},(∀ i,i<n->∃ w:Int,f i=((w:Int):Rat)/\w.natAbs<=M)->∃ w:Int,Simp.sum n f=((w:Int):Rat)/\w.natAbs<=n*M
 | 0,_=>⟨0,rfl,by simp⟩
 | n+1,h=>by
  obtain ⟨w,e,hw⟩:=Aiw (n:=n) fun i hi=>h i (by omega)
  obtain ⟨u,e2,hu⟩:=h n (by omega)
  exact ⟨w+u,by rw [Simp.sum,e,e2,Rat.intCast_add],by rw [Nat.succ_mul]; omega⟩
end
def linV (v:ByteArray->Rat):List (ByteArray × Int)->Rat
 | []=>0
 | c :: cs=>((c.2:Int):Rat)*v c.1+linV v cs
def valR (v:ByteArray->Rat) (r:RowT):Rat:=linV v r.1+((r.2.1:Int):Rat)
def Sat (v:ByteArray->Rat) (l:List RowT):Prop:=∀ r ∈ l,valR v r<=0/\(r.2.2=true->valR v r=0)
def rwA (l:List RowT) (i:Nat):RowT:=at_ ([],0,true) l i
def sysY (vars:List ByteArray) (l:List RowT):Simp.Sys:=⟨l.length,vars.length,fun i k=>((cofI vars (rwA l i).1 k:Int):Rat),fun i=>(((rwA l i).2.1:Int):Rat),fun i=>(rwA l i).2.2⟩
theorem Aiv {vars:List ByteArray} (v:Nat->Rat):∀ {cs:List (ByteArray × Int)},(∀ c ∈ cs,c.1 ∈ vars)->(cs.map fun c=>idxV vars c.1).Pairwise (·≠·)->(Simp.sum vars.length fun k=>((cofI vars cs k:Int):Rat)*v k)=linV (fun s=>v (idxV vars s)) cs
 | [],_,_=>by
  rw [Simp.sum_zero fun k _=>by show ((0:Int):Rat)*_=0; rw [Rat.intCast_zero]; grind]; rfl
 | c :: cs,hm,hp=>by
  have ka:=(Ab0 (hm c (List.mem_cons_self ..))).2
  rw [List.map_cons,List.pairwise_cons] at hp
  have ih:=Aiv v (fun c' h=>hm c' (List.mem_cons_of_mem _ h)) hp.2
  have hz:cofI vars cs (idxV vars c.1)=0:=P8 fun c' h=>(hp.1 _ (List.mem_map.2 ⟨c',h,rfl⟩)).symm
  have e:∀ k,((cofI vars (c :: cs) k:Int):Rat)*v k=(if k=idxV vars c.1 then ((c.2:Int):Rat)*v k else 0)+((cofI vars cs k:Int):Rat)*v k:=fun k=>by
   rw [cofI]
   by_cases h:idxV vars c.1=k
   ·rw [if_pos h,if_pos h.symm,<- h,hz,Rat.intCast_zero]; grind
   ·rw [if_neg h,if_neg fun h'=>h h'.symm]; grind
  rw [Simp.sum_congr fun k _=>e k,Simp.sum_add,ih,Simp.sum_one ka]; rfl
theorem T0 {v v':ByteArray->Rat} : ∀ {cs:List (ByteArray × Int)},(∀ c ∈ cs,v c.1=v' c.1)->linV v cs=linV v' cs
 | [],_=>rfl
 | c :: cs,h=>by rw [linV,linV,h c (List.mem_cons_self ..),T0 fun c' h'=>h c' (List.mem_cons_of_mem _ h')]
theorem Aes {v v':ByteArray->Rat} {r:RowT} (h:∀ c ∈ r.1,v c.1=v' c.1):valR v r=valR v' r:=by unfold valR; rw [T0 h]
theorem Aix {vars:List ByteArray} {l:List RowT} (hr:∀ r ∈ l,M9 vars r) {i:Nat} (hi:i<l.length) (v:Nat->Rat):(sysY vars l).val v i=valR (fun s=>v (idxV vars s)) (rwA l i):=by
 have h:M9 vars (rwA l i):=hr _ (Gh (d:=([],0,true)) hi)
 unfold Simp.Sys.val valR
 show Simp.sum vars.length _+_=_
 rw [<- Aiv v h.mem h.dis]; rfl
theorem Aok {vars:List ByteArray} {l:List RowT} (hr:∀ r ∈ l,M9 vars r):(∃ v,(sysY vars l).holds v)↔∃ v,Sat v l:=by
 constructor
 ·rintro ⟨v,hv⟩
  refine ⟨fun s=>v (idxV vars s),fun r h=>?_⟩
  obtain ⟨i,hi⟩:=List.getElem?_of_mem h
  have bl:=(List.getElem?_eq_some_iff.1 hi).1
  have hx:=hv i bl
  have e:rwA l i=r:=by unfold rwA at_; rw [Ac,hi]; rfl
  rw [Aix hr bl,e] at hx
  refine ⟨hx.1,fun he=>hx.2 ?_⟩
  show (rwA l i).2.2=true
  rw [e]; exact he
 ·rintro ⟨v,hv⟩
  refine ⟨fun k=>v (at_ ⟨#[]⟩ vars k),fun i hi=>?_⟩
  have hm:rwA l i ∈ l:=Gh hi
  have hx:=hv _ hm
  rw [Aix hr hi]
  have e:valR (fun s=>v (at_ ⟨#[]⟩ vars (idxV vars s))) (rwA l i)=valR v (rwA l i):=Aes fun c hc=>by
   have:=Vf ((hr _ hm).mem c hc)
   unfold at_; rw [this]; rfl
  rw [e]; exact hx
structure Agree (m N:Nat) (t u:Simp.Tab):Prop where
 T:∀ i j,i<m->j<N+1->t.T i j=u.T i j
 c:∀ j,j<N+1->t.c j=u.c j
 B:∀ i,i<m->t.B i=u.B i
section
variable {m N L:Nat} {t u:Simp.Tab}
theorem Agree.dotT (h:Agree m N t u) {i:Nat} (hi:i<m) (x:Nat->Rat):Simp.dot N (t.T i) x=Simp.dot N (u.T i) x:=Simp.sum_congr fun j hj=>by rw [h.T i j hi hj]
theorem Agree.dotC (h:Agree m N t u) (x:Nat->Rat):Simp.dot N t.c x=Simp.dot N u.c x:=Simp.sum_congr fun j hj=>by rw [h.c j hj]
theorem Agree.ker (h:Agree m N t u) (x:Nat->Rat):Simp.Ker m N t x↔Simp.Ker m N u x:=by
 constructor <;> intro hk i hi
 ·rw [<- h.dotT hi]; exact hk i hi
 ·rw [h.dotT hi]; exact hk i hi
theorem Agree.fit (h:Agree m N t u) (hu:Simp.Fit m N u):Simp.Fit m N t:=by
 refine ⟨fun i hi=>by rw [h.B i hi]; exact hu.lt i hi,fun i k hi hk=>?_,fun k hk=>?_⟩
 ·rw [h.B k hk,h.T i _ hi (by have:=hu.lt k hk; omega)]; exact hu.unit i k hi hk
 ·rw [h.B k hk,h.c _ (by have:=hu.lt k hk; omega)]; exact hu.free k hk
theorem Alh {L' K:Nat} {R:Nat->Nat->Rat} {b:Nat->Rat} (Rn:Simp.Run m (L+m) L' K) (ha:Agree m (L+m) (Rn.t 0) (Simp.first m L R b)) (hL:L<=L')
  (hend:(∀ j,j<L'->0<=(Rn.t K).c j)\/∃ s,s<L'/\(Rn.t K).c s<0/\∀ i,i<m->(Rn.t K).T i s<=0) :
  (Rn.t K).c (L+m)=0↔∃ x:Nat->Rat,(∀ j,j<L->0<=x j)/\∀ i,i<m->Simp.sum L (fun j=>R i j*x j)=b i:=by
 have hf:=Rn.fits K (Nat.le_refl _)
 have hr:=Rn.rights K (Nat.le_refl _)
 have hk:∀ x,Simp.Ker m (L+m) (Rn.t K) x↔Simp.Ker m (L+m) (Simp.first m L R b) x:=fun x=>(Rn.ker (Nat.zero_le _) (Nat.le_refl _) x).trans (ha.ker x)
 have hc:∀ x,Simp.Ker m (L+m) (Simp.first m L R b) x->Simp.dot (L+m) (Rn.t K).c x=Simp.dot (L+m) (Simp.first m L R b).c x:=fun x hx=>by
  rw [Rn.cost (Nat.zero_le _) (Nat.le_refl _) ((ha.ker x).2 hx),ha.dotC]
 refine Simp.phase hf hr hk hc ?_
 rcases hend with h|⟨s,hs,hn,hp⟩
 ·exact fun j hj=>h j (by omega)
 ·exfalso
  have hLN:=Rn.LN
  obtain ⟨x,hx,hlt⟩:=Simp.least_none (L:=L+m) (f:=(Rn.t K).c) hf (Nat.le_refl _) hr (fun i hi hB=>by have:=hf.lt i hi; omega) (by omega) hn hp (fun i hi hB=>by have:=hf.lt i hi; omega) (fun _ _=>rfl) 0
  have hkx:=(hk x).1 hx.sol.ker
  rw [hc x hkx,Simp.first_cost hkx] at hlt
  have:=Simp.sum_nonneg (f:=fun i=>x (L+i)) (n:=m) fun i hi=>hx.sol.pos _ (by omega)
  grind
end
section
variable {vars:List ByteArray} {l:List RowT}
theorem Aik {real W i j:Nat} (hi:i<l.length):rowX vars real W l i j=rowR vars real W i (2*vars.length+neqs (l.take i)) (rwA l i) j:=by
 unfold rowX
 rw [Afw (d:=([],0,true)) hi]; rfl
theorem Yt {i:Nat} (hi:i<l.length):0<=rowX vars (2*vars.length+neqs l) (2*vars.length+neqs l+l.length+1) l i (2*vars.length+neqs l+l.length):=by
 rw [Aik hi]
 unfold rowR
 rw [if_pos (by omega)]
 unfold sgR
 split
 ·rename_i h
  have:(0:Rat)<(((rwA l i).2.1:Int):Rat):=Rat.intCast_pos.2 h
  grind
 ·rename_i h
  have:¬ (0:Rat)<(((rwA l i).2.1:Int):Rat):=fun h'=>h (Rat.intCast_pos.1 h')
  grind
variable {F:Fld} {G:Q->Prop}
theorem BInv.tok {real W N:Nat} {t:Tb} (h:BInv G vars real W l t) (hW:W=N+1):TOk G l.length N t:=⟨h.nr,h.nb,by rw [h.nc,hW],fun r hr=>by rw [h.rowW r hr,hW],h.okr,h.okc⟩
theorem Agu (hE:F.Exact G) {m N:Nat} {t:Tb} (h:TOk G m N t):Zl t=true↔(tabV t).c N=0:=by
 have g:=h.okc _ (Gh (d:=q0) (k:=N) (l:=t.cost) (by rw [h.cost]; omega))
 unfold Zl
 rw [h.cost,Nat.add_sub_cancel,beq_iff_eq,Acw (hE.pos _ g)]; rfl
end
def IncC (cs:List (ByteArray × Int)):Prop:=Inc (cs.map (·.1))
theorem Agb:∀ {n:Int} {p:Option ByteArray} {cs:List (ByteArray × Int)},A0 n p cs=0->IncC cs/\∀ c ∈ cs,∀ b,p=some b->nm b<nm c.1
 | n,p,[],h=>⟨List.Pairwise.nil,fun c hc=>by simp at hc⟩
 | n,p,c :: cs,h=>by
  unfold A0 at h
  split at h
  ·cases h
  ·split at h
   ·cases h
   ·split at h
    ·cases h
    ·rename_i h3
     obtain ⟨a,b⟩:=Agb h
     have hc:∀ x ∈ cs,nm c.1<nm x.1:=fun x hx=>b x hx c.1 rfl
     refine ⟨List.pairwise_cons.2 ⟨fun y hy=>?_,a⟩,?_⟩
     ·obtain ⟨x,hx,rfl⟩:=List.mem_map.1 hy; exact hc x hx
     ·intro x hx d hd
      subst hd
      have u9:nm d<nm c.1:=by
       simp only [Hb,Bool.or_eq_true,not_or,Bool.not_eq_true] at h3
       obtain ⟨e1,e2⟩:=h3
       rw [Ua] at e1
       rw [Gj] at e2
       rcases Vm d c.1 with h|h|h
       ·exact h
       ·exact absurd h.symm (by simpa using e2)
       ·exact absurd h (by simpa using e1)
      rcases List.mem_cons.1 hx with rfl|hx
      ·exact u9
      ·exact List.lt_trans u9 (hc x hx)
theorem Af7 {cs:List (ByteArray × Int)} {n:Int} (h:Bo cs n=0):IncC cs:=by
 unfold Bo at h
 split at h
 ·cases h
 ·exact (Agb h).1
theorem Agc:∀ {n:Int} {p:Option ByteArray} {cs:List (ByteArray × Int)},A0 n p cs=0->n.natAbs<=1000000000000/\∀ c ∈ cs,c.2.natAbs<=1000000000000/\c.2≠0
 | n,p,[],h=>by
  unfold A0 at h
  split at h
  ·rename_i h1
   unfold inB at h1
   simp at h1
   exact ⟨by omega,fun c hc=>by simp at hc⟩
  ·cases h
 | n,p,c :: cs,h=>by
  unfold A0 at h
  split at h
  ·cases h
  ·split at h
   ·cases h
   ·rename_i h1
    split at h
    ·cases h
    ·obtain ⟨a,b⟩:=Agc h
     refine ⟨a,fun x hx=>?_⟩
     rcases List.mem_cons.1 hx with rfl|hx
     ·unfold inB at h1
      simp at h1
      exact ⟨by omega,h1.1⟩
     ·exact b x hx
theorem Af8 {cs:List (ByteArray × Int)} {n:Int} (h:Bo cs n=0):n.natAbs<=1000000000000/\∀ c ∈ cs,c.2.natAbs<=1000000000000/\c.2≠0:=by
 unfold Bo at h
 split at h
 ·cases h
 ·exact Agc h
theorem Ma:∀ {l:List RowT},Dz l=0->∀ r ∈ l,Bo r.1 r.2.1=0
 | [],_=>fun r hr=>by simp at hr
 | r :: l,h=>by
  unfold Dz at h
  by_cases h0:Bo r.1 r.2.1=0
  ·rw [h0] at h
   simp only [bne_self_eq_false,Bool.false_eq_true,if_false] at h
   intro x hx
   rcases List.mem_cons.1 hx with rfl|hx
   ·exact h0
   ·exact Ma h x hx
  ·rw [if_pos (by simpa using h0)] at h; exact absurd h h0
end
section
open Go
end
section
open Go
structure Dj (S:List Ent) (iq eq:Nat) (I:TI) (t:Tb) (c:Cap):Prop where
 top:entAt S I.it I.et=some [.ifc 84 (rcvQ iq eq),intA t.vars,intA t.real,cu I.ir I.er 1 t.rows.length,.sref I.ic I.ec 0 t.cost.length 2,cu I.ib I.eb 1 t.rows.length,.frz (t.flip.map Hm) c]
 nids:I.ids.length=t.rows.length
 rowsE:t.rows≠[]->entAt S I.ir I.er=some (I.ids.map (cd t.cost.length 2))
 rowE:∀ i p r,nth I.ids i=some p->nth t.rows i=some r->entAt S p.1 p.2=some (flat ceQ r)
 rowW:∀ r ∈ t.rows,r.length=t.cost.length
 costE:entAt S I.ic I.ec=some (flat ceQ t.cost)
 basisE:t.rows≠[]->entAt S I.ib I.eb=some (t.basis.map intA)
 nb:t.basis.length=t.rows.length
 nf:t.flip.length=t.rows.length
 fa:FAq S iq eq t.fl
 ap:Apart I iq
 okr:∀ r ∈ t.rows,okL qF r
 okc:okL qF t.cost
 bigW:t.cost.length<=1000000
 bigM:t.rows.length<=1000000
 real:t.real<t.cost.length
 bB:∀ b ∈ t.basis,b<t.cost.length
section
variable {S S':List Ent} {iq eq:Nat} {I:TI} {t:Tb} {c:Cap}
theorem Dj.row (h:Dj S iq eq I t c) {i:Nat} {p:Nat × Nat} {r0 r':List Q} {fl':Bool} (hp:nth I.ids i=some p) (hr:nth t.rows i=some r0) (hl:r'.length=t.cost.length) (ho:okL qF r') (hS:∀ j,j≠p.1->j≠iq->nth S' j=nth S j) (he:entAt S' p.1 p.2=some (flat ceQ r')) (hf:FAq S' iq eq fl') :
  Dj S' iq eq I { t with rows:=put t.rows i r',fl:=fl' } c:=by
 have bl:i<t.rows.length:=Bb hr
 have jj:=h.ap.row p (Ak hp)
 have key:∀ j e,j≠p.1->j≠iq->entAt S' j e=entAt S j e:=fun j e h1 h2=>Ae (hS j h1 h2)
 have hne:put t.rows i r'≠[]->t.rows≠[]:=fun hn h0=>hn (Aib.2 h0)
 refine ⟨?_,by rw [Ai]; exact h.nids,fun hn=>?_,fun j q r hq ah=>?_,fun r ah=>?_,?_,fun hn=>?_,by rw [Ai]; exact h.nb,by rw [Ai]; exact h.nf,hf,h.ap,fun r ah=>?_,h.okc,h.bigW,by rw [Ai]; exact h.bigM,h.real,h.bB⟩
 ·rw [key _ _ jj.1.symm h.ap.qt.symm,Ai]; exact h.top
 ·rw [key _ _ jj.2.1.symm h.ap.qr.symm]; exact h.rowsE (hne hn)
 ·rw [Jy bl] at ah
  by_cases e:j=i
  ·subst e
   rw [if_pos rfl] at ah
   rw [hp] at hq
   simp only [Option.some.injEq] at ah hq
   subst ah; subst hq; exact he
  ·rw [if_neg e] at ah
   have hq2:=h.ap.row q (Ak hq)
   rw [key _ _ (h.ap.rows j i q p hq hp e) hq2.2.2.2.2]; exact h.rowE j q r hq ah
 ·rcases Ea ah with rfl|ah
  ·exact hl
  ·exact h.rowW r ah
 ·rw [key _ _ jj.2.2.1.symm h.ap.qc.symm]; exact h.costE
 ·rw [key _ _ jj.2.2.2.1.symm h.ap.qb.symm]; exact h.basisE (hne hn)
 ·rcases Ea ah with rfl|ah
  ·exact ho
  ·exact h.okr r ah
theorem Dj.setCost (h:Dj S iq eq I t c) {k':List Q} {fl':Bool} (hl:k'.length=t.cost.length) (ho:okL qF k') (hS:∀ j,j≠I.ic->j≠iq->nth S' j=nth S j) (he:entAt S' I.ic I.ec=some (flat ceQ k')) (hf:FAq S' iq eq fl') :
  Dj S' iq eq I { t with cost:=k',fl:=fl' } c:=by
 have key:∀ j e,j≠I.ic->j≠iq->entAt S' j e=entAt S j e:=fun j e h1 h2=>Ae (hS j h1 h2)
 refine ⟨?_,h.nids,fun hn=>?_,fun j q r hq ah=>?_,fun r ah=>by rw [hl]; exact h.rowW r ah,he,fun hn=>?_,h.nb,h.nf,hf,h.ap,h.okr,ho,by rw [hl]; exact h.bigW,h.bigM,by rw [hl]; exact h.real,fun b hb=>by rw [hl]; exact h.bB b hb⟩
 ·rw [key _ _ h.ap.tc h.ap.qt.symm,hl]; exact h.top
 ·rw [key _ _ h.ap.rc h.ap.qr.symm,hl]; exact h.rowsE hn
 ·have hq2:=h.ap.row q (Ak hq)
  rw [key _ _ hq2.2.2.1 hq2.2.2.2.2]; exact h.rowE j q r hq ah
 ·rw [key _ _ h.ap.cb.symm h.ap.qb.symm]; exact h.basisE hn
theorem Dj.setBasis (h:Dj S iq eq I t c) {i b:Nat} (hn0:t.rows≠[]) (hb:b<t.cost.length):Dj (put S I.ib ⟨I.eb,(put t.basis i b).map intA⟩) iq eq I { t with basis:=put t.basis i b } c:=by
 have bl:=Bd (h.basisE hn0)
 have key:∀ j e,j≠I.ib->entAt (put S I.ib ⟨I.eb,(put t.basis i b).map intA⟩) j e=entAt S j e:=fun j e h1=>An (Ne.symm h1)
 refine ⟨?_,h.nids,fun hn=>?_,fun j q r hq ah=>?_,h.rowW,?_,fun hn=>Am bl,by rw [Ai]; exact h.nb,h.nf,h.fa.put h.ap.qb.symm,h.ap,h.okr,h.okc,h.bigW,h.bigM,h.real,fun x hx=>?_⟩
 ·rw [key _ _ h.ap.tb]; exact h.top
 ·rw [key _ _ h.ap.rb]; exact h.rowsE hn
 ·have hq2:=h.ap.row q (Ak hq)
  rw [key _ _ hq2.2.2.2.1]; exact h.rowE j q r hq ah
 ·rw [key _ _ h.ap.cb]; exact h.costE
 ·rcases Ea hx with rfl|hx
  ·exact hb
  ·exact h.bB x hx
theorem Dj.app (h:Dj S iq eq I t c) (L:List Ent):Dj (S++L) iq eq I t c :=
 ⟨A2 h.top,h.nids,fun hn=>A2 (h.rowsE hn),fun j q r hq hr=>A2 (h.rowE j q r hq hr),h.rowW,A2 h.costE,fun hn=>A2 (h.basisE hn),h.nb,h.nf,h.fa.app,h.ap,h.okr,h.okc,h.bigW,h.bigM,h.real,h.bB⟩
structure LowQ (I:TI) (iq n:Nat) (t:Tb):Prop where
 it:I.it<n
 ic:I.ic<n
 ir:t.rows≠[]->I.ir<n
 ib:t.rows≠[]->I.ib<n
 row:∀ p ∈ I.ids,p.1<n
 iq:iq<n
theorem Dj.low (h:Dj S iq eq I t c):LowQ I iq S.length t:=by
 refine ⟨Bd h.top,Bd h.costE,fun hn=>Bd (h.rowsE hn),fun hn=>Bd (h.basisE hn),fun p hp=>?_,Bd h.fa⟩
 obtain ⟨i,hi⟩:=List.getElem?_of_mem hp
 have bl:=(List.getElem?_eq_some_iff.1 hi).1
 obtain ⟨r,hr⟩:=Ab (show i<t.rows.length by rw [<- h.nids]; exact bl)
 exact Bd (h.rowE i p r (by rw [Ac]; exact hi) hr)
theorem Dj.take (h:Dj S iq eq I t c) {n:Nat} (hl:LowQ I iq n t):Dj (S.take n) iq eq I t c:=by
 refine ⟨by rw [De hl.it]; exact h.top,h.nids,fun hn=>by rw [De (hl.ir hn)]; exact h.rowsE hn,fun j q r hq hr=>by rw [De (hl.row q (Ak hq))]; exact h.rowE j q r hq hr,h.rowW,by rw [De hl.ic]; exact h.costE,fun hn=>by rw [De (hl.ib hn)]; exact h.basisE hn,h.nb,h.nf,h.fa.take hl.iq,h.ap,h.okr,h.okc,h.bigW,h.bigM,h.real,h.bB⟩
theorem LowQ.of {n:Nat} {t':Tb} (h:LowQ I iq n t) (hn:t'.rows≠[]->t.rows≠[]):LowQ I iq n t':=⟨h.it,h.ic,fun h'=>h.ir (hn h'),fun h'=>h.ib (hn h'),h.row,h.iq⟩
theorem Dj.frame (h:Dj S iq eq I t c) {n:Nat} {fl':Bool} (hl:LowQ I iq n t) (hS:∀ j,j<n->j≠iq->nth S' j=nth S j) (hf:FAq S' iq eq fl'):Dj S' iq eq I { t with fl:=fl' } c:=by
 have key:∀ j e,j<n->j≠iq->entAt S' j e=entAt S j e:=fun j e h1 h2=>Ae (hS j h1 h2)
 refine ⟨?_,h.nids,fun hn=>?_,fun j q r hq ah=>?_,h.rowW,?_,fun hn=>?_,h.nb,h.nf,hf,h.ap,h.okr,h.okc,h.bigW,h.bigM,h.real,h.bB⟩
 ·rw [key _ _ hl.it h.ap.qt.symm]; exact h.top
 ·rw [key _ _ (hl.ir hn) h.ap.qr.symm]; exact h.rowsE hn
 ·have hq2:=h.ap.row q (Ak hq)
  rw [key _ _ (hl.row q (Ak hq)) hq2.2.2.2.2]; exact h.rowE j q r hq ah
 ·rw [key _ _ hl.ic h.ap.qc.symm]; exact h.costE
 ·rw [key _ _ (hl.ib hn) h.ap.qb.symm]; exact h.basisE hn
def OutQ (I:TI) (iq j:Nat):Prop:=j≠iq/\j≠I.ic/\j≠I.ib/\∀ p ∈ I.ids,j≠p.1
end
end
section
open Go
end
section
open Go
end
section
open Go
end
section
open Go
end
section
open Go
end
section
open Go
end
section
open Go
theorem Dj.add {S S':List Ent} {iq eq:Nat} {I:TI} {t:Tb} {c c':Cap} {ir er ib eb id nr b:Nat} {f fl':Bool} {row:List Q} (h:Dj S iq eq I t c)
  (aq:entAt S' I.it I.et=some [.ifc 84 (rcvQ iq eq),intA t.vars,intA t.real,.sref ir er 0 (t.rows.length+1) 1,.sref I.ic I.ec 0 t.cost.length 2,.sref ib eb 0 (t.rows.length+1) 1,.frz ((t.flip++[f]).map Hm) c'])
  (dt:entAt S' ir er=some ((I.ids++[(id,nr)]).map (cd t.cost.length 2))) (sb:entAt S' ib eb=some ((t.basis++[b]).map intA)) (bf:entAt S' id nr=some (flat ceQ row)) (ji:row.length=t.cost.length) (hro:okL qF row)
  (oh:∀ p ∈ I.ids,nth S' p.1=nth S p.1) (ev:nth S' I.ic=nth S I.ic) (hfa:FAq S' iq eq fl') (hap:Apart ⟨I.it,I.et,ir,er,I.ic,I.ec,ib,eb,I.ids++[(id,nr)]⟩ iq) (hm:t.rows.length+1<=1000000) (hb:b<t.cost.length) :
  Dj S' iq eq ⟨I.it,I.et,ir,er,I.ic,I.ec,ib,eb,I.ids++[(id,nr)]⟩ { t with rows:=t.rows++[row],basis:=t.basis++[b],flip:=t.flip++[f],fl:=fl' } c':=by
 have hlen:(t.rows++[row]).length=t.rows.length+1:=by simp
 refine ⟨?_,by simp [h.nids],fun _=>dt,fun i p r hp hr=>?_,fun r hr=>?_,?_,fun _=>sb,by simp [h.nb],by simp [h.nf],hfa,hap,fun r hr=>?_,h.okc,h.bigW,by rw [hlen]; exact hm,h.real,fun x hx=>?_⟩
 ·rw [aq]; simp only [hlen,cu]
 ·rw [Ac] at hp hr
  by_cases hi:i<I.ids.length
  ·rw [List.getElem?_append_left hi,<- Ac] at hp
   rw [List.getElem?_append_left (by rw [<- h.nids]; exact hi),<- Ac] at hr
   rw [Ae (oh p (Ak hp))]
   exact h.rowE i p r hp hr
  ·have kf:i=I.ids.length:=by
    have:=(List.getElem?_eq_some_iff.1 hp).1
    simp at this; omega
   rw [kf,List.getElem?_append_right (Nat.le_refl _),Nat.sub_self] at hp
   rw [kf,h.nids,List.getElem?_append_right (Nat.le_refl _),Nat.sub_self] at hr
   simp only [List.getElem?_cons_zero,Option.some.injEq] at hp hr
   subst hp; subst hr
   exact bf
 ·rcases List.mem_append.1 hr with hr|hr
  ·exact h.rowW r hr
  ·simp only [List.mem_singleton] at hr; subst hr; exact ji
 ·rw [Ae ev]; exact h.costE
 ·rcases List.mem_append.1 hr with hr|hr
  ·exact h.okr r hr
  ·simp only [List.mem_singleton] at hr; subst hr; exact hro
 ·rcases List.mem_append.1 hx with hx|hx
  ·exact h.bB x hx
  ·simp only [List.mem_singleton] at hx; subst hx; exact hb
structure L2 (S SS:List Ent) (iq eq:Nat) (I:TI) (t:Tb) (cp:Cap) (L nz n15 n16 n19:Nat) (z:Q) (r:RowT) (row:List Q) (u:Q):Prop where
 T:Dj SS iq eq I t cp
 low:LowQ I iq L t
 Z:entAt SS (S.length+1) nz=some (ceQ z)
 E15:entAt SS L n15=some (rowC r)
 E16:entAt SS (L+1) n16=some (flat ceQ row)
 E19:entAt SS (L+2) n19=some (ceQ u)
 len:SS.length=L+3
 fr:∀ j,j<S.length->j≠iq->nth SS j=nth S j
 qL:iq<S.length
 SL:S.length+3<=L
 ic:I.ic=S.length+2
section
variable {S SS S':List Ent} {iq eq:Nat} {I:TI} {t:Tb} {cp:Cap} {L nz n15 n16 n19:Nat} {z u:Q} {r:RowT} {row:List Q}
theorem L2.put (h:L2 S SS iq eq I t cp L nz n15 n16 n19 z r row u) (row':List Q):L2 S (put SS (L+1) ⟨n16,flat ceQ row'⟩) iq eq I t cp L nz n15 n16 n19 z r row' u:=by
 have hq:=h.qL
 have hL:=h.SL
 have hl:=h.len
 have key:∀ j,j≠L+1->nth (Go.Proofs.YtcandeobhlfkbaaGreat.put SS (L+1) ⟨n16,flat ceQ row'⟩) j=nth SS j:=fun j hj=>Ah (Ne.symm hj)
 have hT:=h.T.frame (S':=Go.Proofs.YtcandeobhlfkbaaGreat.put SS (L+1) ⟨n16,flat ceQ row'⟩) (fl':=t.fl) h.low (fun j h1 h2=>key j (by omega)) (h.T.fa.put (by omega))
 exact ⟨hT,h.low,by rw [Ae (key _ (by omega))]; exact h.Z,by rw [Ae (key _ (by omega))]; exact h.E15,Am (by omega),by rw [Ae (key _ (by omega))]; exact h.E19,by rw [Au]; exact hl,fun j h1 h2=>by rw [key j (by omega)]; exact h.fr j h1 h2,hq,hL,h.ic⟩
theorem L2.unit (h:L2 S SS iq eq I t cp L nz n15 n16 n19 z r row u) (u':Q):L2 S (Go.Proofs.YtcandeobhlfkbaaGreat.put SS (L+2) ⟨n19,ceQ u'⟩) iq eq I t cp L nz n15 n16 n19 z r row u':=by
 have hq:=h.qL
 have hL:=h.SL
 have hl:=h.len
 have key:∀ j,j≠L+2->nth (Go.Proofs.YtcandeobhlfkbaaGreat.put SS (L+2) ⟨n19,ceQ u'⟩) j=nth SS j:=fun j hj=>Ah (Ne.symm hj)
 have hT:=h.T.frame (S':=Go.Proofs.YtcandeobhlfkbaaGreat.put SS (L+2) ⟨n19,ceQ u'⟩) (fl':=t.fl) h.low (fun j h1 h2=>key j (by omega)) (h.T.fa.put (by omega))
 exact ⟨hT,h.low,by rw [Ae (key _ (by omega))]; exact h.Z,by rw [Ae (key _ (by omega))]; exact h.E15,by rw [Ae (key _ (by omega))]; exact h.E16,Am (by omega),by rw [Au]; exact hl,fun j h1 h2=>by rw [key j (by omega)]; exact h.fr j h1 h2,hq,hL,h.ic⟩
theorem L2.cost {k':List Q} (h:L2 S SS iq eq I t cp L nz n15 n16 n19 z r row u) (hk:k'.length=t.cost.length) (ho:okL qF k'):L2 S (Go.Proofs.YtcandeobhlfkbaaGreat.put SS I.ic ⟨I.ec,flat ceQ k'⟩) iq eq I { t with cost:=k' } cp L nz n15 n16 n19 z r row u:=by
 have hq:=h.qL
 have hL:=h.SL
 have hl:=h.len
 have hic:=h.ic
 have key:∀ j,j≠I.ic->nth (Go.Proofs.YtcandeobhlfkbaaGreat.put SS I.ic ⟨I.ec,flat ceQ k'⟩) j=nth SS j:=fun j hj=>Ah (Ne.symm hj)
 have hT:=h.T.setCost (S':=Go.Proofs.YtcandeobhlfkbaaGreat.put SS I.ic ⟨I.ec,flat ceQ k'⟩) (fl':=t.fl) hk ho (fun j h1 h2=>key j h1) (Am (by omega)) (h.T.fa.put (by omega))
 exact ⟨hT,h.low.of fun h=>h,by rw [Ae (key _ (by omega))]; exact h.Z,by rw [Ae (key _ (by omega))]; exact h.E15,by rw [Ae (key _ (by omega))]; exact h.E16,by rw [Ae (key _ (by omega))]; exact h.E19,by rw [Au]; exact hl,fun j h1 h2=>by rw [key j (by omega)]; exact h.fr j h1 h2,hq,hL,h.ic⟩
end
end
section
open Go
end
section
open Go
end
section
open Go
end
section
open Go
end
section
open Go
def ceW0Q:List AV:=[.prim (.bool false),.frz [] .nilc,.prim (.bool false),.frz [] .nilc]
structure Aey (S SS:List Ent) (iq eq:Nat) (I:TI) (t:Tb) (cc:Cap) (k n8:Nat) (z:Q) (cf:AV) (n:Int):Prop where
 T:Dj SS iq eq I t cc
 E4:entAt SS S.length k=some [cf,.prim (.int .i64 n)]
 E6:entAt SS (S.length+1) (k+1)=some ceW0Q
 E8:entAt SS (S.length+2) n8=some (ceQ z)
 len:SS.length=S.length+3
 fr:∀ j,j<S.length->OutQ I iq j->nth SS j=nth S j
theorem Aey.step {S SS S':List Ent} {iq eq:Nat} {I:TI} {t t':Tb} {cc:Cap} {k n8:Nat} {z:Q} {cf:AV} {n:Int} (h:Aey S SS iq eq I t cc k n8 z cf n) (ho:∀ d,d<=10->OutQ I iq (S.length+d)) (hT:Dj S' iq eq I t' cc) (hS:∀ j,OutQ I iq j->nth S' j=nth SS j) (hl:S'.length=SS.length):Aey S S' iq eq I t' cc k n8 z cf n :=
 ⟨hT,by rw [Ae (hS S.length (ho 0 (by omega)))]; exact h.E4,by rw [Ae (hS _ (ho 1 (by omega)))]; exact h.E6,by rw [Ae (hS _ (ho 2 (by omega)))]; exact h.E8,by rw [hl]; exact h.len,fun j h1 h2=>by rw [hS j h2]; exact h.fr j h1 h2⟩
end
section
open Go
end
section
open Go
end
section
open Go
end
section
open Go
end
section
open Go
structure Dk (S:List Ent) (iq eq:Nat) (I:TI) (t:Tb) (c:Cap):Prop where
 top:entAt S I.it I.et=some [.ifc 89 (rcvW iq eq),intA t.vars,intA t.real,cu I.ir I.er 1 t.rows.length,.sref I.ic I.ec 0 t.cost.length 4,cu I.ib I.eb 1 t.rows.length,.frz (t.flip.map Hm) c]
 nids:I.ids.length=t.rows.length
 rowsE:t.rows≠[]->entAt S I.ir I.er=some (I.ids.map (cd t.cost.length 4))
 rowE:∀ i p r,nth I.ids i=some p->nth t.rows i=some r->entAt S p.1 p.2=some (flat ceW r)
 rowW:∀ r ∈ t.rows,r.length=t.cost.length
 costE:entAt S I.ic I.ec=some (flat ceW t.cost)
 basisE:t.rows≠[]->entAt S I.ib I.eb=some (t.basis.map intA)
 nb:t.basis.length=t.rows.length
 nf:t.flip.length=t.rows.length
 fa:FAw S iq eq t.fl
 ap:Apart I iq
 okr:∀ r ∈ t.rows,okL wF r
 okc:okL wF t.cost
 bigW:t.cost.length<=1000000
 bigM:t.rows.length<=1000000
 real:t.real<t.cost.length
 bB:∀ b ∈ t.basis,b<t.cost.length
section
variable {S S':List Ent} {iq eq:Nat} {I:TI} {t:Tb} {c:Cap}
theorem Dk.row (h:Dk S iq eq I t c) {i:Nat} {p:Nat × Nat} {r0 r':List Q} {fl':Bool} (hp:nth I.ids i=some p) (hr:nth t.rows i=some r0) (hl:r'.length=t.cost.length) (ho:okL wF r') (hS:∀ j,j≠p.1->j≠iq->nth S' j=nth S j) (he:entAt S' p.1 p.2=some (flat ceW r')) (hf:FAw S' iq eq fl') :
  Dk S' iq eq I { t with rows:=put t.rows i r',fl:=fl' } c:=by
 have bl:i<t.rows.length:=Bb hr
 have jj:=h.ap.row p (Ak hp)
 have key:∀ j e,j≠p.1->j≠iq->entAt S' j e=entAt S j e:=fun j e h1 h2=>Ae (hS j h1 h2)
 have hne:put t.rows i r'≠[]->t.rows≠[]:=fun hn h0=>hn (Aib.2 h0)
 refine ⟨?_,by rw [Ai]; exact h.nids,fun hn=>?_,fun j q r hq ah=>?_,fun r ah=>?_,?_,fun hn=>?_,by rw [Ai]; exact h.nb,by rw [Ai]; exact h.nf,hf,h.ap,fun r ah=>?_,h.okc,h.bigW,by rw [Ai]; exact h.bigM,h.real,h.bB⟩
 ·rw [key _ _ jj.1.symm h.ap.qt.symm,Ai]; exact h.top
 ·rw [key _ _ jj.2.1.symm h.ap.qr.symm]; exact h.rowsE (hne hn)
 ·rw [Jy bl] at ah
  by_cases e:j=i
  ·subst e
   rw [if_pos rfl] at ah
   rw [hp] at hq
   simp only [Option.some.injEq] at ah hq
   subst ah; subst hq; exact he
  ·rw [if_neg e] at ah
   have hq2:=h.ap.row q (Ak hq)
   rw [key _ _ (h.ap.rows j i q p hq hp e) hq2.2.2.2.2]; exact h.rowE j q r hq ah
 ·rcases Ea ah with rfl|ah
  ·exact hl
  ·exact h.rowW r ah
 ·rw [key _ _ jj.2.2.1.symm h.ap.qc.symm]; exact h.costE
 ·rw [key _ _ jj.2.2.2.1.symm h.ap.qb.symm]; exact h.basisE (hne hn)
 ·rcases Ea ah with rfl|ah
  ·exact ho
  ·exact h.okr r ah
theorem Dk.setCost (h:Dk S iq eq I t c) {k':List Q} {fl':Bool} (hl:k'.length=t.cost.length) (ho:okL wF k') (hS:∀ j,j≠I.ic->j≠iq->nth S' j=nth S j) (he:entAt S' I.ic I.ec=some (flat ceW k')) (hf:FAw S' iq eq fl') :
  Dk S' iq eq I { t with cost:=k',fl:=fl' } c:=by
 have key:∀ j e,j≠I.ic->j≠iq->entAt S' j e=entAt S j e:=fun j e h1 h2=>Ae (hS j h1 h2)
 refine ⟨?_,h.nids,fun hn=>?_,fun j q r hq ah=>?_,fun r ah=>by rw [hl]; exact h.rowW r ah,he,fun hn=>?_,h.nb,h.nf,hf,h.ap,h.okr,ho,by rw [hl]; exact h.bigW,h.bigM,by rw [hl]; exact h.real,fun b hb=>by rw [hl]; exact h.bB b hb⟩
 ·rw [key _ _ h.ap.tc h.ap.qt.symm,hl]; exact h.top
 ·rw [key _ _ h.ap.rc h.ap.qr.symm,hl]; exact h.rowsE hn
 ·have hq2:=h.ap.row q (Ak hq)
  rw [key _ _ hq2.2.2.1 hq2.2.2.2.2]; exact h.rowE j q r hq ah
 ·rw [key _ _ h.ap.cb.symm h.ap.qb.symm]; exact h.basisE hn
theorem Dk.setBasis (h:Dk S iq eq I t c) {i b:Nat} (hn0:t.rows≠[]) (hb:b<t.cost.length):Dk (put S I.ib ⟨I.eb,(put t.basis i b).map intA⟩) iq eq I { t with basis:=put t.basis i b } c:=by
 have bl:=Bd (h.basisE hn0)
 have key:∀ j e,j≠I.ib->entAt (put S I.ib ⟨I.eb,(put t.basis i b).map intA⟩) j e=entAt S j e:=fun j e h1=>An (Ne.symm h1)
 refine ⟨?_,h.nids,fun hn=>?_,fun j q r hq ah=>?_,h.rowW,?_,fun hn=>Am bl,by rw [Ai]; exact h.nb,h.nf,h.fa.put h.ap.qb.symm,h.ap,h.okr,h.okc,h.bigW,h.bigM,h.real,fun x hx=>?_⟩
 ·rw [key _ _ h.ap.tb]; exact h.top
 ·rw [key _ _ h.ap.rb]; exact h.rowsE hn
 ·have hq2:=h.ap.row q (Ak hq)
  rw [key _ _ hq2.2.2.2.1]; exact h.rowE j q r hq ah
 ·rw [key _ _ h.ap.cb]; exact h.costE
 ·rcases Ea hx with rfl|hx
  ·exact hb
  ·exact h.bB x hx
theorem Dk.app (h:Dk S iq eq I t c) (L:List Ent):Dk (S++L) iq eq I t c :=
 ⟨A2 h.top,h.nids,fun hn=>A2 (h.rowsE hn),fun j q r hq hr=>A2 (h.rowE j q r hq hr),h.rowW,A2 h.costE,fun hn=>A2 (h.basisE hn),h.nb,h.nf,h.fa.app,h.ap,h.okr,h.okc,h.bigW,h.bigM,h.real,h.bB⟩
structure LowW (I:TI) (iq n:Nat) (t:Tb):Prop where
 it:I.it<n
 ic:I.ic<n
 ir:t.rows≠[]->I.ir<n
 ib:t.rows≠[]->I.ib<n
 row:∀ p ∈ I.ids,p.1<n
 iq:True
theorem Dk.low (h:Dk S iq eq I t c):LowW I iq S.length t:=by
 refine ⟨Bd h.top,Bd h.costE,fun hn=>Bd (h.rowsE hn),fun hn=>Bd (h.basisE hn),fun p hp=>?_,trivial⟩
 obtain ⟨i,hi⟩:=List.getElem?_of_mem hp
 have bl:=(List.getElem?_eq_some_iff.1 hi).1
 obtain ⟨r,hr⟩:=Ab (show i<t.rows.length by rw [<- h.nids]; exact bl)
 exact Bd (h.rowE i p r (by rw [Ac]; exact hi) hr)
theorem Dk.take (h:Dk S iq eq I t c) {n:Nat} (hl:LowW I iq n t):Dk (S.take n) iq eq I t c:=by
 refine ⟨by rw [De hl.it]; exact h.top,h.nids,fun hn=>by rw [De (hl.ir hn)]; exact h.rowsE hn,fun j q r hq hr=>by rw [De (hl.row q (Ak hq))]; exact h.rowE j q r hq hr,h.rowW,by rw [De hl.ic]; exact h.costE,fun hn=>by rw [De (hl.ib hn)]; exact h.basisE hn,h.nb,h.nf,h.fa.take hl.iq,h.ap,h.okr,h.okc,h.bigW,h.bigM,h.real,h.bB⟩
theorem LowW.of {n:Nat} {t':Tb} (h:LowW I iq n t) (hn:t'.rows≠[]->t.rows≠[]):LowW I iq n t':=⟨h.it,h.ic,fun h'=>h.ir (hn h'),fun h'=>h.ib (hn h'),h.row,h.iq⟩
theorem Dk.frame (h:Dk S iq eq I t c) {n:Nat} {fl':Bool} (hl:LowW I iq n t) (hS:∀ j,j<n->j≠iq->nth S' j=nth S j) (hf:FAw S' iq eq fl'):Dk S' iq eq I { t with fl:=fl' } c:=by
 have key:∀ j e,j<n->j≠iq->entAt S' j e=entAt S j e:=fun j e h1 h2=>Ae (hS j h1 h2)
 refine ⟨?_,h.nids,fun hn=>?_,fun j q r hq ah=>?_,h.rowW,?_,fun hn=>?_,h.nb,h.nf,hf,h.ap,h.okr,h.okc,h.bigW,h.bigM,h.real,h.bB⟩
 ·rw [key _ _ hl.it h.ap.qt.symm]; exact h.top
 ·rw [key _ _ (hl.ir hn) h.ap.qr.symm]; exact h.rowsE hn
 ·have hq2:=h.ap.row q (Ak hq)
  rw [key _ _ (hl.row q (Ak hq)) hq2.2.2.2.2]; exact h.rowE j q r hq ah
 ·rw [key _ _ hl.ic h.ap.qc.symm]; exact h.costE
 ·rw [key _ _ (hl.ib hn) h.ap.qb.symm]; exact h.basisE hn
def OutW (I:TI) (iq j:Nat):Prop:=j≠iq/\j≠I.ic/\j≠I.ib/\∀ p ∈ I.ids,j≠p.1
end
end
section
open Go
end
section
open Go
end
section
open Go
end
section
open Go
end
section
open Go
end
section
open Go
end
section
open Go
theorem Dk.add {S S':List Ent} {iq eq:Nat} {I:TI} {t:Tb} {c c':Cap} {ir er ib eb id nr b:Nat} {f fl':Bool} {row:List Q} (h:Dk S iq eq I t c)
  (aq:entAt S' I.it I.et=some [.ifc 89 (rcvW iq eq),intA t.vars,intA t.real,.sref ir er 0 (t.rows.length+1) 1,.sref I.ic I.ec 0 t.cost.length 4,.sref ib eb 0 (t.rows.length+1) 1,.frz ((t.flip++[f]).map Hm) c'])
  (dt:entAt S' ir er=some ((I.ids++[(id,nr)]).map (cd t.cost.length 4))) (sb:entAt S' ib eb=some ((t.basis++[b]).map intA)) (bf:entAt S' id nr=some (flat ceW row)) (ji:row.length=t.cost.length) (hro:okL wF row)
  (oh:∀ p ∈ I.ids,nth S' p.1=nth S p.1) (ev:nth S' I.ic=nth S I.ic) (hfa:FAw S' iq eq fl') (hap:Apart ⟨I.it,I.et,ir,er,I.ic,I.ec,ib,eb,I.ids++[(id,nr)]⟩ iq) (hm:t.rows.length+1<=1000000) (hb:b<t.cost.length) :
  Dk S' iq eq ⟨I.it,I.et,ir,er,I.ic,I.ec,ib,eb,I.ids++[(id,nr)]⟩ { t with rows:=t.rows++[row],basis:=t.basis++[b],flip:=t.flip++[f],fl:=fl' } c':=by
 have hlen:(t.rows++[row]).length=t.rows.length+1:=by simp
 refine ⟨?_,by simp [h.nids],fun _=>dt,fun i p r hp hr=>?_,fun r hr=>?_,?_,fun _=>sb,by simp [h.nb],by simp [h.nf],hfa,hap,fun r hr=>?_,h.okc,h.bigW,by rw [hlen]; exact hm,h.real,fun x hx=>?_⟩
 ·rw [aq]; simp only [hlen,cu]
 ·rw [Ac] at hp hr
  by_cases hi:i<I.ids.length
  ·rw [List.getElem?_append_left hi,<- Ac] at hp
   rw [List.getElem?_append_left (by rw [<- h.nids]; exact hi),<- Ac] at hr
   rw [Ae (oh p (Ak hp))]
   exact h.rowE i p r hp hr
  ·have kf:i=I.ids.length:=by
    have:=(List.getElem?_eq_some_iff.1 hp).1
    simp at this; omega
   rw [kf,List.getElem?_append_right (Nat.le_refl _),Nat.sub_self] at hp
   rw [kf,h.nids,List.getElem?_append_right (Nat.le_refl _),Nat.sub_self] at hr
   simp only [List.getElem?_cons_zero,Option.some.injEq] at hp hr
   subst hp; subst hr
   exact bf
 ·rcases List.mem_append.1 hr with hr|hr
  ·exact h.rowW r hr
  ·simp only [List.mem_singleton] at hr; subst hr; exact ji
 ·rw [Ae ev]; exact h.costE
 ·rcases List.mem_append.1 hr with hr|hr
  ·exact h.okr r hr
  ·simp only [List.mem_singleton] at hr; subst hr; exact hro
 ·rcases List.mem_append.1 hx with hx|hx
  ·exact h.bB x hx
  ·simp only [List.mem_singleton] at hx; subst hx; exact hb
structure L3 (S SS:List Ent) (iq eq:Nat) (I:TI) (t:Tb) (cp:Cap) (L nz n15 n16 n19:Nat) (z:Q) (r:RowT) (row:List Q) (u:Q):Prop where
 T:Dk SS iq eq I t cp
 low:LowW I iq L t
 Z:entAt SS (S.length+1) nz=some (ceW z)
 E15:entAt SS L n15=some (rowC r)
 E16:entAt SS (L+1) n16=some (flat ceW row)
 E19:entAt SS (L+2) n19=some (ceW u)
 len:SS.length=L+3
 fr:∀ j,j<S.length->j≠iq->nth SS j=nth S j
 qL:iq<S.length
 SL:S.length+3<=L
 ic:I.ic=S.length+2
section
variable {S SS S':List Ent} {iq eq:Nat} {I:TI} {t:Tb} {cp:Cap} {L nz n15 n16 n19:Nat} {z u:Q} {r:RowT} {row:List Q}
theorem L3.put (h:L3 S SS iq eq I t cp L nz n15 n16 n19 z r row u) (row':List Q):L3 S (put SS (L+1) ⟨n16,flat ceW row'⟩) iq eq I t cp L nz n15 n16 n19 z r row' u:=by
 have hq:=h.qL
 have hL:=h.SL
 have hl:=h.len
 have key:∀ j,j≠L+1->nth (Go.Proofs.YtcandeobhlfkbaaGreat.put SS (L+1) ⟨n16,flat ceW row'⟩) j=nth SS j:=fun j hj=>Ah (Ne.symm hj)
 have hT:=h.T.frame (S':=Go.Proofs.YtcandeobhlfkbaaGreat.put SS (L+1) ⟨n16,flat ceW row'⟩) (fl':=t.fl) h.low (fun j h1 h2=>key j (by omega)) (h.T.fa.put (by omega))
 exact ⟨hT,h.low,by rw [Ae (key _ (by omega))]; exact h.Z,by rw [Ae (key _ (by omega))]; exact h.E15,Am (by omega),by rw [Ae (key _ (by omega))]; exact h.E19,by rw [Au]; exact hl,fun j h1 h2=>by rw [key j (by omega)]; exact h.fr j h1 h2,hq,hL,h.ic⟩
theorem L3.unit (h:L3 S SS iq eq I t cp L nz n15 n16 n19 z r row u) (u':Q):L3 S (Go.Proofs.YtcandeobhlfkbaaGreat.put SS (L+2) ⟨n19,ceW u'⟩) iq eq I t cp L nz n15 n16 n19 z r row u':=by
 have hq:=h.qL
 have hL:=h.SL
 have hl:=h.len
 have key:∀ j,j≠L+2->nth (Go.Proofs.YtcandeobhlfkbaaGreat.put SS (L+2) ⟨n19,ceW u'⟩) j=nth SS j:=fun j hj=>Ah (Ne.symm hj)
 have hT:=h.T.frame (S':=Go.Proofs.YtcandeobhlfkbaaGreat.put SS (L+2) ⟨n19,ceW u'⟩) (fl':=t.fl) h.low (fun j h1 h2=>key j (by omega)) (h.T.fa.put (by omega))
 exact ⟨hT,h.low,by rw [Ae (key _ (by omega))]; exact h.Z,by rw [Ae (key _ (by omega))]; exact h.E15,by rw [Ae (key _ (by omega))]; exact h.E16,Am (by omega),by rw [Au]; exact hl,fun j h1 h2=>by rw [key j (by omega)]; exact h.fr j h1 h2,hq,hL,h.ic⟩
theorem L3.cost {k':List Q} (h:L3 S SS iq eq I t cp L nz n15 n16 n19 z r row u) (hk:k'.length=t.cost.length) (ho:okL wF k'):L3 S (Go.Proofs.YtcandeobhlfkbaaGreat.put SS I.ic ⟨I.ec,flat ceW k'⟩) iq eq I { t with cost:=k' } cp L nz n15 n16 n19 z r row u:=by
 have hq:=h.qL
 have hL:=h.SL
 have hl:=h.len
 have hic:=h.ic
 have key:∀ j,j≠I.ic->nth (Go.Proofs.YtcandeobhlfkbaaGreat.put SS I.ic ⟨I.ec,flat ceW k'⟩) j=nth SS j:=fun j hj=>Ah (Ne.symm hj)
 have hT:=h.T.setCost (S':=Go.Proofs.YtcandeobhlfkbaaGreat.put SS I.ic ⟨I.ec,flat ceW k'⟩) (fl':=t.fl) hk ho (fun j h1 h2=>key j h1) (Am (by omega)) (h.T.fa.put (by omega))
 exact ⟨hT,h.low.of fun h=>h,by rw [Ae (key _ (by omega))]; exact h.Z,by rw [Ae (key _ (by omega))]; exact h.E15,by rw [Ae (key _ (by omega))]; exact h.E16,by rw [Ae (key _ (by omega))]; exact h.E19,by rw [Au]; exact hl,fun j h1 h2=>by rw [key j (by omega)]; exact h.fr j h1 h2,hq,hL,h.ic⟩
end
end
section
open Go
end
section
open Go
end
section
open Go
end
section
open Go
end
section
open Go
def ceW0W:List AV:=[.prim (.bool false),.frz [] .nilc,.prim (.bool false),.frz [] .nilc]
structure Aez (S SS:List Ent) (iq eq:Nat) (I:TI) (t:Tb) (cc:Cap) (k n8:Nat) (z:Q) (cf:AV) (n:Int):Prop where
 T:Dk SS iq eq I t cc
 E4:entAt SS S.length k=some [cf,.prim (.int .i64 n)]
 E6:entAt SS (S.length+1) (k+1)=some ceW0W
 E8:entAt SS (S.length+2) n8=some (ceW z)
 len:SS.length=S.length+3
 fr:∀ j,j<S.length->OutW I iq j->nth SS j=nth S j
theorem Aez.step {S SS S':List Ent} {iq eq:Nat} {I:TI} {t t':Tb} {cc:Cap} {k n8:Nat} {z:Q} {cf:AV} {n:Int} (h:Aez S SS iq eq I t cc k n8 z cf n) (ho:∀ d,d<=10->OutW I iq (S.length+d)) (hT:Dk S' iq eq I t' cc) (hS:∀ j,OutW I iq j->nth S' j=nth SS j) (hl:S'.length=SS.length):Aez S S' iq eq I t' cc k n8 z cf n :=
 ⟨hT,by rw [Ae (hS S.length (ho 0 (by omega)))]; exact h.E4,by rw [Ae (hS _ (ho 1 (by omega)))]; exact h.E6,by rw [Ae (hS _ (ho 2 (by omega)))]; exact h.E8,by rw [hl]; exact h.len,fun j h1 h2=>by rw [hS j h2]; exact h.fr j h1 h2⟩
end
section
open Go
end
section
open Go
end
section
open Go
end
section
open Go
theorem Aij {vars:List ByteArray} {r:RowT} (h:Bo r.1 r.2.1=0) (hm:∀ c ∈ r.1,c.1 ∈ vars):M9 vars r/\Kg 1000000000000 r:=by
 obtain ⟨h1,h2⟩:=Af8 h
 have h3:=Af7 h
 refine ⟨⟨by unfold i64; omega,fun c hc=>by have:=(h2 c hc).1; unfold i64; omega,hm,?_⟩,⟨by omega,h1,fun c hc=>(h2 c hc).1⟩⟩
 have key:∀ (cs:List (ByteArray × Int)),IncC cs->(∀ c ∈ cs,c.1 ∈ vars)->(cs.map fun c=>idxV vars c.1).Pairwise (·≠·):=by
  intro cs
  induction cs with
  | nil=>intro _ _; exact List.Pairwise.nil
  | cons c cs ih =>
   intro hi hm
   have hp:=List.pairwise_cons.1 (show (c.1 :: cs.map (·.1)).Pairwise (fun a b=>nm a<nm b) from hi)
   rw [List.map_cons]
   refine List.pairwise_cons.2 ⟨fun x hx e=>?_,ih hp.2 fun c' h=>hm c' (List.mem_cons_of_mem _ h)⟩
   obtain ⟨c',a7,rfl⟩:=List.mem_map.1 hx
   have e1:=Vf (hm c (List.mem_cons_self ..))
   have e2:=Vf (hm c' (List.mem_cons_of_mem _ a7))
   rw [e,e2] at e1
   simp only [Option.some.injEq] at e1
   have:=hp.1 c'.1 (List.mem_map.2 ⟨c',a7,rfl⟩)
   rw [e1] at this
   exact List.lt_irrefl _ this
 exact key _ h3 hm
theorem T8 {l:List RowT} {vars:List ByteArray} (h:Dz l=0) (hm:∀ r ∈ l,∀ c ∈ r.1,c.1 ∈ vars):∀ r ∈ l,M9 vars r/\Kg 1000000000000 r:=fun r hr=>Aij (Ma h r hr) (hm r hr)
theorem Af2 {m M:Nat} (hm:m<=13) (hM:M=1000000000000):2*(bndX m M (m*M)*bndX m M (m*M))<10000 ^ 200:=by
 subst hM
 have:∀ m,m<14->2*(bndX m 1000000000000 (m*1000000000000)*bndX m 1000000000000 (m*1000000000000))<10000 ^ 200:=by decide +kernel
 exact this m (by omega)
structure PhEnd (G:Q->Prop) (vars:List ByteArray) (l:List RowT) (t':Tb):Prop where
 fl:t'.fl=false
 ok:TOk G l.length (2*vars.length+neqs l+l.length) t'
 run:∃ K,∃ R:Simp.Run l.length (2*vars.length+neqs l+l.length) (2*vars.length+neqs l) K,R.t K=tabV t' /\
   Agree l.length (2*vars.length+neqs l+l.length) (R.t 0) (Simp.first l.length (2*vars.length+neqs l) (rowX vars (2*vars.length+neqs l) (2*vars.length+neqs l+l.length+1) l) fun i=>rowX vars (2*vars.length+neqs l) (2*vars.length+neqs l+l.length+1) l i (2*vars.length+neqs l+l.length))
 stop:(∀ j,j<2*vars.length+neqs l->0<=(tabV t').c j)\/∃ s,s<2*vars.length+neqs l/\(tabV t').c s<0/\∀ i,i<l.length->(tabV t').T i s<=0
theorem Ah2 {x p:Q} (hx:gW x) (hp:gW p) (h0:qv p≠0) (hf:Ho (qv x / qv p)):gW (wF.over x p).1/\qv (wF.over x p).1=qv x / qv p:=M3.over x p hx hp h0 (Wa.over x p hx hp h0 hf)
theorem Ame {p:Q} (hp:gW p) (h0:qv p≠0):∀ {row:List Q},(∀ q ∈ row,gW q)->(∀ j,j<row.length->Ho (qv (at_ q0 row j) / qv p))->(∀ q ∈ ovR p row,gW q)/\∀ j,qv (at_ q0 (ovR p row) j)=qv (at_ q0 row j) / qv p
 | [],_,_=>⟨fun q h=>(by cases h),fun j=>by simp only [ovR,List.map_nil,W5,Aej]; grind⟩
 | x :: l,hl,hf=>by
  have ih:=Ame hp h0 (row:=l) (fun q h=>hl q (List.mem_cons_of_mem _ h)) fun j hj=>hf (j+1) (by simpa using hj)
  have hs:=Ah2 (hl x (List.mem_cons_self ..)) hp h0 (hf 0 (by simp))
  refine ⟨fun q h=>?_,fun j=>?_⟩
  ·rcases List.mem_cons.1 h with rfl|h
   ·exact hs.1
   ·exact ih.1 q h
  ·cases j with
   | zero=>exact hs.2
   | succ j=>exact ih.2 j
theorem Ajd {f:Q} (hf:gW f):∀ {l r:List Q},l.length=r.length->(∀ q ∈ l,gW q)->(∀ q ∈ r,gW q)->(∀ j,j<r.length->Ho (qv f*qv (at_ q0 r j))/\Ho (qv (at_ q0 l j) - qv f*qv (at_ q0 r j)))->(∀ q ∈ zipR f l r,gW q)/\∀ j,qv (at_ q0 (zipR f l r) j)=qv (at_ q0 l j) - qv f*qv (at_ q0 r j)
 | [],[],_,_,_,_=>⟨fun q h=>(by cases h),fun j=>by simp only [zipR,W5,Aej]; grind⟩
 | [],_ :: _,h,_,_,_=>by simp at h
 | _ :: _,[],h,_,_,_=>by simp at h
 | a :: l,b :: r,h,hl,hr,hx=>by
  have ih:=Ajd hf (l:=l) (r:=r) (by simpa using h) (fun q h=>hl q (List.mem_cons_of_mem _ h)) (fun q h=>hr q (List.mem_cons_of_mem _ h)) fun j hj=>hx (j+1) (by simpa using hj)
  have h0:=hx 0 (by simp)
  have ga:=hl a (List.mem_cons_self ..)
  have gb:=hr b (List.mem_cons_self ..)
  have t:=M3.times f b hf gb (Wa.times f b hf gb h0.1)
  have d:=M3.minus a _ ga t.1 (Wa.minus a _ ga t.1 (by rw [t.2]; exact h0.2))
  refine ⟨fun q h=>?_,fun j=>?_⟩
  ·rcases List.mem_cons.1 h with rfl|h
   ·exact d.1
   ·exact ih.1 q h
  ·cases j with
   | zero=>exact d.2.trans (by rw [t.2]; rfl)
   | succ j=>exact ih.2 j
theorem Al7 {f:Q} (hf:gW f) {l r:List Q} (h:l.length=r.length) (hl:∀ q ∈ l,gW q) (hr:∀ q ∈ r,gW q) (hx:∀ j,j<r.length->Ho (qv f*qv (at_ q0 r j))/\Ho (qv (at_ q0 l j) - qv f*qv (at_ q0 r j))):(∀ q ∈ lsR f l r,gW q)/\∀ j,qv (at_ q0 (lsR f l r) j)=qv (at_ q0 l j) - qv f*qv (at_ q0 r j):=by
 unfold lsR
 split
 ·rename_i h0
  exact ⟨hl,fun j=>by rw [(Acw hf.pos).1 h0]; grind⟩
 ·exact Ajd hf h hl hr hx
theorem V0 {row:List Q} {c i:Nat} : ∀ {l:List (List Q)} {k:Nat},(rowsR row c i k l).length=l.length
 | [],_=>rfl
 | r :: l,k=>by simp only [rowsR,List.length_cons,V0]
theorem Acq {row:List Q} {c i W:Nat} (hc:c<W) (hw:row.length=W) (hr:∀ q ∈ row,gW q):∀ {l:List (List Q)} {k:Nat},(∀ r ∈ l,r.length=W)->(∀ r ∈ l,∀ q ∈ r,gW q) ->
  (∀ n j,n<l.length->k+n≠i->j<W->Ho (qv (at_ q0 (at_ [] l n) c)*qv (at_ q0 row j))/\Ho (qv (at_ q0 (at_ [] l n) j) - qv (at_ q0 (at_ [] l n) c)*qv (at_ q0 row j))) ->
  (∀ r ∈ rowsR row c i k l,r.length=W)/\(∀ r ∈ rowsR row c i k l,∀ q ∈ r,gW q)/\∀ n j,n<l.length->qv (at_ q0 (at_ [] (rowsR row c i k l) n) j)=if k+n=i then qv (at_ q0 (at_ [] l n) j) else qv (at_ q0 (at_ [] l n) j) - qv (at_ q0 (at_ [] l n) c)*qv (at_ q0 row j)
 | [],k,_,_,_=>⟨fun r h=>(by cases h),fun r h=>(by cases h),fun n j hn=>by simp at hn⟩
 | r :: l,k,hl,hg,hx=>by
  have ih:=Acq hc hw hr (l:=l) (k:=k+1) (i:=i) (fun r h=>hl r (List.mem_cons_of_mem _ h)) (fun r h=>hg r (List.mem_cons_of_mem _ h)) fun n j hn hk hj=>hx (n+1) j (by simpa using hn) (by omega) hj
  have hlr:=hl r (List.mem_cons_self ..)
  have hgr:=hg r (List.mem_cons_self ..)
  have hs:(if k=i then r else lsR (at_ q0 r c) r row).length=W/\(∀ q ∈ (if k=i then r else lsR (at_ q0 r c) r row),gW q)/\∀ j,qv (at_ q0 (if k=i then r else lsR (at_ q0 r c) r row) j)=if k=i then qv (at_ q0 r j) else qv (at_ q0 r j) - qv (at_ q0 r c)*qv (at_ q0 row j):=by
   by_cases e:k=i
   ·simp only [if_pos e]; exact ⟨hlr,hgr,fun j=>trivial⟩
   ·simp only [if_neg e]
    have hb:=hgr _ (Gh (d:=q0) (k:=c) (by omega))
    have h2:=Al7 hb (by rw [hlr,hw]) hgr hr fun j hj=>hx 0 j (by simp) (by omega) (by omega)
    exact ⟨by rw [Yd (by rw [hlr,hw])]; exact hlr,h2.1,h2.2⟩
  refine ⟨fun q h=>?_,fun q h=>?_,fun n j hn=>?_⟩
  ·rcases List.mem_cons.1 h with rfl|h
   ·exact hs.1
   ·exact ih.1 q h
  ·rcases List.mem_cons.1 h with rfl|h
   ·exact hs.2.1
   ·exact ih.2.1 q h
  ·cases n with
   | zero=>exact hs.2.2 j
   | succ n =>
    have:=ih.2.2 n j (by simpa using hn)
    rw [show k+1+n=k+(n+1) by omega] at this
    exact this
section
variable {m N L:Nat}
theorem Aoe {t:Tb} (h:TOk gW m N t) {i c:Nat} (hi:i<m) (hc:c<N+1) (h0:(tabV t).T i c≠0) (hp:Ae3 Ho m N (tabV t) i c):TOk gW m N (pivR t i c)/\tabV (pivR t i c)=Simp.piv (tabV t) i c:=by
 have dm:=Rk h hi
 have cq:=h.rowW _ dm
 have hb:=h.okr _ dm _ (Gh (d:=q0) (k:=c) (by rw [cq]; exact hc))
 have d2:=Ame hb h0 (h.okr _ dm) fun j hj=>hp.row j (by rw [cq] at hj; exact hj)
 have dl:(ovR (at_ q0 (Ei t i) c) (Ei t i)).length=N+1:=Amf.trans cq
 obtain ⟨d,hd⟩:∃ d,d=ovR (at_ q0 (Ei t i) c) (Ei t i):=⟨_,rfl⟩
 rw [<- hd] at d2 dl
 have hcm:at_ q0 t.cost c ∈ t.cost:=Gh (by rw [h.cost]; exact hc)
 have r2:=Acq (i:=i) (k:=0) hc dl d2.1 (l:=put t.rows i d) (fun r hr=>by
  rcases J4 hr with rfl|hr
  ·exact dl
  ·exact h.rowW r hr) (fun r hr=>by
  rcases J4 hr with rfl|hr
  ·exact d2.1
  ·exact h.okr r hr) (fun n j hn hk hj=>by
  rw [Ai,h.rows] at hn
  rw [Nv (by rw [h.rows]; exact hi),if_neg (by omega),d2.2]
  exact ⟨hp.mul n j hn hj,hp.sub n j hn hj (by omega)⟩)
 have k2:=Al7 (h.okc _ hcm) (r:=d) (l:=t.cost) (by rw [h.cost,dl]) h.okc d2.1 (fun j hj=>by
  rw [dl] at hj
  rw [d2.2]
  exact ⟨hp.cmul j hj,hp.csub j hj⟩)
 have hP:pivR t i c={ t with rows:=rowsR d c i 0 (put t.rows i d),cost:=lsR (at_ q0 t.cost c) t.cost d,basis:=put t.basis i c }:=by unfold pivR; rw [<- hd]
 rw [hP]
 refine ⟨⟨?_,?_,?_,r2.1,r2.2.1,k2.1⟩,?_⟩
 ·show (rowsR _ _ _ _ _).length=m
  rw [V0,Ai]; exact h.rows
 ·show (put _ _ _).length=m
  rw [Ai]; exact h.basis
 ·show (lsR _ _ _).length=N+1
  rw [Yd (by rw [h.cost,dl])]; exact h.cost
 ·have eT:(tabV { t with rows:=rowsR d c i 0 (put t.rows i d),cost:=lsR (at_ q0 t.cost c) t.cost d,basis:=put t.basis i c }).T=(Simp.piv (tabV t) i c).T:=by
   funext i' j
   show qv (at_ q0 (at_ [] (rowsR d c i 0 (put t.rows i d)) i') j)=Simp.pivT (tabV t) i c i' j
   by_cases aj:i'<m
   ·rw [r2.2.2 i' j (by rw [Ai,h.rows]; exact aj),Nv (by rw [h.rows]; exact hi),d2.2]
    unfold Simp.pivT
    by_cases e:i'=i
    ·subst e
     rw [if_pos (by omega),if_pos rfl,if_pos rfl,d2.2]; rfl
    ·rw [if_neg (by omega),if_neg e,if_neg e]; rfl
   ·have hn:at_ [] t.rows i'=[]:=Afx (by rw [h.rows]; omega)
    have z:∀ j,(tabV t).T i' j=0:=fun j=>by
     show qv (at_ q0 (at_ [] t.rows i') j)=0
     rw [hn,W5,Aej]
    have e2:at_ [] (rowsR d c i 0 (put t.rows i d)) i'=[]:=Afx (by rw [V0,Ai,h.rows]; omega)
    rw [e2,W5,Aej]
    unfold Simp.pivT
    rw [if_neg (by omega),z,z]; grind
  have eC:(tabV { t with rows:=rowsR d c i 0 (put t.rows i d),cost:=lsR (at_ q0 t.cost c) t.cost d,basis:=put t.basis i c }).c=(Simp.piv (tabV t) i c).c:=by
   funext j
   show qv (at_ q0 (lsR (at_ q0 t.cost c) t.cost d) j)=_
   rw [k2.2,d2.2]; rfl
  have eB:(tabV { t with rows:=rowsR d c i 0 (put t.rows i d),cost:=lsR (at_ q0 t.cost c) t.cost d,basis:=put t.basis i c }).B=(Simp.piv (tabV t) i c).B:=by
   funext k
   show at_ 0 (put t.basis i c) k=if k=i then c else at_ 0 t.basis k
   exact Nv (by rw [h.basis]; exact hi)
  show Simp.Tab.mk _ _ _=Simp.Tab.mk _ _ _
  exact congr (congr (congrArg Simp.Tab.mk eT) eC) eB
theorem Ane {a b:Q} (ha:gW a) (hb:gW b):(cmpW a b<0↔qv a<qv b)/\(cmpW a b=0↔qv a=qv b):=by
 have p1:=ha.pos
 have p2:=hb.pos
 have r1:(0:Rat)<((a.2:Int):Rat):=Rat.intCast_pos.2 p1
 have r2:(0:Rat)<((b.2:Int):Rat):=Rat.intCast_pos.2 p2
 have key:∀ x y:Q,0<x.2->0<y.2->(x.1*y.2<y.1*x.2↔qv x<qv y):=fun x y hx hy=>by
  have s1:(0:Rat)<((x.2:Int):Rat):=Rat.intCast_pos.2 hx
  have s2:(0:Rat)<((y.2:Int):Rat):=Rat.intCast_pos.2 hy
  unfold qv
  rw [Rat.div_lt_iff s1,<- Rat.intCast_lt_intCast,Rat.intCast_mul,Rat.intCast_mul]
  have e:((y.1:Int):Rat) / ((y.2:Int):Rat)*((x.2:Int):Rat)=(((y.1:Int):Rat)*((x.2:Int):Rat)) / ((y.2:Int):Rat):=by grind
  rw [e,Rat.lt_div_iff s2]
 have k1:=key a b p1 p2
 have k2:=key b a p2 p1
 unfold cmpW
 rw [Mx ha,Mx hb]
 unfold cmpZ
 constructor
 ·rw [<- k1]
  split
  ·rename_i h; exact ⟨fun _=>h,fun _=>by omega⟩
  ·rename_i h
   split
   ·exact ⟨fun h'=>by omega,fun h'=>absurd h' h⟩
   ·exact ⟨fun h'=>by omega,fun h'=>absurd h' h⟩
 ·split
  ·rename_i h
   have:=k1.1 h
   exact ⟨fun h'=>by omega,fun h'=>by rw [h'] at this; exact absurd this (by grind)⟩
  ·rename_i h
   have n1:¬ qv a<qv b:=fun h'=>h (k1.2 h')
   split
   ·rename_i h2
    have:=k2.1 (by omega)
    exact ⟨fun h'=>by omega,fun h'=>by rw [h'] at this; exact absurd this (by grind)⟩
   ·rename_i h2
    have n2:¬ qv b<qv a:=fun h'=>h2 (by have:=k2.2 h'; omega)
    exact ⟨fun _=>by grind,fun _=>rfl⟩
def Aat (N c:Nat) (T:Simp.Tab) (k:Nat):Option Nat->Prop
 | none=>∀ i,i<k->T.T i c<=0
 | some i=>i<k/\0<T.T i c/\∀ i',i'<k->0<T.T i' c->T.T i N / T.T i c<=T.T i' N / T.T i' c/\(T.T i N / T.T i c=T.T i' N / T.T i' c->T.B i<=T.B i')
theorem Aid {t:Tb} (h:TOk gW m N t) {c i:Nat} (hc:c<N+1) (hi:i<m) (hF:N9 Ho m N c (tabV t)) (hp:0<(tabV t).T i c):gW (quoR (Ei t i) c t.cost.length)/\qv (quoR (Ei t i) c t.cost.length)=(tabV t).T i N / (tabV t).T i c:=by
 have dm:=Rk h hi
 have hw:=h.rowW _ dm
 have g1:=h.okr _ dm _ (Gh (d:=q0) (k:=c) (by rw [hw]; exact hc))
 have g2:=h.okr _ dm _ (Gh (d:=q0) (k:=N) (by rw [hw]; omega))
 unfold quoR
 rw [h.cost,Nat.add_sub_cancel]
 exact Ah2 g2 g1 (by show (tabV t).T i c≠0; grind) (hF.quo i hi hp)
theorem Mh {t:Tb} (h:TOk gW m N t) {c:Nat} (hc:c<N+1) (hF:N9 Ho m N c (tabV t)):∀ {l:List (List Q)} {k:Nat} {b:Option Nat},t.rows.drop k=l->k<=m->Aat N c (tabV t) k b->Aat N c (tabV t) m (D9 t c k l b)
 | [],k,b,hl,hk,hb=>by
  have:t.rows.length<=k:=List.drop_eq_nil_iff.1 hl
  rw [h.rows] at this
  have e:k=m:=by omega
  subst e
  exact hb
 | r :: l,k,b,hl,hk,hb=>by
  have po:k<m:=by
   have:=congrArg List.length hl
   simp only [List.length_drop,List.length_cons,h.rows] at this
   omega
  have hd:=Ar (Afw (d:=[]) (l:=t.rows) (k:=k) (by rw [h.rows]; exact po))
  rw [hl] at hd
  obtain ⟨hr,hl2⟩:=List.cons.inj hd
  have er:r=Ei t k:=hr
  have dm:=Rk h po
  have hw:=h.rowW _ dm
  have g1:=h.okr _ dm _ (Gh (d:=q0) (k:=c) (by rw [hw]; exact hc))
  have p1:=g1.pos
  rw [er]
  unfold D9
  by_cases hs:sgn (at_ q0 (Ei t k) c)<=0
  ·rw [if_pos hs]
   have hn:(tabV t).T k c<=0:=by
    have:¬ 0<qv (at_ q0 (Ei t k) c):=fun h'=>by have:=(Aai p1).2 h'; omega
    show qv (at_ q0 (Ei t k) c)<=0
    grind
   refine Mh h hc hF hl2.symm po ?_
   cases b with
   | none =>
    intro i hi
    by_cases e:i=k
    ·subst e; exact hn
    ·exact hb i (by omega)
   | some bi =>
    obtain ⟨b1,b2,b5⟩:=hb
    refine ⟨by omega,b2,fun i' aj hp=>?_⟩
    by_cases e:i'=k
    ·subst e; grind
    ·exact b5 i' (by omega) hp
  ·rw [if_neg hs]
   have hp:0<(tabV t).T k c:=(Aai p1).1 (by omega)
   cases b with
   | none =>
    refine Mh h hc hF hl2.symm po ⟨by omega,hp,fun i' aj b7=>?_⟩
    by_cases e:i'=k
    ·subst e; exact ⟨Rat.le_refl,fun _=>Nat.le_refl _⟩
    ·have:=hb i' (by omega); grind
   | some bi =>
    obtain ⟨b1,b2,b5⟩:=hb
    have q1:=Aid h hc po hF hp
    have q2:=Aid h hc (show bi<m by omega) hF b2
    obtain ⟨c1,c2⟩:=Ane q1.1 q2.1
    rw [q1.2,q2.2] at c1 c2
    simp only
    generalize cmpW (quoR (Ei t k) c t.cost.length) (quoR (Ei t bi) c t.cost.length)=s at c1 c2 ⊢
    have eB:∀ i,at_ 0 t.basis i=(tabV t).B i:=fun _=>rfl
    refine Mh h hc hF hl2.symm po ?_
    unfold R4
    rw [eB,eB]
    by_cases x1:s<0
    ·have hlt:=c1.1 x1
     rw [if_pos (by simp [x1])]
     refine ⟨by omega,hp,fun i' aj b7=>?_⟩
     by_cases e:i'=k
     ·subst e; exact ⟨Rat.le_refl,fun _=>Nat.le_refl _⟩
     ·have h5:=b5 i' (by omega) b7
      exact ⟨by grind,fun h'=>by have:=h5.1; grind⟩
    ·by_cases x2:s=0
     ·have hz:=c2.1 x2
      by_cases x3:(tabV t).B k<(tabV t).B bi
      ·rw [if_pos (by simp [x2,x3])]
       refine ⟨by omega,hp,fun i' aj b7=>?_⟩
       by_cases e:i'=k
       ·subst e; exact ⟨Rat.le_refl,fun _=>Nat.le_refl _⟩
       ·have h5:=b5 i' (by omega) b7
        refine ⟨by rw [hz]; exact h5.1,fun h'=>?_⟩
        have:=h5.2 (by rw [<- hz]; exact h')
        omega
      ·rw [if_neg (by simp [x2,x3])]
       refine ⟨by omega,b2,fun i' aj b7=>?_⟩
       by_cases e:i'=k
       ·subst e; exact ⟨by grind,fun _=>by omega⟩
       ·exact b5 i' (by omega) b7
     ·rw [if_neg (by simp [x1,x2])]
      have qp:(tabV t).T bi N / (tabV t).T bi c<(tabV t).T k N / (tabV t).T k c:=by
       have n1:¬ ((tabV t).T k N / (tabV t).T k c<(tabV t).T bi N / (tabV t).T bi c):=fun h'=>x1 (c1.2 h')
       have n2:¬ ((tabV t).T k N / (tabV t).T k c=(tabV t).T bi N / (tabV t).T bi c):=fun h'=>x2 (c2.2 h')
       grind
      refine ⟨by omega,b2,fun i' aj b7=>?_⟩
      by_cases e:i'=k
      ·subst e; exact ⟨by grind,fun h'=>by grind⟩
      ·exact b5 i' (by omega) b7
def Aoy (m N L:Nat) (t0:Simp.Tab):Prop:=∀ K (R:Simp.Run m N L K),R.t 0=t0->(∀ c,c<L->N9 Ho m N c (R.t K))/\∀ r s,r<m->s<N->(R.t K).T r s≠0->Ae3 Ho m N (R.t K) r s
theorem Akn {M Mc:Nat} {t0:Simp.Tab} (hM:1<=M) (hI:Ints m N M Mc t0) (hX:2*(bndX m M Mc*bndX m M Mc)<10000 ^ 200):Aoy m N L t0:=fun K R h0=>by
 have hr:=Reach.run R
 rw [h0] at hr
 exact ⟨fun c hc=>Ri hM hI hX hr (by have:=R.LN; omega),fun r s h1 h2 h3=>Vx hM hI hX hr h1 h2 h3⟩
theorem Yc {t0:Simp.Tab} (hs:Aoy m N L t0):∀ (n:Nat) {K:Nat} (R:Simp.Run m N L K) {t:Tb},R.t 0=t0->R.t K=tabV t->TOk gW m N t->N ^ m+1<=n+K ->
  ∃ b t',K9 L n t=some (b,t')/\TOk gW m N t'/\∃ K',∃ R':Simp.Run m N L K',R'.t 0=t0/\R'.t K'=tabV t'/\(b=true->∀ j,j<L->0<=(tabV t').c j)/\(b=false->∃ s,s<L/\(tabV t').c s<0/\∀ i,i<m->(tabV t').T i s<=0)
 | 0,K,R,t,h0,hK,ht,hn=>by have:=R.short; omega
 | n+1,K,R,t,h0,hK,ht,hn=>by
  have a0d:=R.short
  have hLN:=R.LN
  have ej:=Agd M3 ht.okc (n:=L) (k:=0) (by rw [ht.cost]; omega)
  rw [K9]
  cases hc:colF t.cost L 0 with
  | none =>
   rw [hc] at ej
   exact ⟨true,t,rfl,ht,K,R,h0,hK,fun _ j hj=>ej j (Nat.zero_le _) (by omega),fun h=>by cases h⟩
  | some c =>
   rw [hc] at ej
   obtain ⟨-,hcL,hneg,sc⟩:=ej
   simp only
   have hcN:c<N+1:=by omega
   have ab:=hs K R h0
   have hlv:=Mh ht hcN (by rw [<- hK]; exact ab.1 c (by omega)) (l:=t.rows) (k:=0) (b:=none) rfl (Nat.zero_le _) (fun i hi=>by omega)
   cases hle:D9 t c 0 t.rows none with
   | none =>
    rw [hle] at hlv
    exact ⟨false,t,rfl,ht,K,R,h0,hK,fun h=>(by cases h),fun _=>⟨c,by omega,hneg,hlv⟩⟩
   | some i =>
    rw [hle] at hlv
    obtain ⟨l1,l2,l5⟩:=hlv
    simp only
    have h0':(tabV t).T i c≠0:=by grind
    have hstep:Simp.Step m N L (R.t K) i c:=by
     rw [hK]
     exact ⟨l1,by omega,hneg,fun j hj=>sc j (Nat.zero_le _) hj,l2,fun i' aj hp=>(l5 i' aj hp).1,fun i' aj hp=>(l5 i' aj hp).2⟩
    obtain ⟨x1,x2⟩:=Aoe ht l1 hcN h0' (by rw [<- hK]; exact ab.2 i c l1 (by omega) (by rw [hK]; exact h0'))
    refine Yc hs n (R.more hstep) (t:=pivR t i c) ?_ ?_ x1 (by omega)
    ·rw [R.more_old hstep (Nat.zero_le _)]; exact h0
    ·rw [R.more_last hstep,x2,hK]
end
theorem iQ_g {n:Int} (h:i64 n):gW (iQ n):=Vd h
theorem iQ_v (n:Int):qv (iQ n)=((n:Int):Rat):=by unfold qv iQ; simp only; show _ / ((1:Int):Rat)=_; rw [Rat.intCast_one]; grind
theorem Akr {a b:Int} (h:i64 (a - b)):(wF.minus (iQ a) (iQ b)).1=iQ (a - b):=by
 have g:He (a - b) 1:=Vd h
 obtain ⟨-,h2,h3⟩:=g.fits
 show (wn ((qz (a,1)).1*(qz (b,1)).2+-(qz (b,1)).1*(qz (a,1)).2) ((qz (a,1)).2*(qz (b,1)).2)).1=_
 have e1:∀ x:Int,qz (x,1)=(x,1):=fun x=>by unfold qz; rw [if_neg (by simp)]
 rw [e1,e1]
 show (resN (a*1+-b*1) (1*1),resD (a*1+-b*1) (1*1))=_
 rw [show a*1+-b*1=a - b by omega,show (1:Int)*1=1 from rfl,h2,h3]; rfl
theorem Al3 {α:Type} {d:α} {l r:List α} {j:Nat} : at_ d (l++r) j=if j<l.length then at_ d l j else at_ d r (j - l.length):=by
 unfold at_
 rw [Ac,Ac,Ac]
 split
 ·rename_i h; rw [List.getElem?_append_left h]
 ·rename_i h; rw [List.getElem?_append_right (by omega)]
theorem Aba {β:Type} {d:β} {n j:Nat} {f:Nat->β} : at_ d ((List.range n).map f) j=if j<n then f j else d:=by
 unfold at_
 rw [Ac,List.getElem?_map]
 by_cases h:j<n
 ·rw [if_pos h,List.getElem?_range h]; rfl
 ·rw [if_neg h,List.getElem?_eq_none (by simp; omega)]; rfl
theorem Pi {s:Int} {cs:List (ByteArray × Int)} : ∀ {vs:List ByteArray},(Gf s cs vs).length=2*vs.length
 | []=>rfl
 | v :: vs=>by simp only [Gf,List.length_cons,Pi]; omega
theorem Vi {s:Int} {cs:List (ByteArray × Int)} : ∀ {vs:List ByteArray} {k:Nat},k<vs.length->at_ q0 (Gf s cs vs) (2*k)=iQ (s*Eg cs (at_ ⟨#[]⟩ vs k))/\at_ q0 (Gf s cs vs) (2*k+1)=iQ (-s*Eg cs (at_ ⟨#[]⟩ vs k))
 | [],_,h=>by simp at h
 | v :: vs,0,_=>⟨rfl,rfl⟩
 | v :: vs,k+1,h=>Vi (vs:=vs) (by simpa using h)
theorem Qy {s:Int} {cs:List (ByteArray × Int)} {q:Q} : ∀ {vs:List ByteArray},q ∈ Gf s cs vs->∃ v,q=iQ (s*Eg cs v)\/q=iQ (-s*Eg cs v)
 | [],h=>by cases h
 | v :: vs,h=>by
  simp only [Gf,List.mem_cons] at h
  rcases h with h|h|h
  ·exact ⟨v,.inl h⟩
  ·exact ⟨v,.inr h⟩
  ·exact Qy h
theorem Xe {v:ByteArray} : ∀ {cs:List (ByteArray × Int)},Eg cs v=0\/∃ c ∈ cs,c.2=Eg cs v
 | []=>.inl rfl
 | c :: cs=>by
  rw [Eg]
  split
  ·exact .inr ⟨c,List.mem_cons_self ..,rfl⟩
  ·rcases Xe (v:=v) (cs:=cs) with h|⟨c',h1,h2⟩
   ·exact .inl h
   ·exact .inr ⟨c',List.mem_cons_of_mem _ h1,h2⟩
def Dist (vars:List ByteArray):Prop:=∀ i j s,nth vars i=some s->nth vars j=some s->i=j
theorem Ab2:∀ {l:List ByteArray},Inc l->Dist l
 | [],_=>fun i j s h _=>by simp [nth] at h
 | x :: l,h=>by
  have hp:=List.pairwise_cons.1 h
  have ih:=Ab2 hp.2
  intro i j s h1 h2
  cases i with
  | zero =>
   simp only [nth,Option.some.injEq] at h1
   subst h1
   cases j with
   | zero=>rfl
   | succ j=>have:=hp.1 x (Ak (l:=l) (i:=j) h2); exact absurd this (List.lt_irrefl _)
  | succ i =>
   cases j with
   | zero =>
    simp only [nth,Option.some.injEq] at h2
    subst h2
    have:=hp.1 x (Ak (l:=l) (i:=i) h1); exact absurd this (List.lt_irrefl _)
   | succ j=>have:=ih i j s h1 h2; omega
theorem Ai9 (l:List RowT):Dist (A4 l):=Ab2 (G3 (Dh l)).1
theorem U6 {vars:List ByteArray} (hd:Dist vars) {k:Nat} {v:ByteArray} (hv:nth vars k=some v):∀ {cs:List (ByteArray × Int)},(∀ c ∈ cs,c.1 ∈ vars)->Eg cs v=cofI vars cs k
 | [],_=>rfl
 | c :: cs,h=>by
  have h1:=Vf (h c (List.mem_cons_self ..))
  rw [Eg,cofI]
  by_cases e:c.1=v
  ·rw [if_pos (by rw [Gj]; simpa using e),if_pos (hd _ _ _ (by rw [<- e]; exact h1) hv)]
  ·rw [if_neg (by rw [Gj]; simpa using e),if_neg (fun e2=>e (by rw [e2,hv] at h1; simpa using h1.symm))]
   exact U6 hd hv fun c' h'=>h c' (List.mem_cons_of_mem _ h')
theorem Ali (r:RowT):((sgI r:Int):Rat)=sgR r:=by
 unfold sgI sgR
 by_cases h:0<r.2.1
 ·rw [if_pos (by omega),if_pos h]; rfl
 ·rw [if_neg (by omega),if_neg h]; rfl
theorem Aah {n:Int} {M:Nat} (r:RowT) (h:n.natAbs<=M):(sgI r*n).natAbs<=M/\(-sgI r*n).natAbs<=M:=by
 unfold sgI; split <;> omega
def H4 (vars:List ByteArray) (m i:Nat) (r:RowT) (j:Nat):Rat :=
 if j<2*vars.length then Nd (sgR r) vars r.1 (fun _=>0) j else if j=2*vars.length+m+i then 1 else if j=2*vars.length+i/\r.2.2=false then sgR r else if j=2*vars.length+m+m then -(sgR r*((r.2.1:Int):Rat)) else 0
section
variable {vars:List ByteArray} {m:Nat}
theorem Ph {i:Nat} {r:RowT} : (Gq vars m i r).length=2*vars.length+m+m+1:=by
 unfold Gq
 simp only [List.length_append,Pi,List.length_map,List.length_range,List.length_singleton]
 omega
theorem Ml {M:Nat} {i:Nat} {r:RowT} (hs:Kg M r) {q:Q} (h:q ∈ Gq vars m i r):∃ n:Int,q=iQ n/\n.natAbs<=M:=by
 have h1:=hs.one
 unfold Gq at h
 rw [List.mem_append,List.mem_append] at h
 rcases h with (h|h)|h
 ·have hc:∀ v,(Eg r.1 v).natAbs<=M:=fun v=>by
   rcases Xe (v:=v) (cs:=r.1) with e|⟨c,h1,h2⟩
   ·rw [e]; simp
   ·rw [<- h2]; exact hs.cof c h1
  obtain ⟨v,h|h⟩:=Qy h
  ·exact ⟨_,h,(Aah r (hc v)).1⟩
  ·exact ⟨_,h,(Aah r (hc v)).2⟩
 ·obtain ⟨k,-,rfl⟩:=List.mem_map.1 h
  refine ⟨_,rfl,?_⟩
  unfold Vh sgI
  split
  ·simpa using h1
  ·split
   ·split <;> simpa using h1
   ·simp
 ·rw [List.mem_singleton.1 h]
  exact ⟨_,rfl,(Aah r (n:=-r.2.1) (by have:=hs.con; omega)).1⟩
theorem Ab7 (hd:Dist vars) {i:Nat} (hi:i<m) {r:RowT} (hr:M9 vars r) {j:Nat} (hj:j<2*vars.length+m+m+1):qv (at_ q0 (Gq vars m i r) j)=H4 vars m i r j:=by
 have hl:(Gf (sgI r) r.1 vars++(List.range (2*m)).map (fun k=>iQ (Vh m i r k))).length=2*vars.length+2*m:=by simp [Pi]
 unfold Gq H4
 rw [Al3,hl]
 by_cases h1:j<2*vars.length+2*m
 ·rw [if_pos h1,Al3,Pi]
  by_cases h2:j<2*vars.length
  ·rw [if_pos h2,if_pos h2]
   rcases Nat.mod_two_eq_zero_or_one j with h|h
   ·obtain ⟨k,rfl⟩:∃ k,j=2*k:=⟨j / 2,by omega⟩
    have hk:k<vars.length:=by omega
    have hc:=U6 hd (Afw (d:=⟨#[]⟩) hk) hr.mem
    rw [(Vi hk).1,(L5 hr.dis _).1,iQ_v,hc,Rat.intCast_mul,Ali]
   ·obtain ⟨k,rfl⟩:∃ k,j=2*k+1:=⟨j / 2,by omega⟩
    have hk:k<vars.length:=by omega
    have hc:=U6 hd (Afw (d:=⟨#[]⟩) hk) hr.mem
    rw [(Vi hk).2,(L5 hr.dis _).2,iQ_v,hc,Rat.intCast_mul,Rat.intCast_neg,Ali]
    grind
  ·rw [if_neg h2,if_neg h2,Aba,if_pos (by omega),iQ_v]
   unfold Vh
   by_cases h3:j=2*vars.length+m+i
   ·rw [if_pos (by omega),if_pos h3]; rfl
   ·rw [if_neg (by omega),if_neg h3]
    by_cases h4:j=2*vars.length+i/\r.2.2=false
    ·rw [if_pos ⟨by omega,h4.2⟩,if_pos h4]; exact Ali r
    ·rw [if_neg (fun h=>h4 ⟨by omega,h.2⟩),if_neg h4,if_neg (by omega)]; rfl
 ·rw [if_neg h1,if_neg (by omega),if_neg (by omega),if_neg (fun h=>by omega),if_pos (by omega)]
  have:j - (2*vars.length+2*m)=0:=by omega
  rw [this,Afz,iQ_v,Rat.intCast_mul,Rat.intCast_neg,Ali]
  grind
theorem Mm:∀ {l:List RowT} {i:Nat},(linesR vars m i l).length=l.length
 | [],_=>rfl
 | r :: l,i=>by simp only [linesR,List.length_cons,Mm]
theorem Yb:∀ {l:List RowT} {i k:Nat},k<l.length->at_ [] (linesR vars m i l) k=Gq vars m (i+k) (rwA l k)
 | [],_,_,h=>by simp at h
 | r :: l,i,0,_=>rfl
 | r :: l,i,k+1,h=>by
  have:=Yb (l:=l) (i:=i+1) (k:=k) (by simpa using h)
  rw [show i+1+k=i+(k+1) by omega] at this
  exact this
theorem Kt {q:List Q} : ∀ {l:List RowT} {i:Nat},q ∈ linesR vars m i l->∃ r ∈ l,∃ k,q=Gq vars m k r
 | [],_,h=>by cases h
 | r :: l,i,h=>by
  simp only [linesR,List.mem_cons] at h
  rcases h with h|h
  ·exact ⟨r,List.mem_cons_self ..,i,h⟩
  ·obtain ⟨r',h1,k,h2⟩:=Kt h
   exact ⟨r',List.mem_cons_of_mem _ h1,k,h2⟩
theorem Abg {M k:Nat} : ∀ {rows:List (List Q)} {w:Int},(∀ r ∈ rows,∃ z:Int,at_ q0 r k=iQ z/\z.natAbs<=M)->w.natAbs+rows.length*M<=4000000000000000000->∃ v:Int,colR k rows (iQ w)=iQ v/\v.natAbs<=w.natAbs+rows.length*M/\((v:Int):Rat)=((w:Int):Rat) - Simp.sum rows.length fun i=>qv (at_ q0 (at_ [] rows i) k)
 | [],w,_,_=>⟨w,rfl,by simp,by show _=_ - (0:Rat); grind⟩
 | r :: l,w,h,hb=>by
  obtain ⟨z,e,hz⟩:=h r (List.mem_cons_self ..)
  have mh:w.natAbs+(l.length*M+M)<=4000000000000000000:=by rw [List.length_cons,Nat.succ_mul] at hb; exact hb
  obtain ⟨v,e1,e2,e3⟩:=Abg (k:=k) (rows:=l) (w:=w - z) (fun r' h'=>h r' (List.mem_cons_of_mem _ h')) (by omega)
  refine ⟨v,?_,by rw [List.length_cons,Nat.succ_mul]; omega,?_⟩
  ·rw [colR,e,Akr (by unfold i64; omega)]; exact e1
  ·rw [e3,List.length_cons,Simp.sum_head,Afz,e,iQ_v,Rat.intCast_sub]
   simp only [Am9]
   grind
end
section
variable {vars:List ByteArray} {l:List RowT}
theorem Af1 (hd:Dist vars) (hm:l.length<=13) (hr:∀ r ∈ l,M9 vars r/\Kg 1000000000000 r) :
  TOk gW l.length (2*vars.length+l.length+l.length) (D0 l vars)/\Ints l.length (2*vars.length+l.length+l.length) 1000000000000 (l.length*1000000000000) (tabV (D0 l vars)) /\
  Agree l.length (2*vars.length+l.length+l.length) (tabV (D0 l vars)) (Simp.first l.length (2*vars.length+l.length) (fun i=>H4 vars l.length i (rwA l i)) fun i=>H4 vars l.length i (rwA l i) (2*vars.length+l.length+l.length)):=by
 have ho:∀ i,i<l.length->M9 vars (rwA l i)/\Kg 1000000000000 (rwA l i):=fun i hi=>hr _ (Gh (d:=([],0,true)) hi)
 have bf:∀ i,i<l.length->Ei (D0 l vars) i=Gq vars l.length i (rwA l i):=fun i hi=>by
  show at_ [] (linesR vars l.length 0 l) i=_
  rw [Yb hi,Nat.zero_add]
 have hT:∀ i j,i<l.length->j<2*vars.length+l.length+l.length+1->(tabV (D0 l vars)).T i j=H4 vars l.length i (rwA l i) j:=fun i j hi hj=>by
  show qv (at_ q0 (Ei (D0 l vars) i) j)=_
  rw [bf i hi]; exact Ab7 hd hi (ho i hi).1 hj
 have hcell:∀ k,k<2*vars.length+l.length+l.length+1->∀ r ∈ linesR vars l.length 0 l,∃ z:Int,at_ q0 r k=iQ z/\z.natAbs<=1000000000000:=fun k hk r h=>by
  obtain ⟨r',h1,i,rfl⟩:=Kt h
  exact Ml (hr r' h1).2 (Gh (by rw [Ph]; exact hk))
 have ev:∀ k,k<2*vars.length+l.length+l.length+1->∃ v:Int,at_ q0 (D0 l vars).cost k=iQ v/\v.natAbs<=1+l.length*1000000000000/\((v:Int):Rat)=(if 2*vars.length+l.length<=k/\k<2*vars.length+l.length+l.length then 1 else 0) - Simp.sum l.length fun i=>H4 vars l.length i (rwA l i) k:=fun k hk=>by
  have hw:∀ b:Prop,[Decidable b]->(if b then (1:Int) else 0).natAbs<=1:=fun b _=>by split <;> decide
  obtain ⟨v,e1,e2,e3⟩:=Abg (k:=k) (rows:=linesR vars l.length 0 l) (w:=if 2*vars.length+l.length<=k/\k<2*vars.length+l.length+l.length then 1 else 0) (hcell k hk) (by
   rw [Mm]
   have:=hw (2*vars.length+l.length<=k/\k<2*vars.length+l.length+l.length)
   have:=Nat.mul_le_mul_right 1000000000000 hm
   omega)
  rw [Mm] at e2 e3
  refine ⟨v,?_,?_,?_⟩
  ·show at_ q0 ((List.range (2*vars.length+l.length+l.length+1)).map _) k=_
   rw [Aba,if_pos hk]; exact e1
  ·have:=hw (2*vars.length+l.length<=k/\k<2*vars.length+l.length+l.length); omega
  ·rw [e3]
   have e:∀ b:Prop,[Decidable b]->(((if b then (1:Int) else 0):Int):Rat)=if b then 1 else 0:=fun b _=>by split <;> rfl
   rw [e]
   congr 1
   exact Simp.sum_congr fun i hi=>hT i k hi hk
 have hcv:∀ k,k<2*vars.length+l.length+l.length+1->(tabV (D0 l vars)).c k=if k<2*vars.length+l.length then -Simp.sum l.length (fun i=>H4 vars l.length i (rwA l i) k) else if k<2*vars.length+l.length+l.length then 0 else -Simp.sum l.length fun i=>H4 vars l.length i (rwA l i) (2*vars.length+l.length+l.length):=fun k hk=>by
  obtain ⟨v,e1,-,e3⟩:=ev k hk
  show qv (at_ q0 (D0 l vars).cost k)=_
  rw [e1,iQ_v,e3]
  by_cases h1:k<2*vars.length+l.length
  ·rw [if_neg (by omega),if_pos h1]; grind
  ·rw [if_neg h1]
   by_cases h2:k<2*vars.length+l.length+l.length
   ·rw [if_pos ⟨by omega,h2⟩,if_pos h2]
    rw [Simp.sum_congr (g:=fun i=>if i=k - (2*vars.length+l.length) then 1 else 0) fun i hi=>?_,Simp.sum_one (f:=fun _=>(1:Rat)) (by omega)]
    ·grind
    ·unfold H4
     rw [if_neg (by omega)]
     by_cases h3:k=2*vars.length+l.length+i
     ·rw [if_pos h3,if_pos (by omega)]
     ·rw [if_neg h3,if_neg (by omega),if_neg (fun h=>by omega),if_neg (by omega)]
   ·rw [if_neg (fun h=>h2 h.2),if_neg h2,show k=2*vars.length+l.length+l.length by omega]; grind
 refine ⟨⟨Mm,by simp [D0],by simp [D0],fun r h=>?_,fun r h q hq=>?_,fun q h=>?_⟩,⟨fun i j hi hj=>?_,fun j hj=>?_⟩,⟨fun i j hi hj=>?_,fun j hj=>?_,fun i hi=>?_⟩⟩
 ·obtain ⟨r',-,i,rfl⟩:=Kt h
  exact Ph
 ·obtain ⟨r',h1,i,rfl⟩:=Kt h
  obtain ⟨n,rfl,hn⟩:=Ml (hr r' h1).2 hq
  exact iQ_g (by unfold i64; omega)
 ·obtain ⟨k,hk,rfl⟩:=List.mem_map.1 h
  have kw:=List.mem_range.1 hk
  obtain ⟨v,e1,e2,-⟩:=ev k kw
  have e0:at_ q0 (D0 l vars).cost k=Adt (linesR vars l.length 0 l) (2*vars.length+l.length) l.length k:=by
   show at_ q0 ((List.range (2*vars.length+l.length+l.length+1)).map _) k=_
   rw [Aba,if_pos kw]
  have:Adt (linesR vars l.length 0 l) (2*vars.length+l.length) l.length k=iQ v:=by rw [<- e0]; exact e1
  show gW (Adt (linesR vars l.length 0 l) (2*vars.length+l.length) l.length k)
  rw [this]
  exact iQ_g (by have:=Nat.mul_le_mul_right 1000000000000 hm; unfold i64; omega)
 ·obtain ⟨n,e,hn⟩:=Ml (vars:=vars) (m:=l.length) (i:=i) (ho i hi).2 (Gh (d:=q0) (k:=j) (l:=Gq vars l.length i (rwA l i)) (by rw [Ph]; exact hj))
  refine ⟨n,?_,hn⟩
  show qv (at_ q0 (Ei (D0 l vars) i) j)=_
  rw [bf i hi,e,iQ_v]
 ·obtain ⟨v,e1,e2,e3⟩:=ev j hj
  by_cases h1:2*vars.length+l.length<=j/\j<2*vars.length+l.length+l.length
  ·refine ⟨0,?_,by simp⟩
   rw [hcv j hj,if_neg (by omega),if_pos h1.2]; rfl
  ·obtain ⟨w,f1,f2⟩:=Aiw (M:=1000000000000) (n:=l.length) (f:=fun i=>H4 vars l.length i (rwA l i) j) fun i hi=>by
    obtain ⟨n,e,hn⟩:=Ml (vars:=vars) (m:=l.length) (i:=i) (ho i hi).2 (Gh (d:=q0) (k:=j) (l:=Gq vars l.length i (rwA l i)) (by rw [Ph]; exact hj))
    exact ⟨n,by rw [<- Ab7 hd hi (ho i hi).1 hj,e,iQ_v],hn⟩
   refine ⟨-w,?_,by omega⟩
   show qv (at_ q0 (D0 l vars).cost j)=_
   rw [e1,iQ_v,e3,if_neg h1,f1,Rat.intCast_neg]; grind
 ·show _=if j<2*vars.length+l.length then _ else if j<2*vars.length+l.length+l.length then (if j=2*vars.length+l.length+i then 1 else 0) else _
  rw [hT i j hi hj]
  by_cases h1:j<2*vars.length+l.length
  ·rw [if_pos h1]
  ·rw [if_neg h1]
   by_cases h2:j<2*vars.length+l.length+l.length
   ·rw [if_pos h2]
    unfold H4
    rw [if_neg (by omega)]
    by_cases h3:j=2*vars.length+l.length+i
    ·rw [if_pos h3,if_pos h3]
    ·rw [if_neg h3,if_neg h3,if_neg (fun h=>by omega),if_neg (by omega)]
   ·rw [if_neg h2,show j=2*vars.length+l.length+l.length by omega]
 ·exact hcv j hj
 ·show at_ 0 ((List.range l.length).map _) i=_
  rw [Aba,if_pos hi]; rfl
theorem Akf (hr:∀ r ∈ l,M9 vars r):Simp.Cols (sysY vars l) (2*vars.length+l.length) (fun i=>sgR (rwA l i)) (fun i=>2*vars.length+i) (fun i=>H4 vars l.length i (rwA l i)) fun i=>H4 vars l.length i (rwA l i) (2*vars.length+l.length+l.length):=by
 have ho:∀ i,i<l.length->M9 vars (rwA l i):=fun i hi=>hr _ (Gh (d:=([],0,true)) hi)
 refine ⟨fun i hi=>?_,Nat.le_add_right _ _,fun i k hi hk=>?_,fun i k hi hk=>?_,fun i j hi h1 h2=>?_,fun i hi he=>?_,fun i k hi hk h1 h2 h3=>by omega,fun i hi=>?_⟩
 ·unfold sgR; split <;> grind
 ·have kw:k<vars.length:=hk
  unfold H4
  rw [if_pos (by omega)]
  exact (L5 (ho i hi).dis k).1
 ·have kw:k<vars.length:=hk
  unfold H4
  rw [if_pos (by omega)]
  exact (L5 (ho i hi).dis k).2
 ·have jc:2*vars.length<=j:=h1
  have aj:i<l.length:=hi
  unfold H4
  rw [if_neg (by omega),if_neg (by omega)]
  show _=if (rwA l i).2.2=false/\j=2*vars.length+i then _ else 0
  by_cases h:j=2*vars.length+i/\(rwA l i).2.2=false
  ·rw [if_pos h,if_pos (And.intro h.2 h.1)]
  ·have hn:¬ ((rwA l i).2.2=false/\j=2*vars.length+i):=fun h'=>h ⟨h'.2,h'.1⟩
   rw [if_neg h,if_neg (by omega),if_neg hn]
 ·have aj:i<l.length:=hi
  exact ⟨Nat.le_add_right _ _,by omega⟩
 ·have aj:i<l.length:=hi
  unfold H4
  rw [if_neg (by omega),if_neg (by omega),if_neg (fun h=>by omega),if_pos rfl]; rfl
theorem Agv (hd:Dist vars) (hm:l.length<=13) (hr:∀ r ∈ l,M9 vars r/\Kg 1000000000000 r) {K:Nat} (hK:(2*vars.length+l.length+l.length) ^ l.length+1<=K) :
  ∃ b t',K9 (2*vars.length+l.length+l.length) K (D0 l vars)=some (b,t')/\TOk gW l.length (2*vars.length+l.length+l.length) t'/\(Zl t'=true↔∃ v,Sat v l):=by
 have aw:∀ r ∈ l,M9 vars r:=fun r h=>(hr r h).1
 obtain ⟨h1,h2,h3⟩:=Af1 hd hm hr
 have hR:∃ R:Simp.Run l.length (2*vars.length+l.length+l.length) (2*vars.length+l.length+l.length) 0,R.t 0=tabV (D0 l vars) :=
  ⟨Simp.Run.none (h3.fit (Simp.first_fit _ _ _ _)) (Nat.le_refl _) (fun i hi=>by
   rw [h3.T i _ hi (by omega)]
   show 0<=if 2*vars.length+l.length+l.length<2*vars.length+l.length then _ else if 2*vars.length+l.length+l.length<2*vars.length+l.length+l.length then _ else _
   rw [if_neg (by omega),if_neg (by omega)]
   have h:=Yt (vars:=vars) (l:=l) hi
   rw [Aik hi] at h
   unfold rowR at h
   rw [if_pos (by omega)] at h
   show 0<=H4 vars l.length i (rwA l i) (2*vars.length+l.length+l.length)
   unfold H4
   rw [if_neg (by omega),if_neg (by omega),if_neg (fun h=>by omega),if_pos rfl]; exact h),rfl⟩
 obtain ⟨R,h0⟩:=hR
 obtain ⟨b,t',e1,e2,K',R',e3,e4,e5,e6⟩:=Yc (Akn (M:=1000000000000) (Mc:=l.length*1000000000000) (by omega) h2 (Af2 hm rfl)) K R h0 h0 h1 (by omega)
 refine ⟨b,t',e1,e2,?_⟩
 rw [Agu M3 e2,<- Aok aw,<- (Akf aw).solve,<- e4]
 refine Alh R' (by rw [e3]; exact h3) (Nat.le_add_right _ _) ?_
 rw [e4]
 cases b with
 | true=>exact .inl (e5 rfl)
 | false=>exact .inr (e6 rfl)
end
end
section
open Go Tryz
def Zn (r:RowT):Bool:=decide (sgI r<0)
structure Aa1 (l:List RowT) (vars:List ByteArray):Prop where
 hm:l.length<=1000
 hv:vars.length<=1000
 hcl:∀ r ∈ l,r.1.length<=1048576
 hc:∀ r ∈ l,∀ c ∈ r.1,inB c.2=true
 hn:∀ r ∈ l,inB r.2.1=true
structure Aj4 (S:List Ent) (k:Nat) (l:List RowT) (vars:List ByteArray) (SS:List Ent) (tk1:List Nat) (cc:Cap) (q:Nat) (I:TI):Prop where
 hq:q<=l.length
 P:PTab SS I (linesR vars l.length 0 (l.take q)) ((List.range q).map (2*vars.length+l.length+·)) ((l.take q).map Zn) vars l.length (2*vars.length+l.length+l.length+1) cc (.frz [] .nilc)
 it:I.it=S.length
 et:I.et=k
 ir:I.ir=S.length+4
 ib:I.ib=S.length+5
 len:SS.length=S.length+1+(if q=0 then 0 else 3*q+2)
 cap:A9 tk1 cc 1=true
 fr:∀ j,j<S.length->nth SS j=nth S j
 ge:∀ p ∈ I.ids,S.length<=p.1
theorem T4 {n:Int} (h:i64 n):okW (iQ n):=(Ee.whole n h)
section
variable (S:List Ent) (tk:List Nat) (k:Nat)
set_option maxHeartbeats 8000000 in
set_option maxRecDepth 100000 in
theorem Adr (l:List RowT) (vars:List ByteArray) (hR:Aa1 l vars) (Φ:Rs->Prop)
  (fin:∀ SS n1 tk1 cc I T,Aj4 S k l vars SS tk1 cc l.length I->T.length=119->getT T 3=.ref S.length k 0->getT T 56=.int ((2*vars.length+l.length+l.length+1:Nat):Int)->getT T 57=.int ((0:Nat):Int)->Gd finM Φ (KA prog Tryz.f41 9 [] ⟨T,SS,tk1,n1⟩)) (T:List AV)
  (hTl:T.length=119) (t3:getT T 3=.ref S.length k 0) (t15:getT T 15=.frz (l.map rowC) .unk) (t16:getT T 16=.int (l.length:Nat)) (t17:getT T 17=.int ((0:Nat):Int)) :
  Gd finM Φ (KA prog Tryz.f41 3 [] ⟨T,S++[(⟨k,[.frz [] .nilc,.frz [] .nilc,.frz [] .nilc,.frz (vars.map strC) .unk,.frz [] .nilc,.prim (.int .i64 (l.length:Int))]⟩:Ent)],tk,k+1⟩):=by
 obtain ⟨hm,hv,hcl,hc,hn⟩:=hR
 refine Ajh rfl (t:=.mk) ?_
 refine Q0 (P:=prog) (fun x st=>st.T.length=119/\(Aj4 S k l vars x.1 x.2.2.1 x.2.2.2.1 x.2.2.2.2.1 x.2.2.2.2.2)/\getT st.T 3=.ref S.length k 0/\getT st.T 15=.frz (l.map rowC) .unk/\getT st.T 16=.int (l.length:Nat)/\getT st.T 17=.int (x.2.2.2.2.1:Nat)/\st.S=x.1/\st.tk=x.2.2.1/\st.n=x.2.1) (fun x=>l.length - x.2.2.2.2.1) ((S++[(⟨k,[.frz [] .nilc,.frz [] .nilc,.frz [] .nilc,.frz (vars.map strC) .unk,.frz [] .nilc,.prim (.int .i64 (l.length:Int))]⟩:Ent)]),(k+1),tk,Cap.nilc,0,(⟨S.length,k,S.length+4,0,0,0,S.length+5,0,[]⟩:TI)) ?_ ?_
 case refine_2=>exact ⟨(by first|rfl|assumption),⟨Nat.zero_le _,⟨Dr,rfl,rfl,fun h=>absurd rfl h,fun h=>absurd rfl h,fun i p r h=>by simp [nth] at h,fun r h=>by simp [linesR] at h,fun r h=>by simp [linesR] at h,by show S.length≠S.length+4; omega,by show S.length≠S.length+5; omega,by show S.length+4≠S.length+5; omega,fun p h=>by simp at h,⟨by simp,fun p h=>by simp at h⟩,fun i j p q h=>by simp [nth] at h⟩,rfl,rfl,rfl,rfl,by simp,rfl,fun j hj=>Eu hj,fun p h=>by simp at h⟩,(by first|rfl|assumption),(by first|rfl|assumption),(by first|rfl|assumption),(by first|rfl|assumption),(by first|rfl|assumption),(by first|rfl|assumption),(by first|rfl|assumption)⟩
 rintro ⟨SS,n1,tk1,cc,q,I⟩ ⟨T,S',tk',n'⟩ ⟨hl,hI,e3,e15,e16,e17,eS,eT,eN⟩ IH
 simp only at hI e3 e15 e16 e17 eS eT eN
 subst eS eT eN
 obtain ⟨g,hg,hT⟩:=Ap hl
 rw [hg] at e3 e15 e16 e17
 subst hT
 clear hg hl
 have hI0:=hI
 obtain ⟨hq,hP,jm,mf,tq,tu,hL,hcap,fb,c9⟩:=hI
 by_cases jk:q<l.length
 ·have c1:decide ((q:Int)<(l.length:Int))=true:=by simpa using jk
  have hw:IntKind.i64.wrap ((q:Int)+1)=((q+1:Nat):Int):=by rw [Ad (by unfold i64; omega)]; rfl
  obtain ⟨r,hr⟩:=Ab jk
  have ah:nth (l.map rowC) q=some (rowC r):=by rw [Bt,hr]; rfl
  have tv:=Ak hr
  have s7:l.take (q+1)=l.take q++[r]:=by rw [Ac] at hr; rw [List.take_add_one,hr]; rfl
  have hql:(l.take q).length=q:=by simp; omega
  obtain ⟨R,sd⟩:∃ R,R=linesR vars l.length 0 (l.take q):=⟨_,rfl⟩
  obtain ⟨B,se⟩:∃ B,B=(List.range q).map (2*vars.length+l.length+·):=⟨_,rfl⟩
  obtain ⟨F,tw⟩:∃ F,F=(l.take q).map Zn:=⟨_,rfl⟩
  obtain ⟨W,ro⟩:∃ W,W=2*vars.length+l.length+l.length+1:=⟨_,rfl⟩
  have hRl:R.length=q:=by rw [sd,Nm,hql]
  have wg:B.length=q:=by rw [se]; simp
  have hFl:F.length=q:=by rw [tw,List.length_map,hql]
  rw [<- sd,<- se,<- tw,<- ro] at hP
  have aq:=hP.top
  rw [jm,mf,hRl,wg] at aq
  obtain ⟨thd,ew⟩:∃ x,x=shd I.ir I.er q:=⟨_,rfl⟩
  obtain ⟨bhd,gc⟩:∃ x,x=shd I.ib I.eb q:=⟨_,rfl⟩
  rw [<- ew,<- gc] at aq
  have hb1:CkF (isB thd):=⟨by rw [ew]; cases q <;> rfl⟩
  have hb2:CkF (isB bhd):=⟨by rw [gc]; cases q <;> rfl⟩
  obtain ⟨S1,gx⟩:∃ X,X=S'++[(⟨n',rowC r⟩:Ent)]:=⟨_,rfl⟩
  have a0e:S1.length=S'.length+1:=by rw [gx]; simp
  have ey:entAt S1 S.length k=some [thd,bhd,.frz [] .nilc,.frz (vars.map strC) .unk,.frz (F.map Hm) cc,.prim (.int .i64 (l.length:Int))]:=by rw [gx]; exact A2 aq
  have p6:entAt S1 S'.length n'=some (rowC r):=by rw [gx]; exact Dr
  obtain ⟨o,hcall,S2,k2,ep,rfl,hl2,db,wh,he2⟩:=Ajm S1 tk' (n'+1) S.length k thd bhd (.frz [] .nilc) vars l.length F cc q r ⟨by omega,hcap,by omega,jk,by omega,by omega,hcl r tv,hc r tv,hn r tv⟩ ey
  have hWr:(Gq vars l.length q r).length=W:=by unfold Gq; simp only [List.length_append,Qx,List.length_map,List.length_range,List.length_singleton]; omega
  rw [hWr] at hcall
  simp only [intA] at wh
  have fw:S1.length<=S2.length:=by omega
  have z8:ldA prog 93 (.ref S.length k 0) S2=some thd:=by
   simp (disch:=try exact dqd) only [evs1,wh]
  have hra:=fun {all T X} (h1:loadsB all (some 30)=[(93,.tmp 25,some 26,true)]) (h2:X.length<=S2.length) (h3:decide (26<T.length)=true) (h4:getT T 25=.ref S.length k 0) (h5:getT T 26=thd)=>Ap9 (P:=prog) (S:=X) h1 h2 h3 h4 h5 z8
  obtain ⟨flp,gz⟩:∃ x,x=AV.frz ((F++[decide (sgI r<0)]).map Hm) (Bp tk' cc 1):=⟨_,rfl⟩
  rw [<- gz] at wh
  have g8:S2.length=S'.length+3:=by omega
  have hSlt:S.length<S'.length:=by rw [hL]; omega
  have d9:∀ j,j<S'.length->j≠S.length->nth S2 j=nth S' j:=fun j h1 h2=>by rw [db j (by omega) h2,gx,Eu h1]
  have ba:(I.ids.map (cd W 4)).length=q:=by rw [List.length_map,hP.nids,hRl]
  have cz:∀ {α:Type} {ls:List α},ls.length=q->(ls=[]↔q=0):=fun h=>by rw [<- List.length_eq_zero_iff,h]
  have fg:I.ids.map (cd W 4)=[]->S2.length=I.ir:=fun h=>by
   have:=(cz ba).1 h
   rw [g8,hL,tq,if_pos this]
  have az:I.ids.map (cd W 4)≠[]->entAt S2 I.ir I.er=some (I.ids.map (cd W 4)):=fun h=>by
   have ke:q≠0:=fun e=>h ((cz ba).2 e)
   rw [Ae (d9 I.ir (by rw [hL,tq,if_neg ke]; omega) (by omega))]
   exact hP.rowsE fun e=>ke ((cz hRl).1 e)
  have oi:(B.map intA).length=q:=by rw [List.length_map,wg]
  obtain ⟨S3,j0⟩:∃ X,X=Hf S2 I.ir k2 (I.ids.map (cd W 4)) (cd W 4 (S1.length+1,ep)):=⟨_,rfl⟩
  have sf:∀ t,t=93->apO prog t thd (.lit 1 [.sref (S1.length+1) ep 0 W 4]) S2 k2=some (.sref I.ir k2 0 (q+1) 1,S3,k2+1):=fun t ht=>by
   have:=Afv (P:=prog) (t:=t) (S:=S2) (id:=I.ir) (e:=I.er) (n:=k2) (ls:=I.ids.map (cd W 4)) (x:=cd W 4 (S1.length+1,ep)) (y:=.lit 1 [.sref (S1.length+1) ep 0 W 4]) (by rw [ht]; kernel_rfl) rfl fg az (by omega)
   rw [ba,<- ew,<- j0] at this
   exact this
  have sf:=sf _ rfl
  have fh:S3.length=S2.length+(if q=0 then 1 else 0):=by rw [j0,P5]; simp only [cz ba]
  have g9:∀ j,j<S2.length->j≠I.ir->nth S3 j=nth S2 j:=fun j h1 h2=>by rw [j0,P6 h2 h1]
  have u3:entAt S3 S.length k=some [thd,bhd,.frz [] .nilc,.frz (vars.map strC) .unk,flp,.prim (.int .i64 (l.length:Int))]:=by rw [Ae (g9 _ (by omega) (by omega))]; exact wh
  obtain ⟨S4,xt⟩:∃ X,X=put S3 S.length ⟨k,[.sref I.ir k2 0 (q+1) 1,bhd,.frz [] .nilc,.frz (vars.map strC) .unk,flp,.prim (.int .i64 (l.length:Int))]⟩:=⟨_,rfl⟩
  have wi:S.length<S3.length:=by omega
  have ie:S4.length=S3.length:=by rw [xt,Au]
  have ht4:entAt S4 S.length k=some [.sref I.ir k2 0 (q+1) 1,bhd,.frz [] .nilc,.frz (vars.map strC) .unk,flp,.prim (.int .i64 (l.length:Int))]:=by rw [xt]; exact Am wi
  have ig:∀ j,j≠S.length->nth S4 j=nth S3 j:=fun j h=>by rw [xt,Ah (Ne.symm h)]
  have hre:=fun tk n=>Ly S4 tk n S.length k _ bhd _ flp vars l.length ht4 (by omega) (by omega)
  obtain ⟨bv,hbv⟩:∃ x,x=2*vars.length+l.length+q:=⟨_,rfl⟩
  have hwb:IntKind.i64.wrap (((2*vars.length+l.length:Nat):Int)+(q:Int))=(bv:Int):=by rw [Ad (by unfold i64; omega),hbv]; rfl
  have hK0:B.map intA=[]->S4.length=I.ib:=fun h=>by
   have:=(cz oi).1 h
   rw [ie,fh,g8,hL,tu,if_pos this,if_pos this]
  have hK1:B.map intA≠[]->entAt S4 I.ib I.eb=some (B.map intA):=fun h=>by
   have ke:q≠0:=fun e=>h ((cz oi).2 e)
   rw [Ae (ig I.ib (by omega)),Ae (g9 I.ib (by rw [g8,hL,tu,if_neg ke]; omega) (by omega)),Ae (d9 I.ib (by rw [hL,tu,if_neg ke]; omega) (by omega))]
   exact hP.basisE fun e=>ke ((cz hRl).1 e)
  obtain ⟨S5,xu⟩:∃ X,X=Hf S4 I.ib (k2+1) (B.map intA) (intA bv):=⟨_,rfl⟩
  have si:∀ t,t=45->∀ c,apO prog t bhd (.frz [[.prim (.int .i64 (bv:Int))]] c) S4 (k2+1)=some (.sref I.ib (k2+1) 0 (q+1) 1,S5,k2+1+1):=fun t ht c=>by
   have:=Afv (P:=prog) (t:=t) (S:=S4) (id:=I.ib) (e:=I.eb) (n:=k2+1) (ls:=B.map intA) (x:=intA bv) (y:=.frz [[.prim (.int .i64 (bv:Int))]] c) (by rw [ht]; kernel_rfl) rfl hK0 hK1 (by omega)
   rw [oi,<- gc,<- xu] at this
   exact this
  have si:=si _ rfl
  have sj:S5.length=S4.length+(if q=0 then 1 else 0):=by rw [xu,P5]; simp only [cz oi]
  have ii:∀ j,j<S4.length->j≠I.ib->nth S5 j=nth S4 j:=fun j h1 h2=>by rw [xu,P6 h2 h1]
  have ht5:entAt S5 S.length k=some [.sref I.ir k2 0 (q+1) 1,bhd,.frz [] .nilc,.frz (vars.map strC) .unk,flp,.prim (.int .i64 (l.length:Int))]:=by rw [Ae (ii _ (by omega) (by omega))]; exact ht4
  obtain ⟨S6,xw⟩:∃ X,X=put S5 S.length ⟨k,[.sref I.ir k2 0 (q+1) 1,.sref I.ib (k2+1) 0 (q+1) 1,.frz [] .nilc,.frz (vars.map strC) .unk,flp,.prim (.int .i64 (l.length:Int))]⟩:=⟨_,rfl⟩
  have wj:=gx.symm
  have a0f:=xt.symm
  have a0g:=xw.symm
  simp only [rowC,Aa] at ah hcall wj p6
  simp (maxSteps:=10^6)+contextual(disch:=try exact dqd)only[evgm,simprocAttr,AV.int,AV.bool,AV.str,results41,e3,e15,e16,e17,c1,ah,jk,hw,wj,p6,ey,hb1,hb2,hcall,fw,hra,wh,Aky,sf,u3,a0f,ht4,hre,gO_refl,hwb,si,ht5,a0g,xfs]
  have e1:linesR vars l.length 0 (l.take (q+1))=R++[Gq vars l.length q r]:=by rw [s7,Qz,hql,Nat.zero_add,<- sd]
  have e2:(List.range (q+1)).map (2*vars.length+l.length+·)=B++[bv]:=by rw [List.range_succ,List.map_append,<- se,hbv]; rfl
  have e3:(l.take (q+1)).map Zn=F++[Zn r]:=by rw [s7,List.map_append,<- tw]; rfl
  have ij:∀ j,j≠S.length->nth S6 j=nth S5 j:=fun j h=>by rw [xw,Ah (Ne.symm h)]
  have hnr:S1.length+1≠S.length/\S1.length+1≠I.ir/\S1.length+1≠I.ib:=by
   rw [tq,tu,a0e,hL]
   split <;> omega
  have sk:S6.length=S5.length:=by rw [xw,Au]
  have hro:okL wF (Gq vars l.length q r):=by
   intro x hx
   unfold Gq at hx
   rw [List.mem_append,List.mem_append] at hx
   have kz : -1000000000000<=r.2.1/\r.2.1<=1000000000000:=by simpa [inB] using hn r tv
   have hsb:sgI r=1\/sgI r=-1:=by unfold sgI; split <;> simp
   rcases hx with (hx|hx)|hx
   ·obtain ⟨v,h|h⟩:=Qy hx
    ·have:=U5 (v:=v) (hc r tv)
     rw [h]; exact T4 (by unfold i64; rcases hsb with e|e <;> rw [e] <;> omega)
    ·have:=U5 (v:=v) (hc r tv)
     rw [h]; exact T4 (by unfold i64; rcases hsb with e|e <;> rw [e] <;> omega)
   ·obtain ⟨a,-,rfl⟩:=List.mem_map.1 hx
    refine T4 ?_
    unfold Vh
    split
    ·unfold i64; omega
    ·split
     ·unfold i64; omega
     ·unfold i64; omega
   ·rw [List.mem_singleton.1 hx]
    exact T4 (by unfold i64; rcases hsb with e|e <;> rw [e] <;> omega)
  have hP2:=hP.add (S':=S6) (cc':=Bp tk' cc 1) (er:=k2) (eb:=k2+1) (id:=S1.length+1) (ep:=ep) (b:=bv) (f:=Zn r) (row:=Gq vars l.length q r)
   (by rw [jm,mf,xw,Am (by omega),hRl,gz]; rfl)
   (by rw [Ae (ij _ (by omega)),Ae (ii _ (by rw [ie,fh,g8,hL,tq]; split <;> omega) (by omega)),Ae (ig _ (by omega)),j0,Tp fg (fun h=>Bd (az h)),List.map_append]; rfl)
   (by rw [Ae (ij _ (by omega)),xu,Tp hK0 (fun h=>Bd (hK1 h)),List.map_append]; rfl)
   (by rw [Ae (ij _ hnr.1),Ae (ii _ (by rw [ie,fh]; omega) hnr.2.2),Ae (ig _ hnr.1),Ae (g9 _ (by omega) hnr.2.1)]; exact he2)
   hWr hro
   (fun p hp=>by
    have h1:=hP.row p hp
    have h2:=hP.lt.2 p hp
    rw [ij _ (by rw [<- jm]; exact h1.1),ii _ (by rw [ie,fh]; omega) h1.2.2,ig _ (by rw [<- jm]; exact h1.1),g9 _ (by omega) h1.2.1,d9 _ h2 (by rw [<- jm]; exact h1.1)])
   (by rw [sk,sj,ie,fh]; omega) ⟨by rw [jm]; exact hnr.1,hnr.2.1,hnr.2.2⟩ (by omega) (by rw [sk,sj,ie,fh]; omega)
  have hN:Aj4 S k l vars S6 (Ep tk' cc) (Bp tk' cc 1) (q+1) { I with er:=k2,eb:=k2+1,ids:=I.ids++[(S1.length+1,ep)] }:=⟨jk,by rw [e1,e2,e3,<- ro]; exact hP2,jm,mf,tq,tu,by rw [sk,sj,ie,fh,g8,hL,if_neg (show ¬ q+1=0 by omega)]; split <;> omega,D2 hcap,fun j hj=>by rw [ij _ (by omega),ii _ (by rw [ie,fh]; omega) (by omega),ig _ (by omega),g9 _ (by omega) (by omega),d9 _ (by omega) (by omega)]; exact fb j hj,fun p hp=>by
   rcases List.mem_append.1 hp with hp|hp
   ·exact c9 p hp
   ·rw [List.mem_singleton.1 hp]; show S.length<=S1.length+1; omega⟩
  exact IH (S6,k2+1+1,Ep tk' cc,Bp tk' cc 1,q+1,{ I with er:=k2,eb:=k2+1,ids:=I.ids++[(S1.length+1,ep)] }) _ (by first|omega|(simp only; omega)) ⟨rfl,hN,by and_intros <;> first|rfl|simp only [getT,List.map_append]⟩
 ·have c1:decide ((q:Int)<(l.length:Int))=false:=by simpa using jk
  have wk:q=l.length:=by omega
  subst wk
  have aq:=hP.top
  rw [jm,mf] at aq
  obtain ⟨thd,ew⟩:∃ x,x=shd I.ir I.er (linesR vars l.length 0 (l.take l.length)).length:=⟨_,rfl⟩
  obtain ⟨bhd,gc⟩:∃ x,x=shd I.ib I.eb ((List.range l.length).map (2*vars.length+l.length+·)).length:=⟨_,rfl⟩
  obtain ⟨flp,gz⟩:∃ x,x=AV.frz (((l.take l.length).map Zn).map Hm) cc:=⟨_,rfl⟩
  rw [<- ew,<- gc,<- gz] at aq
  have hre:=fun tk n=>Ly S' tk n S.length k _ bhd _ flp vars l.length aq (by omega) (by omega)
  have hw1:IntKind.i64.wrap (((2*vars.length+l.length:Nat):Int)+(l.length:Int))=((2*vars.length+l.length+l.length:Nat):Int):=by rw [Ad (by unfold i64; omega)]; rfl
  have hw2:IntKind.i64.wrap (((2*vars.length+l.length+l.length:Nat):Int)+1)=((2*vars.length+l.length+l.length+1:Nat):Int):=by rw [Ad (by unfold i64; omega)]; rfl
  simp (maxSteps:=10^6)+contextual(disch:=try exact dqd)only[evgm,simprocAttr,AV.int,AV.bool,AV.str,results41,e3,e15,e16,e17,c1,aq,hre,gO_refl,hw1,hw2,xfs]
  exact Ahz rfl (fin S' n' tk' cc I _ hI0 rfl rfl rfl rfl)
end
end
end Go.Proofs.YtcandeobhlfkbaaGreat
