/- C1 C2 -/
import Derived.Test.YtcjffhadclngmaaGreatZC16
import Derived.Test.YtcjffhadclngmaaGreatZC18
import Derived.Test.YtcjffhadclngmaaGreatZC20
namespace Go.Proofs.YtcjffhadclngmaaGreat
open Go
def nX:ByteArray:=⟨#[120]⟩
def nY:ByteArray:=⟨#[121]⟩
def lNo:List RowT:=[([(nX,1)],1,false),([(nX,-1)],0,false)]
def lYes:List RowT:=[([(nX,1),(nY,-1)],0,false),([(nY,1)],-5,true)]
def lHalf:List RowT:=[([(nX,2)],-1,true)]
theorem askNo:L9 qF 20 lNo (Dr lNo) false=some (⟨false,[],[(1,1),(1,1)],none⟩,true):=by kernel_rfl
theorem Ag2:L9 qF 20 lYes (Dr lYes) false=some (⟨true,[(5,1),(5,1)],[],none⟩,true):=by kernel_rfl
theorem Afs:L9 qF 20 lHalf (Dr lHalf) false=some (⟨true,[(1,2)],[],none⟩,true):=by kernel_rfl
theorem askL1:N6 qF 20 lYes (Dr (Jl lYes [(nX,-1)] 0)) false [(nX,-1)] 0=some (⟨true,[(5,1),(5,1)],[],some ((-5,1),true)⟩,true):=by kernel_rfl
theorem askL2:N6 qF 20 lYes (Dr (Jl lYes [(nX,1)] 0)) false [(nX,1)] 0=some (⟨true,[(5,1),(5,1)],[],some ((0,1),false)⟩,true):=by kernel_rfl
theorem Aej:sysE lNo=0:=by kernel_rfl
theorem Ny:sysE lYes=0:=by kernel_rfl
theorem Yn:sysE lHalf=0:=by kernel_rfl
theorem Aex:Dr lYes=[nX,nY]:=by kernel_rfl
theorem Af9:Eo [(nX,-1)] 0=0:=by kernel_rfl
theorem Ags:Eo [(nX,1)] 0=0:=by kernel_rfl
theorem Agc:∀ r ∈ lNo,r.1.length≤1048576:=fun r hr=>by
 simp only [lNo,List.mem_cons,List.not_mem_nil,or_false] at hr
 rcases hr with rfl|rfl <;> decide
theorem Aa8:∀ r ∈ lYes,r.1.length≤1048576:=fun r hr=>by
 simp only [lYes,List.mem_cons,List.not_mem_nil,or_false] at hr
 rcases hr with rfl|rfl <;> decide
theorem Ae2:∀ r ∈ lHalf,r.1.length≤1048576:=fun r hr=>by
 simp only [lHalf,List.mem_cons,List.not_mem_nil,or_false] at hr
 subst hr; decide
theorem inNo:∀ r ∈ lNo,i64 r.2.1∧∀ c ∈ r.1,i64 c.2:=fun r hr=>by
 simp only [lNo,List.mem_cons,List.not_mem_nil,or_false] at hr
 rcases hr with rfl|rfl <;> simp [i64]
theorem Afh:∀ r ∈ lYes,i64 r.2.1∧∀ c ∈ r.1,i64 c.2:=fun r hr=>by
 simp only [lYes,List.mem_cons,List.not_mem_nil,or_false] at hr
 rcases hr with rfl|rfl <;> simp [i64]
theorem Ag0:∀ r ∈ lHalf,i64 r.2.1∧∀ c ∈ r.1,i64 c.2:=fun r hr=>by
 simp only [lHalf,List.mem_cons,List.not_mem_nil,or_false] at hr
 subst hr; simp [i64]
theorem Aap {l:List RowT} {a:Ans} {K:Nat} (h0:sysE l=0) (hi:∀ r ∈ l,i64 r.2.1∧∀ c ∈ r.1,i64 c.2) (h:L9 qF K l (Dr l) false=some (a,true)) (ha:a.least=none):Vd l a:=by
 obtain ⟨h1,h2,h3,-⟩:=Hp h0
 exact fun S tk k=>R3 S tk k l (by omega) (by omega) (Dr l) (by omega) Qt hi h1 K a h ha
theorem Wl {l:List RowT} {cs:List (ByteArray × Int)} {nn:Int} {a:Ans} {K:Nat} (h0:sysE l=0) (h1:Eo cs nn=0) (hi:∀ r ∈ l,i64 r.2.1∧∀ c ∈ r.1,i64 c.2) (hcc:∀ c ∈ cs,i64 c.2) (hnn:i64 nn) (h:N6 qF K l (Dr (Jl l cs nn)) false cs nn=some (a,true)):Y2 l cs nn a:=by
 have hcl:=K9 h1
 obtain ⟨f1,f2,f3,-⟩:=Hp h0
 have hvl:=Ye h0 h1
 exact Afw fun tk k=>Qk (SL cs nn) tk k cs nn 0 0 rfl hcc hnn hcl l (by omega) (by omega) (Dr (Jl l cs nn)) (by omega) Th.2 Th.1 hi f1 K a h
theorem Acm (s:ByteArray):sEq s s=true:=by rw [P8]; simp
section
variable (S:List Ent) (tk:List Nat) (k:Nat)
theorem Wk (l:List ByteArray) (hl:l.length≤1000000):cL Tryz.prog 9 [A8 l,A8 l] S tk k=some (.bool true,S,tk,k):=by
 refine A9 Tryz.func9 rfl rfl (by decide +kernel) (by decide +kernel) Tryz.ntmps9 rfl rfl _ _ _ (rfl) ?_; rw [Bs]
 have d0:(((l.length:Nat):Int) != (l.length:Int))=false:=by simp
 simp (maxSteps:=1000000) +contextual (disch:=first|with_reducible assumption|exact ⟨rfl⟩|exact ⟨rfl,rfl⟩|exact ⟨rfl,rfl,rfl⟩|(refine _root_.id ?_; kernel_rfl)|omega) only [evs,Ad,nth,put,putT,getT,Ai,Aj,Ab,aUn,outA,resA,mapO,Aq,Ar,w1,w2,w3,bots,cond_true,cond_false,if_true,if_false,ite_true,ite_false,reduceIte,reduceCtorEq,implies_true,Nat.reduceAdd,Nat.reduceSub,AV.int,AV.bool,AV.str,Nat.reduceBEq,Nat.reduceEqDiff,Nat.reduceMul,Nat.reduceLT,Nat.reduceLeDiff,Int.reduceNeg,BEq.rfl,beq_self_eq_true,tabl,cellsOf,fldA,ldA,stA,Ak,Ao,Am,over,Ag,Value.oneCell',idxA,nilA,Aa,Ap,Ah,pure1,pure2,reps,chkA,tys,Tryz.results9,evt,Av,Au,Al,A8,d0]
 refine loop1 (P:=Tryz.prog) (fun x st=>st.T.length=26∧(x≤l.length)∧getT st.T 0=.frz (l.map strC) .unk∧getT st.T 1=.frz (l.map strC) .unk∧getT st.T 12=.int (l.length:Nat)∧getT st.T 13=.int (x:Nat)∧st.S=[]) (fun x=>l.length - x) (fun x=>.bool true) (0) ?_ ?_
 case refine_2=>exact ⟨rfl,Nat.zero_le _,rfl,rfl,rfl,rfl,rfl⟩
 rintro i ⟨T,S',tk',n'⟩ ⟨hl,hi,e0,e1,e12,e13,eS⟩ IH
 subst eS
 obtain ⟨g,hg,hT⟩:=Bp hl
 rw [hg] at e0 e1 e12 e13
 subst hT
 clear hg hl
 have hiw:=D7 (i:=i) (by omega)
 by_cases la:i<l.length
 ·have d1:decide ((i:Int)<(l.length:Int))=true:=by simpa using la
  obtain ⟨x,hx⟩:=A6 la
  have hx':nth (l.map strC) i=some (strC x):=by rw [E2,hx]; rfl
  have hq:=Acm x
  simp (maxSteps:=1000000) +contextual (disch:=first|with_reducible assumption|exact ⟨rfl⟩|exact ⟨rfl,rfl⟩|exact ⟨rfl,rfl,rfl⟩|(refine _root_.id ?_; kernel_rfl)|omega) only [evs,Ad,nth,put,putT,getT,Ai,Aj,Ab,aUn,outA,resA,mapO,Aq,Ar,w1,w2,w3,bots,cond_true,cond_false,if_true,if_false,ite_true,ite_false,reduceIte,reduceCtorEq,implies_true,Nat.reduceAdd,Nat.reduceSub,AV.int,AV.bool,AV.str,Nat.reduceBEq,Nat.reduceEqDiff,Nat.reduceMul,Nat.reduceLT,Nat.reduceLeDiff,Int.reduceNeg,BEq.rfl,beq_self_eq_true,tabl,cellsOf,fldA,ldA,stA,Ak,Ao,Am,over,Ag,Value.oneCell',idxA,nilA,Aa,Ap,Ah,pure1,pure2,reps,chkA,tys,Tryz.results9,evt,Av,Au,Al,e0,e1,e12,e13,d1,hx',hiw,strC,hq]
  exact IH (i+1) _ (by first|omega|(simp only; omega)) ⟨rfl,by first|omega|(dsimp only; omega),(by first|rfl|simp only [getT,List.map_append,List.map_cons,List.map_nil,and_self]),(by first|rfl|simp only [getT,List.map_append,List.map_cons,List.map_nil,and_self]),(by first|rfl|simp only [getT,List.map_append,List.map_cons,List.map_nil,and_self]),(by first|rfl|simp only [getT,List.map_append,List.map_cons,List.map_nil,and_self]),(by first|rfl|simp only [getT,List.map_append,List.map_cons,List.map_nil,and_self])⟩
 ·have d1:decide ((i:Int)<(l.length:Int))=false:=by simpa using la
  simp (maxSteps:=1000000) +contextual (disch:=first|with_reducible assumption|exact ⟨rfl⟩|exact ⟨rfl,rfl⟩|exact ⟨rfl,rfl,rfl⟩|(refine _root_.id ?_; kernel_rfl)|omega) only [evs,Ad,nth,put,putT,getT,Ai,Aj,Ab,aUn,outA,resA,mapO,Aq,Ar,w1,w2,w3,bots,cond_true,cond_false,if_true,if_false,ite_true,ite_false,reduceIte,reduceCtorEq,implies_true,Nat.reduceAdd,Nat.reduceSub,AV.int,AV.bool,AV.str,Nat.reduceBEq,Nat.reduceEqDiff,Nat.reduceMul,Nat.reduceLT,Nat.reduceLeDiff,Int.reduceNeg,BEq.rfl,beq_self_eq_true,tabl,cellsOf,fldA,ldA,stA,Ak,Ao,Am,over,Ag,Value.oneCell',idxA,nilA,Aa,Ap,Ah,pure1,pure2,reps,chkA,tys,Tryz.results9,evt,Av,Au,Al,e0,e1,e12,e13,d1]
set_option maxRecDepth 100000 in
theorem My (x c:Int) (eq:Bool) (hx:(x != 0)=true):cL Tryz.prog 20 [.int x,.int 0,.int c,.bool eq] S tk k=some (.agg (rowC ([(nX,x)],c,eq)),S,tk,k):=by
 refine A9 Tryz.func20 rfl rfl (by decide +kernel) (by decide +kernel) Tryz.ntmps20 rfl rfl _ _ _ (rfl) ?_; rw [Bs]
 have hA:=fun (a b:AV)=>apB_one (tk:=[]) (c:=.nilc) (es:=[]) (y:=[a,b]) (sz:=2) rfl rfl rfl (by decide)
 simp (maxSteps:=1000000) +contextual (disch:=first|with_reducible assumption|exact ⟨rfl⟩|exact ⟨rfl,rfl⟩|exact ⟨rfl,rfl,rfl⟩|(refine _root_.id ?_; kernel_rfl)|omega) only [evs,Ad,nth,put,putT,getT,Ai,Aj,Ab,aUn,outA,resA,mapO,Aq,Ar,w1,w2,w3,bots,cond_true,cond_false,if_true,if_false,ite_true,ite_false,reduceIte,reduceCtorEq,implies_true,Nat.reduceAdd,Nat.reduceSub,AV.int,AV.bool,AV.str,Nat.reduceBEq,Nat.reduceEqDiff,Nat.reduceMul,Nat.reduceLT,Nat.reduceLeDiff,Int.reduceNeg,BEq.rfl,beq_self_eq_true,tabl,cellsOf,fldA,ldA,stA,Ak,Ao,Am,over,Ag,Value.oneCell',idxA,nilA,Aa,Ap,Ah,pure1,pure2,reps,chkA,tys,Tryz.results20,evt,Av,Au,Al,hx,bne_self_eq_false,hA]
 rfl
set_option maxRecDepth 100000 in
theorem Ab5 (x y c:Int) (eq:Bool) (hx:(x != 0)=true) (hy:(y != 0)=true):cL Tryz.prog 20 [.int x,.int y,.int c,.bool eq] S tk k=some (.agg (rowC ([(nX,x),(nY,y)],c,eq)),S,tk,k):=by
 refine A9 Tryz.func20 rfl rfl (by decide +kernel) (by decide +kernel) Tryz.ntmps20 rfl rfl _ _ _ (rfl) ?_; rw [Bs]
 have hA:=fun (a b:AV)=>apB_one (tk:=[]) (c:=.nilc) (es:=[]) (y:=[a,b]) (sz:=2) rfl rfl rfl (by decide)
 have hA2:=fun (a b c d:AV)=>apB_one (tk:=Hi [] .nilc) (c:=D3 [] .nilc 2) (es:=[[a,b]]) (y:=[c,d]) (sz:=2) rfl rfl rfl (by simp)
 simp (maxSteps:=1000000) +contextual (disch:=first|with_reducible assumption|exact ⟨rfl⟩|exact ⟨rfl,rfl⟩|exact ⟨rfl,rfl,rfl⟩|(refine _root_.id ?_; kernel_rfl)|omega) only [evs,Ad,nth,put,putT,getT,Ai,Aj,Ab,aUn,outA,resA,mapO,Aq,Ar,w1,w2,w3,bots,cond_true,cond_false,if_true,if_false,ite_true,ite_false,reduceIte,reduceCtorEq,implies_true,Nat.reduceAdd,Nat.reduceSub,AV.int,AV.bool,AV.str,Nat.reduceBEq,Nat.reduceEqDiff,Nat.reduceMul,Nat.reduceLT,Nat.reduceLeDiff,Int.reduceNeg,BEq.rfl,beq_self_eq_true,tabl,cellsOf,fldA,ldA,stA,Ak,Ao,Am,over,Ag,Value.oneCell',idxA,nilA,Aa,Ap,Ah,pure1,pure2,reps,chkA,tys,Tryz.results20,evt,Av,Au,Al,hx,hy,hA,hA2,List.nil_append,List.singleton_append]
 rfl
set_option maxRecDepth 100000 in
theorem Aco (y c:Int) (eq:Bool) (hy:(y != 0)=true):cL Tryz.prog 20 [.int 0,.int y,.int c,.bool eq] S tk k=some (.agg (rowC ([(nY,y)],c,eq)),S,tk,k):=by
 refine A9 Tryz.func20 rfl rfl (by decide +kernel) (by decide +kernel) Tryz.ntmps20 rfl rfl _ _ _ (rfl) ?_; rw [Bs]
 have hA:=fun (a b:AV)=>apB_one (tk:=[]) (c:=.nilc) (es:=[]) (y:=[a,b]) (sz:=2) rfl rfl rfl (by decide)
 simp (maxSteps:=1000000) +contextual (disch:=first|with_reducible assumption|exact ⟨rfl⟩|exact ⟨rfl,rfl⟩|exact ⟨rfl,rfl,rfl⟩|(refine _root_.id ?_; kernel_rfl)|omega) only [evs,Ad,nth,put,putT,getT,Ai,Aj,Ab,aUn,outA,resA,mapO,Aq,Ar,w1,w2,w3,bots,cond_true,cond_false,if_true,if_false,ite_true,ite_false,reduceIte,reduceCtorEq,implies_true,Nat.reduceAdd,Nat.reduceSub,AV.int,AV.bool,AV.str,Nat.reduceBEq,Nat.reduceEqDiff,Nat.reduceMul,Nat.reduceLT,Nat.reduceLeDiff,Int.reduceNeg,BEq.rfl,beq_self_eq_true,tabl,cellsOf,fldA,ldA,stA,Ak,Ao,Am,over,Ag,Value.oneCell',idxA,nilA,Aa,Ap,Ah,pure1,pure2,reps,chkA,tys,Tryz.results20,evt,Av,Au,Al,hy,bne_self_eq_false,hA]
 rfl
end
section
variable {S:List Ent} {tk:List Nat} {k:Nat} {A B:List (List AV)}
theorem Ad5:cL Tryz.prog 13 [.frz A .tight] S tk k=cL Tryz.prog 13 [.frz A .unk] S tk k:=Ux rfl rfl rfl
theorem Agt:cL Tryz.prog 21 [.frz A .tight] S tk k=cL Tryz.prog 21 [.frz A .unk] S tk k:=Ux rfl rfl rfl
theorem Agf:cL Tryz.prog 22 [.frz A .tight] S tk k=cL Tryz.prog 22 [.frz A .unk] S tk k:=Ux rfl rfl rfl
theorem Ads {n:Int} : cL Tryz.prog 15 [.frz A .tight,.agg [.frz B .unk,.prim (.int .i64 n)]] S tk k=cL Tryz.prog 15 [.frz A .unk,.agg [.frz B .unk,.prim (.int .i64 n)]] S tk k:=Ux rfl rfl rfl
theorem Agu:cL Tryz.prog 10 [.frz A .tight] S tk k=cL Tryz.prog 10 [.frz A .unk] S tk k:=Ux rfl rfl rfl
theorem Aey:cL Tryz.prog 9 [.frz A .unk,.frz B .tight] S tk k=cL Tryz.prog 9 [.frz A .unk,.frz B .unk] S tk k:=Ux rfl rfl rfl
end
section
variable (S:List Ent) (tk:List Nat) (k:Nat)
set_option maxRecDepth 100000 in
set_option maxHeartbeats 4000000 in
theorem Zl:cL Tryz.prog 6 [] S tk k=some (.bool true,S,tk,k):=by
 have hR1:=fun S tk k=>My S tk k 1 1 false rfl
 have hR2:=fun S tk k=>My S tk k (-1) 0 false rfl
 have hR3:=fun S tk k=>Ab5 S tk k 1 (-1) 0 false rfl rfl
 have hR4:=fun S tk k=>Aco S tk k 1 (-5) true rfl
 have hR5:=fun S tk k=>My S tk k 2 (-1) true rfl
 have hR6:=fun S tk k=>My S tk k 1 0 false rfl
 have e1:Bh lNo=.frz [rowC ([(nX,1)],1,false),rowC ([(nX,-1)],0,false)] .unk:=rfl
 have e2:Bh lYes=.frz [rowC ([(nX,1),(nY,-1)],0,false),rowC ([(nY,1)],-5,true)] .unk:=rfl
 have e3:Bh lHalf=.frz [rowC ([(nX,2)],-1,true)] .unk:=rfl
 have iNo:=Aap Aej inNo askNo rfl
 have iYes:=Aap Ny Afh Ag2 rfl
 have iHalf:=Aap Yn Ag0 Afs rfl
 have hF1:=fun S tk k=>H2 S tk k lNo Agc _ (fun _=>iNo)
 have hF2:=fun S tk k=>H2 S tk k lYes Aa8 _ (fun _=>iYes)
 have hM:=fun S tk k=>N1 S tk k lNo Agc _ Aej iNo _ (fun S tk k=>zInts S tk k)
 have hP:=fun S tk k=>Pb S tk k lHalf Ae2 _ Yn iHalf
 have hL1:=fun S tk k=>Kk S tk k lYes Aa8 (by decide) [(nX,-1)] 0 _ Ny Af9 (Wl Ny Af9 Afh (by simp [i64]) (by simp [i64]) askL1)
 have hL2:=fun S tk k=>Kk S tk k lYes Aa8 (by decide) [(nX,1)] 0 _ Ny Ags (Wl Ny Ags Afh (by simp [i64]) (by simp [i64]) askL2)
 have hV:=fun S tk k=>Mh S tk k lYes Ny
 have hSm:=fun S tk k=>Wk S tk k [nX,nY] (by simp)
 have hO1:=fun S tk k=>Ac7 S tk k
 have hO2:=fun S tk k=>Acf S tk k
 have hBC:=fun S tk k=>Acb S tk k
 have hQ:=fun S tk k=>Aff S tk k
 have hI:=fun S tk k=>Abt S tk k
 have hK1:=fun S tk k=>Aao S tk k
 have hK2:=fun S tk k=>Aad S tk k
 rw [e1,Aej,if_pos rfl] at hF1
 rw [e2,Ny,if_pos rfl] at hF2
 rw [e1,if_neg Bool.false_ne_true] at hM
 rw [e3] at hP
 rw [e2] at hL1 hL2 hV
 rw [Aex] at hV
 simp only [leaA,if_true] at hL1 hL2
 have gF1:=fun S tk k=>(Ad5 (S:=S) (tk:=tk) (k:=k)).trans (hF1 S tk k)
 have gF2:=fun S tk k=>(Ad5 (S:=S) (tk:=tk) (k:=k)).trans (hF2 S tk k)
 have gM:=fun S tk k=>(Agt (S:=S) (tk:=tk) (k:=k)).trans (hM S tk k)
 have gP:=fun S tk k=>(Agf (S:=S) (tk:=tk) (k:=k)).trans (hP S tk k)
 have gL1:=fun S tk k=>(Ads (S:=S) (tk:=tk) (k:=k)).trans (hL1 S tk k)
 have gL2:=fun S tk k=>(Ads (S:=S) (tk:=tk) (k:=k)).trans (hL2 S tk k)
 have gV:=fun S tk k=>(Agu (S:=S) (tk:=tk) (k:=k)).trans (hV S tk k)
 have gS:=fun S tk k=>(Aey (S:=S) (tk:=tk) (k:=k)).trans (hSm S tk k)
 clear hF1 hF2 hM hP hL1 hL2 hV hSm
 simp only [rowC,Bn,zC,ceW,digA,zA,bigA,qA,ratA,linA,List.map_cons,List.map_nil,A8,strC,nX,nY,Gc] at *
 have n2:(((2:Nat):Int) != 2)=false:=rfl
 have n1:(((1:Nat):Int) != 1)=false:=rfl
 have z1:((0:Int) != 0)=false:=rfl
 have i1:intN (AV.prim (.int .i64 1))=some 1:=rfl
 refine A9 Tryz.func6 rfl rfl (by decide +kernel) (by decide +kernel) Tryz.ntmps6 rfl rfl _ _ _ (rfl) ?_; rw [Bs]
 simp (maxSteps:=1000000) +contextual (disch:=first|with_reducible assumption|exact ⟨rfl⟩|exact ⟨rfl,rfl⟩|exact ⟨rfl,rfl,rfl⟩|(refine _root_.id ?_; kernel_rfl)|omega) only [evs,Ad,nth,put,putT,getT,Ai,Aj,Ab,aUn,outA,resA,mapO,Aq,Ar,w1,w2,w3,bots,cond_true,cond_false,if_true,if_false,ite_true,ite_false,reduceIte,reduceCtorEq,implies_true,Nat.reduceAdd,Nat.reduceSub,AV.int,AV.bool,AV.str,Nat.reduceBEq,Nat.reduceEqDiff,Nat.reduceMul,Nat.reduceLT,Nat.reduceLeDiff,Int.reduceNeg,BEq.rfl,beq_self_eq_true,tabl,cellsOf,fldA,ldA,stA,Ak,Ao,Am,over,Ag,Value.oneCell',idxA,nilA,Aa,Ap,Ah,pure1,pure2,reps,chkA,tys,Tryz.results6,evt,Av,Au,Al,hR1,hR2,hR3,hR4,hR5,hR6,gF1,gF2,gM,gP,gL1,gL2,gV,gS,hO1,hO2,hBC,hQ,hI,hK1,hK2,n1,n2,z1,i1]
end
end Go.Proofs.YtcjffhadclngmaaGreat
namespace Go.Proofs.YtcjffhadclngmaaGreat
open Go
section
variable (S:List Ent) (tk:List Nat) (k:Nat)
theorem Mk (l:List RowT) (hl0:∀ r ∈ l,r.1.length≤1048576) (h:sysE l≠0):cL Tryz.prog 10 [Bh l] S tk k=some (A8 [],S,tk,k):=by
 have hC:=fun S tk k=>D9 S tk k l hl0
 have c1:(sysE l != 0)=true:=by simpa using h
 simp only [Bh] at hC
 refine A9 Tryz.func10 rfl rfl (by decide +kernel) (by decide +kernel) Tryz.ntmps10 rfl rfl _ _ _ (rfl) ?_; rw [Bs]
 simp (maxSteps:=1000000) +contextual (disch:=first|with_reducible assumption|exact ⟨rfl⟩|exact ⟨rfl,rfl⟩|exact ⟨rfl,rfl,rfl⟩|(refine _root_.id ?_; kernel_rfl)|omega) only [evs,Ad,nth,put,putT,getT,Ai,Aj,Ab,aUn,outA,resA,mapO,Aq,Ar,w1,w2,w3,bots,cond_true,cond_false,if_true,if_false,ite_true,ite_false,reduceIte,reduceCtorEq,implies_true,Nat.reduceAdd,Nat.reduceSub,AV.int,AV.bool,AV.str,Nat.reduceBEq,Nat.reduceEqDiff,Nat.reduceMul,Nat.reduceLT,Nat.reduceLeDiff,Int.reduceNeg,BEq.rfl,beq_self_eq_true,tabl,cellsOf,fldA,ldA,stA,Ak,Ao,Am,over,Ag,Value.oneCell',idxA,nilA,Aa,Ap,Ah,pure1,pure2,reps,chkA,tys,Tryz.results10,evt,Av,Au,Al,Bh,hC,c1]
 rfl
theorem Rx (l:List RowT) (hl0:∀ r ∈ l,r.1.length≤1048576) (h:sysE l≠0):cL Tryz.prog 11 [Bh l] S tk k=some (A8 [],S,tk,k):=by
 have hC:=fun S tk k=>M1 S tk k l hl0
 have c1:(sysE l != 0)=true:=by simpa using h
 simp only [Bh] at hC
 refine A9 Tryz.func11 rfl rfl (by decide +kernel) (by decide +kernel) Tryz.ntmps11 rfl rfl _ _ _ (rfl) ?_; rw [Bs]
 simp (maxSteps:=1000000) +contextual (disch:=first|with_reducible assumption|exact ⟨rfl⟩|exact ⟨rfl,rfl⟩|exact ⟨rfl,rfl,rfl⟩|(refine _root_.id ?_; kernel_rfl)|omega) only [evs,Ad,nth,put,putT,getT,Ai,Aj,Ab,aUn,outA,resA,mapO,Aq,Ar,w1,w2,w3,bots,cond_true,cond_false,if_true,if_false,ite_true,ite_false,reduceIte,reduceCtorEq,implies_true,Nat.reduceAdd,Nat.reduceSub,AV.int,AV.bool,AV.str,Nat.reduceBEq,Nat.reduceEqDiff,Nat.reduceMul,Nat.reduceLT,Nat.reduceLeDiff,Int.reduceNeg,BEq.rfl,beq_self_eq_true,tabl,cellsOf,fldA,ldA,stA,Ak,Ao,Am,over,Ag,Value.oneCell',idxA,nilA,Aa,Ap,Ah,pure1,pure2,reps,chkA,tys,Tryz.results11,evt,Av,Au,Al,Bh,hC,c1]
 rfl
def Vi (l:List RowT):List ByteArray:=if sysE l=0 then Dr l else []
theorem Aau (l:List RowT):(Vi l).length≤24:=by
 unfold Vi
 split
 ·rename_i h; exact (Hp h).2.2.1
 ·simp
theorem Q5 (l:List RowT) (hl0:∀ r ∈ l,r.1.length≤1048576):cL Tryz.prog 10 [Bh l] S tk k=some (A8 (Vi l),S,tk,k):=by
 unfold Vi
 by_cases h:sysE l=0
 ·rw [if_pos h]; exact Mh S tk k l h
 ·rw [if_neg h]; exact Mk S tk k l hl0 h
theorem Yz (l:List RowT) (hl0:∀ r ∈ l,r.1.length≤1048576):cL Tryz.prog 11 [Bh l] S tk k=some (A8 (Vi l),S,tk,k):=by
 unfold Vi
 by_cases h:sysE l=0
 ·rw [if_pos h]; exact Abu S tk k l h
 ·rw [if_neg h]; exact Rx S tk k l hl0 h
set_option maxRecDepth 100000 in
set_option maxHeartbeats 4000000 in
theorem Lt (l:List RowT) (hl:l.length≤9223372036854775807):cL Tryz.prog 3 [Bh l] S tk k=some (.bool true,S,tk,k):=by
 have hA:=fun S tk k=>Zl S tk k
 refine A9 Tryz.func3 rfl rfl (by decide +kernel) (by decide +kernel) Tryz.ntmps3 rfl rfl _ _ _ (rfl) ?_; rw [Bs]
 simp (maxSteps:=1000000) +contextual (disch:=first|with_reducible assumption|exact ⟨rfl⟩|exact ⟨rfl,rfl⟩|exact ⟨rfl,rfl,rfl⟩|(refine _root_.id ?_; kernel_rfl)|omega) only [evs,Ad,nth,put,putT,getT,Ai,Aj,Ab,aUn,outA,resA,mapO,Aq,Ar,w1,w2,w3,bots,cond_true,cond_false,if_true,if_false,ite_true,ite_false,reduceIte,reduceCtorEq,implies_true,Nat.reduceAdd,Nat.reduceSub,AV.int,AV.bool,AV.str,Nat.reduceBEq,Nat.reduceEqDiff,Nat.reduceMul,Nat.reduceLT,Nat.reduceLeDiff,Int.reduceNeg,BEq.rfl,beq_self_eq_true,tabl,cellsOf,fldA,ldA,stA,Ak,Ao,Am,over,Ag,Value.oneCell',idxA,nilA,Aa,Ap,Ah,pure1,pure2,reps,chkA,tys,Tryz.results3,evt,Av,Au,Al,Bh]
 refine loop1 (P:=Tryz.prog) (fun x st=>st.T.length=37∧(x≤l.length)∧(∀ r ∈ l.take x,r.1.length≤30)∧getT st.T 0=.frz (l.map rowC) .unk∧getT st.T 5=.frz (l.map rowC) .unk∧getT st.T 6=.int (l.length:Nat)∧getT st.T 7=.int (x:Nat)∧st.S=[]) (fun x=>l.length - x) (fun x=>.bool true) (0) ?_ ?_
 case refine_2=>exact ⟨rfl,Nat.zero_le _,fun r h=>by simp at h,rfl,rfl,rfl,rfl,rfl⟩
 rintro i ⟨T,S',tk',n'⟩ ⟨hl,hi,hs,e0,e5,e6,e7,eS⟩ IH
 subst eS
 obtain ⟨g,hg,hT⟩:=Bp hl
 rw [hg] at e0 e5 e6 e7
 subst hT
 clear hg hl
 by_cases la:i<l.length
 ·have hiw:IntKind.i64.wrap ((i:Int)+1)=((i+1:Nat):Int):=by rw [A0 (by unfold i64; omega)]; rfl
  have d1:decide ((i:Int)<(l.length:Int))=true:=by simpa using la
  obtain ⟨r,hx⟩:=A6 la
  have hx':=Ks hx
  simp only [rowC,Bn] at hx'
  by_cases hr:r.1.length≤30
  ·have hs2:∀ r ∈ l.take (i+1),r.1.length≤30:=fun r' h=>by
    rw [Gp hx,List.mem_append] at h
    rcases h with h|h
    ·exact hs r' h
    ·rw [List.mem_singleton.1 h]; exact hr
   have d2:decide (((r.1.length:Nat):Int) > 30)=false:=by simp; omega
   simp (maxSteps:=1000000) +contextual (disch:=first|with_reducible assumption|exact ⟨rfl⟩|exact ⟨rfl,rfl⟩|exact ⟨rfl,rfl,rfl⟩|(refine _root_.id ?_; kernel_rfl)|omega) only [evs,Ad,nth,put,putT,getT,Ai,Aj,Ab,aUn,outA,resA,mapO,Aq,Ar,w1,w2,w3,bots,cond_true,cond_false,if_true,if_false,ite_true,ite_false,reduceIte,reduceCtorEq,implies_true,Nat.reduceAdd,Nat.reduceSub,AV.int,AV.bool,AV.str,Nat.reduceBEq,Nat.reduceEqDiff,Nat.reduceMul,Nat.reduceLT,Nat.reduceLeDiff,Int.reduceNeg,BEq.rfl,beq_self_eq_true,tabl,cellsOf,fldA,ldA,stA,Ak,Ao,Am,over,Ag,Value.oneCell',idxA,nilA,Aa,Ap,Ah,pure1,pure2,reps,chkA,tys,Tryz.results3,evt,Av,Au,Al,e0,e5,e6,e7,d1,d2,hx',hiw]
   exact IH (i+1) _ (by first|omega|(simp only; omega)) ⟨rfl,by first|omega|(dsimp only; omega),hs2,(by first|rfl|simp only [getT,List.map_append,List.map_cons,List.map_nil,and_self]),(by first|rfl|simp only [getT,List.map_append,List.map_cons,List.map_nil,and_self]),(by first|rfl|simp only [getT,List.map_append,List.map_cons,List.map_nil,and_self]),(by first|rfl|simp only [getT,List.map_append,List.map_cons,List.map_nil,and_self]),(by first|rfl|simp only [getT,List.map_append,List.map_cons,List.map_nil,and_self])⟩
  ·have d2:decide (((r.1.length:Nat):Int) > 30)=true:=by simp; omega
   simp (maxSteps:=1000000) +contextual (disch:=first|with_reducible assumption|exact ⟨rfl⟩|exact ⟨rfl,rfl⟩|exact ⟨rfl,rfl,rfl⟩|(refine _root_.id ?_; kernel_rfl)|omega) only [evs,Ad,nth,put,putT,getT,Ai,Aj,Ab,aUn,outA,resA,mapO,Aq,Ar,w1,w2,w3,bots,cond_true,cond_false,if_true,if_false,ite_true,ite_false,reduceIte,reduceCtorEq,implies_true,Nat.reduceAdd,Nat.reduceSub,AV.int,AV.bool,AV.str,Nat.reduceBEq,Nat.reduceEqDiff,Nat.reduceMul,Nat.reduceLT,Nat.reduceLeDiff,Int.reduceNeg,BEq.rfl,beq_self_eq_true,tabl,cellsOf,fldA,ldA,stA,Ak,Ao,Am,over,Ag,Value.oneCell',idxA,nilA,Aa,Ap,Ah,pure1,pure2,reps,chkA,tys,Tryz.results3,evt,Av,Au,Al,e0,e5,e6,e7,d1,d2,hx',hA]
 ·have d1:decide ((i:Int)<(l.length:Int))=false:=by simpa using la
  have hie:i=l.length:=by omega
  subst hie
  rw [List.take_length] at hs
  have hl0:∀ r ∈ l,r.1.length≤1048576:=fun r h=>by have:=hs r h; omega
  by_cases h1:l.length≤100
  ·have d2:decide (((l.length:Nat):Int) > 100)=false:=by simp; omega
   have hC1:=fun S tk k=>D9 S tk k l hl0
   have hC2:=fun S tk k=>M1 S tk k l hl0
   have hV1:=fun S tk k=>Q5 S tk k l hl0
   have hV2:=fun S tk k=>Yz S tk k l hl0
   have hSm:=fun S tk k=>Wk S tk k (Vi l) (by have:=Aau l; omega)
   have z1:(sysE l == sysE l)=true:=by simp
   simp only [Bh,A8] at hC1 hC2 hV1 hV2 hSm
   simp (maxSteps:=1000000) +contextual (disch:=first|with_reducible assumption|exact ⟨rfl⟩|exact ⟨rfl,rfl⟩|exact ⟨rfl,rfl,rfl⟩|(refine _root_.id ?_; kernel_rfl)|omega) only [evs,Ad,nth,put,putT,getT,Ai,Aj,Ab,aUn,outA,resA,mapO,Aq,Ar,w1,w2,w3,bots,cond_true,cond_false,if_true,if_false,ite_true,ite_false,reduceIte,reduceCtorEq,implies_true,Nat.reduceAdd,Nat.reduceSub,AV.int,AV.bool,AV.str,Nat.reduceBEq,Nat.reduceEqDiff,Nat.reduceMul,Nat.reduceLT,Nat.reduceLeDiff,Int.reduceNeg,BEq.rfl,beq_self_eq_true,tabl,cellsOf,fldA,ldA,stA,Ak,Ao,Am,over,Ag,Value.oneCell',idxA,nilA,Aa,Ap,Ah,pure1,pure2,reps,chkA,tys,Tryz.results3,evt,Av,Au,Al,e0,e5,e6,e7,d1,d2,hC1,hC2,hV1,hV2,hSm,hA,z1]
  ·have d2:decide (((l.length:Nat):Int) > 100)=true:=by simp; omega
   simp (maxSteps:=1000000) +contextual (disch:=first|with_reducible assumption|exact ⟨rfl⟩|exact ⟨rfl,rfl⟩|exact ⟨rfl,rfl,rfl⟩|(refine _root_.id ?_; kernel_rfl)|omega) only [evs,Ad,nth,put,putT,getT,Ai,Aj,Ab,aUn,outA,resA,mapO,Aq,Ar,w1,w2,w3,bots,cond_true,cond_false,if_true,if_false,ite_true,ite_false,reduceIte,reduceCtorEq,implies_true,Nat.reduceAdd,Nat.reduceSub,AV.int,AV.bool,AV.str,Nat.reduceBEq,Nat.reduceEqDiff,Nat.reduceMul,Nat.reduceLT,Nat.reduceLeDiff,Int.reduceNeg,BEq.rfl,beq_self_eq_true,tabl,cellsOf,fldA,ldA,stA,Ak,Ao,Am,over,Ag,Value.oneCell',idxA,nilA,Aa,Ap,Ah,pure1,pure2,reps,chkA,tys,Tryz.results3,evt,Av,Au,Al,e0,e5,e6,e7,d1,d2,hA]
end
end Go.Proofs.YtcjffhadclngmaaGreat
