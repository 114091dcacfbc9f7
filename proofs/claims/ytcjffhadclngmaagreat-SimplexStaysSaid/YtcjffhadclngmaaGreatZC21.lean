/- C1 C2 -/
import Derived.Test.YtcjffhadclngmaaGreatZC16
import Derived.Test.YtcjffhadclngmaaGreatZC18
import Derived.Test.YtcjffhadclngmaaGreatZC20
namespace Go.Proofs.YtcjffhadclngmaaGreat
section
open Go Tryz
def nX:ByteArray:=⟨#[120]⟩
def nY:ByteArray:=⟨#[121]⟩
def lNo:List RowT:=[([(nX,1)],1,false),([(nX,-1)],0,false)]
def lYes:List RowT:=[([(nX,1),(nY,-1)],0,false),([(nY,1)],-5,true)]
def lHalf:List RowT:=[([(nX,2)],-1,true)]
theorem askNo:G8 qF 20 lNo (B8 lNo) false=some (⟨false,[],[(1,1),(1,1)],none⟩,true):=by kernel_rfl
theorem Aoz:G8 qF 20 lYes (B8 lYes) false=some (⟨true,[(5,1),(5,1)],[],none⟩,true):=by kernel_rfl
theorem Amo:G8 qF 20 lHalf (B8 lHalf) false=some (⟨true,[(1,2)],[],none⟩,true):=by kernel_rfl
theorem askL1:P8 qF 20 lYes (B8 (Kf lYes [(nX,-1)] 0)) false [(nX,-1)] 0=some (⟨true,[(5,1),(5,1)],[],some ((-5,1),true)⟩,true):=by kernel_rfl
theorem askL2:P8 qF 20 lYes (B8 (Kf lYes [(nX,1)] 0)) false [(nX,1)] 0=some (⟨true,[(5,1),(5,1)],[],some ((0,1),false)⟩,true):=by kernel_rfl
theorem Amd:sysE lNo=0:=by kernel_rfl
theorem Rq:sysE lYes=0:=by kernel_rfl
theorem Ad1:sysE lHalf=0:=by kernel_rfl
theorem Alx:B8 lYes=[nX,nY]:=by kernel_rfl
theorem Aob:B1 [(nX,-1)] 0=0:=by kernel_rfl
theorem Aou:B1 [(nX,1)] 0=0:=by kernel_rfl
theorem Aor:∀ r ∈ lNo,r.1.length<=1048576:=fun r hr=>by
 simp only [lNo,List.mem_cons,List.not_mem_nil,or_false] at hr
 rcases hr with rfl|rfl <;> decide
theorem Ag7:∀ r ∈ lYes,r.1.length<=1048576:=fun r hr=>by
 simp only [lYes,List.mem_cons,List.not_mem_nil,or_false] at hr
 rcases hr with rfl|rfl <;> decide
theorem Anm:∀ r ∈ lHalf,r.1.length<=1048576:=fun r hr=>by
 simp only [lHalf,List.mem_cons,List.not_mem_nil,or_false] at hr
 subst hr; decide
theorem inNo:∀ r ∈ lNo,i64 r.2.1/\∀ c ∈ r.1,i64 c.2:=fun r hr=>by
 simp only [lNo,List.mem_cons,List.not_mem_nil,or_false] at hr
 rcases hr with rfl|rfl <;> simp [i64]
theorem Al7:∀ r ∈ lYes,i64 r.2.1/\∀ c ∈ r.1,i64 c.2:=fun r hr=>by
 simp only [lYes,List.mem_cons,List.not_mem_nil,or_false] at hr
 rcases hr with rfl|rfl <;> simp [i64]
theorem App:∀ r ∈ lHalf,i64 r.2.1/\∀ c ∈ r.1,i64 c.2:=fun r hr=>by
 simp only [lHalf,List.mem_cons,List.not_mem_nil,or_false] at hr
 subst hr; simp [i64]
theorem Agv {l:List RowT} {a:Ans} {K:Nat} (h0:sysE l=0) (hi:∀ r ∈ l,i64 r.2.1/\∀ c ∈ r.1,i64 c.2) (h:G8 qF K l (B8 l) false=some (a,true)) (ha:a.least=none):Yq l a:=by
 obtain ⟨h1,h2,h3,-⟩:=Gr h0
 exact fun S tk k=>Xe S tk k l (by omega) (by omega) (B8 l) (by omega) Ms hi h1 K a h ha
theorem Aba {l:List RowT} {cs:List (ByteArray × Int)} {nn:Int} {a:Ans} {K:Nat} (h0:sysE l=0) (h1:B1 cs nn=0) (hi:∀ r ∈ l,i64 r.2.1/\∀ c ∈ r.1,i64 c.2) (hcc:∀ c ∈ cs,i64 c.2) (hnn:i64 nn) (h:P8 qF K l (B8 (Kf l cs nn)) false cs nn=some (a,true)):Aee l cs nn a:=by
 have hcl:=Ju h1
 obtain ⟨f1,f2,f3,-⟩:=Gr h0
 have yy:=Acy h0 h1
 exact Amr fun tk k=>Vn (SL cs nn) tk k cs nn 0 0 rfl hcc hnn hcl l (by omega) (by omega) (B8 (Kf l cs nn)) (by omega) Xr.2 Xr.1 hi f1 K a h
theorem Akj (s:ByteArray):sEq s s=true:=by rw [Qp]; simp
section
variable (S:List Ent) (tk:List Nat) (k:Nat)
theorem Ai7 (l:List ByteArray) (hl:l.length<=1000000):cL prog 9 [Am l,Am l] S tk k=some (.bool true,S,tk,k):=by
 refine opP func9 ntmps9 (hp3:=rfl) ?_
 have d0:(((l.length:Nat):Int) != (l.length:Int))=false:=by simp
 simp (maxSteps:=10^6)+contextual(disch:=try exact dqd)only[ev1,reduceIte,reduceCtorEq,Nat.reduceAdd,Nat.reduceSub,Nat.reduceBEq,Nat.reduceEqDiff,Nat.reduceMul,Nat.reduceLT,Nat.reduceLeDiff,Int.reduceNeg,AV.int,AV.bool,AV.str,results9,Am,d0]
 refine loop1 (P:=prog) (fun x st=>st.T.length=26/\(x<=l.length)/\getT st.T 0=.frz (l.map strC) .unk/\getT st.T 1=.frz (l.map strC) .unk/\getT st.T 12=.int (l.length:Nat)/\getT st.T 13=.int (x:Nat)/\st.S=[]) (fun x=>l.length - x) (fun x=>.bool true) (0) ?_ ?_
 case refine_2=>exact ⟨rfl,Nat.zero_le _,rfl,rfl,rfl,rfl,rfl⟩
 rintro i ⟨T,S',tk',n'⟩ ⟨hl,hi,e0,e1,e12,e13,eS⟩ IH
 subst eS
 obtain ⟨g,hg,hT⟩:=Av hl
 rw [hg] at e0 e1 e12 e13
 subst hT
 clear hg hl
 have jf:=B9 (i:=i) (by omega)
 by_cases la:i<l.length
 ·have d1:decide ((i:Int)<(l.length:Int))=true:=by simpa using la
  obtain ⟨x,hx⟩:=Ag la
  have hx':nth (l.map strC) i=some (strC x):=by rw [El,hx]; rfl
  have hq:=Akj x
  simp (maxSteps:=10^6)+contextual(disch:=try exact dqd)only[ev1,reduceIte,reduceCtorEq,Nat.reduceAdd,Nat.reduceSub,Nat.reduceBEq,Nat.reduceEqDiff,Nat.reduceMul,Nat.reduceLT,Nat.reduceLeDiff,Int.reduceNeg,AV.int,AV.bool,AV.str,results9,e0,e1,e12,e13,d1,hx',jf,strC,hq]
  exact IH (i+1) _ (by first|omega|(simp only; omega)) ⟨rfl,by first|omega|(dsimp only; omega),(by first|rfl|simp only [getT,List.map_append,List.map_cons,List.map_nil,and_self]),(by first|rfl|simp only [getT,List.map_append,List.map_cons,List.map_nil,and_self]),(by first|rfl|simp only [getT,List.map_append,List.map_cons,List.map_nil,and_self]),(by first|rfl|simp only [getT,List.map_append,List.map_cons,List.map_nil,and_self]),(by first|rfl|simp only [getT,List.map_append,List.map_cons,List.map_nil,and_self])⟩
 ·have d1:decide ((i:Int)<(l.length:Int))=false:=by simpa using la
  simp (maxSteps:=10^6)+contextual(disch:=try exact dqd)only[ev1,reduceIte,reduceCtorEq,Nat.reduceAdd,Nat.reduceSub,Nat.reduceBEq,Nat.reduceEqDiff,Nat.reduceMul,Nat.reduceLT,Nat.reduceLeDiff,Int.reduceNeg,AV.int,AV.bool,AV.str,results9,e0,e1,e12,e13,d1]
set_option maxRecDepth 100000 in
theorem Pn (x c:Int) (eq:Bool) (hx:(x != 0)=true):cL prog 20 [.int x,.int 0,.int c,.bool eq] S tk k=some (.agg (rowC ([(nX,x)],c,eq)),S,tk,k):=by
 refine opP func20 ntmps20 (hp3:=rfl) ?_
 have hA:=fun (a b:AV)=>apB_one (tk:=[]) (c:=.nilc) (es:=[]) (y:=[a,b]) (sz:=2) rfl rfl rfl (by decide)
 simp (maxSteps:=10^6)+contextual(disch:=try exact dqd)only[ev1,reduceIte,reduceCtorEq,Nat.reduceAdd,Nat.reduceSub,Nat.reduceBEq,Nat.reduceEqDiff,Nat.reduceMul,Nat.reduceLT,Nat.reduceLeDiff,Int.reduceNeg,AV.int,AV.bool,AV.str,results20,hx,bne_self_eq_false,hA]
 rfl
set_option maxRecDepth 100000 in
theorem Ai8 (x y c:Int) (eq:Bool) (hx:(x != 0)=true) (hy:(y != 0)=true):cL prog 20 [.int x,.int y,.int c,.bool eq] S tk k=some (.agg (rowC ([(nX,x),(nY,y)],c,eq)),S,tk,k):=by
 refine opP func20 ntmps20 (hp3:=rfl) ?_
 have hA:=fun (a b:AV)=>apB_one (tk:=[]) (c:=.nilc) (es:=[]) (y:=[a,b]) (sz:=2) rfl rfl rfl (by decide)
 have hA2:=fun (a b c d:AV)=>apB_one (tk:=Ey [] .nilc) (c:=Bb [] .nilc 2) (es:=[[a,b]]) (y:=[c,d]) (sz:=2) rfl rfl rfl (by simp)
 simp (maxSteps:=10^6)+contextual(disch:=try exact dqd)only[ev1,reduceIte,reduceCtorEq,Nat.reduceAdd,Nat.reduceSub,Nat.reduceBEq,Nat.reduceEqDiff,Nat.reduceMul,Nat.reduceLT,Nat.reduceLeDiff,Int.reduceNeg,AV.int,AV.bool,AV.str,results20,hx,hy,hA,hA2,List.nil_append,List.singleton_append]
 rfl
set_option maxRecDepth 100000 in
theorem Aj3 (y c:Int) (eq:Bool) (hy:(y != 0)=true):cL prog 20 [.int 0,.int y,.int c,.bool eq] S tk k=some (.agg (rowC ([(nY,y)],c,eq)),S,tk,k):=by
 refine opP func20 ntmps20 (hp3:=rfl) ?_
 have hA:=fun (a b:AV)=>apB_one (tk:=[]) (c:=.nilc) (es:=[]) (y:=[a,b]) (sz:=2) rfl rfl rfl (by decide)
 simp (maxSteps:=10^6)+contextual(disch:=try exact dqd)only[ev1,reduceIte,reduceCtorEq,Nat.reduceAdd,Nat.reduceSub,Nat.reduceBEq,Nat.reduceEqDiff,Nat.reduceMul,Nat.reduceLT,Nat.reduceLeDiff,Int.reduceNeg,AV.int,AV.bool,AV.str,results20,hy,bne_self_eq_false,hA]
 rfl
end
section
variable {S:List Ent} {tk:List Nat} {k:Nat} {A B:List (List AV)}
theorem Ak6:cL prog 13 [.frz A .tight] S tk k=cL prog 13 [.frz A .unk] S tk k:=Q0 rfl rfl rfl
theorem Anv:cL prog 21 [.frz A .tight] S tk k=cL prog 21 [.frz A .unk] S tk k:=Q0 rfl rfl rfl
theorem Aoo:cL prog 22 [.frz A .tight] S tk k=cL prog 22 [.frz A .unk] S tk k:=Q0 rfl rfl rfl
theorem Alh {n:Int} : cL prog 15 [.frz A .tight,.agg [.frz B .unk,.prim (.int .i64 n)]] S tk k=cL prog 15 [.frz A .unk,.agg [.frz B .unk,.prim (.int .i64 n)]] S tk k:=Q0 rfl rfl rfl
theorem An6:cL prog 10 [.frz A .tight] S tk k=cL prog 10 [.frz A .unk] S tk k:=Q0 rfl rfl rfl
theorem Amf:cL prog 9 [.frz A .unk,.frz B .tight] S tk k=cL prog 9 [.frz A .unk,.frz B .unk] S tk k:=Q0 rfl rfl rfl
end
section
variable (S:List Ent) (tk:List Nat) (k:Nat)
set_option maxRecDepth 100000 in
set_option maxHeartbeats 4000000 in
theorem Ad2:cL prog 6 [] S tk k=some (.bool true,S,tk,k):=by
 have jb:=fun S tk k=>Pn S tk k 1 1 false rfl
 have fk:=fun S tk k=>Pn S tk k (-1) 0 false rfl
 have ii:=fun S tk k=>Ai8 S tk k 1 (-1) 0 false rfl rfl
 have xw:=fun S tk k=>Aj3 S tk k 1 (-5) true rfl
 have kk:=fun S tk k=>Pn S tk k 2 (-1) true rfl
 have gi:=fun S tk k=>Pn S tk k 1 0 false rfl
 have e1:Au lNo=.frz [rowC ([(nX,1)],1,false),rowC ([(nX,-1)],0,false)] .unk:=rfl
 have e2:Au lYes=.frz [rowC ([(nX,1),(nY,-1)],0,false),rowC ([(nY,1)],-5,true)] .unk:=rfl
 have e3:Au lHalf=.frz [rowC ([(nX,2)],-1,true)] .unk:=rfl
 have iNo:=Agv Amd inNo askNo rfl
 have iYes:=Agv Rq Al7 Aoz rfl
 have iHalf:=Agv Ad1 App Amo rfl
 have hF1:=fun S tk k=>Jk S tk k lNo Aor _ (fun _=>iNo)
 have hF2:=fun S tk k=>Jk S tk k lYes Ag7 _ (fun _=>iYes)
 have hM:=fun S tk k=>Rc S tk k lNo Aor _ Amd iNo _ (fun S tk k=>zInts S tk k)
 have hP:=fun S tk k=>Te S tk k lHalf Anm _ Ad1 iHalf
 have hL1:=fun S tk k=>Lm S tk k lYes Ag7 (by decide) [(nX,-1)] 0 _ Rq Aob (Aba Rq Aob Al7 (by simp [i64]) (by simp [i64]) askL1)
 have yr:=fun S tk k=>Lm S tk k lYes Ag7 (by decide) [(nX,1)] 0 _ Rq Aou (Aba Rq Aou Al7 (by simp [i64]) (by simp [i64]) askL2)
 have hV:=fun S tk k=>Xw S tk k lYes Rq
 have yu:=fun S tk k=>Ai7 S tk k [nX,nY] (by simp)
 have hO1:=fun S tk k=>Air S tk k
 have hO2:=fun S tk k=>Aka S tk k
 have hBC:=fun S tk k=>Ajy S tk k
 have hQ:=fun S tk k=>Anl S tk k
 have hI:=fun S tk k=>Aii S tk k
 have d8:=fun S tk k=>Aek S tk k
 have hK2:=fun S tk k=>Agx S tk k
 rw [e1,Amd,if_pos rfl] at hF1
 rw [e2,Rq,if_pos rfl] at hF2
 rw [e1,if_neg Bool.false_ne_true] at hM
 rw [e3] at hP
 rw [e2] at hL1 yr hV
 rw [Alx] at hV
 simp only [leaA,if_true] at hL1 yr
 have gF1:=fun S tk k=>(Ak6 (S:=S) (tk:=tk) (k:=k)).trans (hF1 S tk k)
 have gF2:=fun S tk k=>(Ak6 (S:=S) (tk:=tk) (k:=k)).trans (hF2 S tk k)
 have gM:=fun S tk k=>(Anv (S:=S) (tk:=tk) (k:=k)).trans (hM S tk k)
 have gP:=fun S tk k=>(Aoo (S:=S) (tk:=tk) (k:=k)).trans (hP S tk k)
 have gL1:=fun S tk k=>(Alh (S:=S) (tk:=tk) (k:=k)).trans (hL1 S tk k)
 have gL2:=fun S tk k=>(Alh (S:=S) (tk:=tk) (k:=k)).trans (yr S tk k)
 have gV:=fun S tk k=>(An6 (S:=S) (tk:=tk) (k:=k)).trans (hV S tk k)
 have gS:=fun S tk k=>(Amf (S:=S) (tk:=tk) (k:=k)).trans (yu S tk k)
 clear hF1 hF2 hM hP hL1 yr hV yu
 simp only [rowC,An,zC,ceW,digA,zA,bigA,qA,ratA,linA,List.map_cons,List.map_nil,Am,strC,nX,nY,Dv] at *
 have n2:(((2:Nat):Int) != 2)=false:=rfl
 have n1:(((1:Nat):Int) != 1)=false:=rfl
 have z1:((0:Int) != 0)=false:=rfl
 have i1:intN (AV.prim (.int .i64 1))=some 1:=rfl
 refine opP func6 ntmps6 (hp3:=rfl) ?_
 simp (maxSteps:=10^6)+contextual(disch:=try exact dqd)only[ev1,reduceIte,reduceCtorEq,Nat.reduceAdd,Nat.reduceSub,Nat.reduceBEq,Nat.reduceEqDiff,Nat.reduceMul,Nat.reduceLT,Nat.reduceLeDiff,Int.reduceNeg,AV.int,AV.bool,AV.str,results6,jb,fk,ii,xw,kk,gi,gF1,gF2,gM,gP,gL1,gL2,gV,gS,hO1,hO2,hBC,hQ,hI,d8,hK2,n1,n2,z1,i1]
end
end
section
open Go Tryz
section
variable (S:List Ent) (tk:List Nat) (k:Nat)
theorem Wc (l:List RowT) (dt:∀ r ∈ l,r.1.length<=1048576) (h:sysE l≠0):cL prog 11 [Au l] S tk k=some (Am [],S,tk,k):=by
 have hC:=fun S tk k=>Qy S tk k l dt
 have c1:(sysE l != 0)=true:=by simpa using h
 simp only [Au] at hC
 refine opP func11 ntmps11 (hp3:=rfl) ?_
 simp (maxSteps:=10^6)+contextual(disch:=try exact dqd)only[ev1,simprocAttr,AV.int,AV.bool,AV.str,results11,Au,hC,c1]
 rfl
def Ahb (l:List RowT):List ByteArray:=if sysE l=0 then B8 l else []
theorem Af3 (l:List RowT) (dt:∀ r ∈ l,r.1.length<=1048576):cL prog 11 [Au l] S tk k=some (Am (Ahb l),S,tk,k):=by
 unfold Ahb
 by_cases h:sysE l=0
 ·rw [if_pos h]; exact Aiz S tk k l h
 ·rw [if_neg h]; exact Wc S tk k l dt h
end
end
end Go.Proofs.YtcjffhadclngmaaGreat
