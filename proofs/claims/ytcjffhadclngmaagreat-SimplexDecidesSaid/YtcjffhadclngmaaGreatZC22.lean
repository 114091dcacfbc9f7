/- Part 22. -/
import Derived.Test.YtcjffhadclngmaaGreatZC21
open Bool renaming false_ne_true->F6
open Go.Proofs.YtcjffhadclngmaaGreat.AV renaming bool->Bg,int->Cb,str->Cc
open Int renaming reduceNeg->It
open List renaming nil_append->Cq,map_cons->Ct,mem_cons->Cv,map_nil->Ei,map_append->F4,singleton_append->O2,not_mem_nil->Pz
open Nat renaming zero_le->Cl,reduceAdd->F5,reduceEqDiff->F9,reduceLeDiff->G8,reduceSub->Ip,reduceBEq->Iq,reduceMul->Ir,reduceLT->I6
namespace Go.Proofs.YtcjffhadclngmaaGreat
section
open Go Tryz
set_option maxHeartbeats 4000000
set_option maxRecDepth 100000
def nX:ByteArray:=⟨#[120]⟩
def nY:ByteArray:=⟨#[121]⟩
def lNo:List RowT:=[([(nX,1)],1,false),([(nX,-1)],0,false)]
def lYes:List RowT:=[([(nX,1),(nY,-1)],0,false),([(nY,1)],-5,true)]
def lHalf:List RowT:=[([(nX,2)],-1,true)]
theorem askNo:H8 QQ.qF 20 lNo (Bh lNo) false=some (⟨false,[],[(1,1),(1,1)],none⟩,true):=aI
theorem Au2:H8 QQ.qF 20 lYes (Bh lYes) false=some (⟨true,[(5,1),(5,1)],[],none⟩,true):=aI
theorem Asy:H8 QQ.qF 20 lHalf (Bh lHalf) false=some (⟨true,[(1,2)],[],none⟩,true):=aI
theorem askL1:Jh QQ.qF 20 lYes (Bh (Lh lYes [(nX,-1)] 0)) false [(nX,-1)] 0=some (⟨true,[(5,1),(5,1)],[],some ((-5,1),true)⟩,true):=aI
theorem askL2:Jh QQ.qF 20 lYes (Bh (Lh lYes [(nX,1)] 0)) false [(nX,1)] 0=some (⟨true,[(5,1),(5,1)],[],some ((0,1),false)⟩,true):=aI
theorem At6:sysE lNo=0:=aI
theorem Wz:sysE lYes=0:=aI
theorem Aoa:sysE lHalf=0:=aI
theorem At9:Bh lYes=[nX,nY]:=aI
theorem Au8:Bz [(nX,-1)] 0=0:=aI
theorem Au9:Bz [(nX,1)] 0=0:=aI
theorem Avr:∀ r ∈ lNo,r.1.length<=1048576:=fun r hr=>by
 simp only [lNo,Cv,Pz,or_false] at hr;rcases hr with rfl|rfl <;> decide
theorem Amk:∀ r ∈ lYes,r.1.length<=1048576:=fun r hr=>by
 simp only [lYes,Cv,Pz,or_false] at hr;rcases hr with rfl|rfl <;> decide
theorem Atl:∀ r ∈ lHalf,r.1.length<=1048576:=fun r hr=>by
 simp only [lHalf,Cv,Pz,or_false] at hr;subst hr; decide
theorem inNo:∀ r ∈ lNo,i64 r.2.1/\∀ c ∈ r.1,i64 c.2:=fun r hr=>by
 simp only [lNo,Cv,Pz,or_false] at hr;rcases hr with rfl|rfl <;> simp [i64]
theorem Ati:∀ r ∈ lYes,i64 r.2.1/\∀ c ∈ r.1,i64 c.2:=fun r hr=>by
 simp only [lYes,Cv,Pz,or_false] at hr;rcases hr with rfl|rfl <;> simp [i64]
theorem Avk:∀ r ∈ lHalf,i64 r.2.1/\∀ c ∈ r.1,i64 c.2:=fun r hr=>by
 simp only [lHalf,Cv,Pz,or_false] at hr;subst hr; simp [i64]
theorem Akv {l:List RowT} {a:Ans} {K:Nat} (h0:sysE l=0) (hi:∀ r ∈ l,i64 r.2.1/\∀ c ∈ r.1,i64 c.2) (h:H8 QQ.qF K l (Bh l) false=some (a,true)) (ha:a.least=none):Adw l a:=by
 obtain ⟨h1,h2,h3,-⟩:=Gb h0;exact fun S tk k=>Adl S tk k l aA aA (Bh l) aA Jr hi h1 K a h ha
theorem Af9 {l:List RowT} {cs:List (ByteArray × Int)} {nn:Int} {a:Ans} {K:Nat} (h0:sysE l=0) (h1:Bz cs nn=0) (hi:∀ r ∈ l,i64 r.2.1/\∀ c ∈ r.1,i64 c.2) (hcc:∀ c ∈ cs,i64 c.2) (hnn:i64 nn) (h:Jh QQ.qF K l (Bh (Lh l cs nn)) false cs nn=some (a,true)):Afq l cs nn a:=by
 have hcl:=Dz h1;obtain ⟨f1,f2,f3,-⟩:=Gb h0;have yc:=Yl h0 h1;exact Aku fun tk k=>Aah (SL cs nn) tk k cs nn 0 0 rfl hcc hnn hcl l aA aA (Bh (Lh l cs nn)) aA Jx.2 Jx.1 hi f1 K a h
theorem Aqx (s:ByteArray):sEq s s=true:=by rw [N3]; simp
section
variable (S:List Ent) (tk:List Nat) (k:Nat)
theorem Ao1 (l:List ByteArray) (hl:l.length<=1000000):cL prog 9 [Aq l,Aq l] S tk k=some (.bool true,S,tk,k):=by
 refine opP func9 ntmps9 (hp3:=rfl) ?_;have d0:(((l.length:Nat):Int) != (l.length:Int))=false:=by simp
 simp (maxSteps:=10^6)+contextual(disch:=try exact dqd)only[ev1,reduceIte,reduceCtorEq,F5,Ip,Iq,F9,Ir,I6,G8,It,Cb,Bg,Cc,results9,Aq,d0];refine loop1 (P:=prog) (fun x st=>st.T.length=26/\(x<=l.length)/\getT st.T 0=.frz (l.map strC) .unk/\getT st.T 1=.frz (l.map strC) .unk/\getT st.T 12=.int (l.length:Nat)/\getT st.T 13=.int (x:Nat)/\st.S=[]) (fun x=>l.length - x) (fun x=>.bool true) (0) ?_ ?_;case refine_2=>exact ⟨rfl,Cl _,rfl,rfl,rfl,rfl,rfl⟩
 rintro i ⟨T,S',tk',n'⟩ ⟨hl,hi,e0,e1,e12,e13,eS⟩ IH;subst eS;obtain ⟨g,hg,hT⟩:=Au hl;rw [hg] at e0 e1 e12 e13;subst hT;clear hg hl;have ez:=B1 (i:=i) aA;by_cases la:i<l.length
 ·have d1:decide ((i:Int)<(l.length:Int))=true:=bS
  obtain ⟨x,hx⟩:=Af la;have hx':nth (l.map strC) i=some (strC x):=dL
  have hq:=Aqx x;simp (maxSteps:=10^6)+contextual(disch:=try exact dqd)only[ev1,reduceIte,reduceCtorEq,F5,Ip,Iq,F9,Ir,I6,G8,It,Cb,Bg,Cc,results9,e0,e1,e12,e13,d1,hx',ez,strC,hq];exact IH (i+1) _ aF ⟨rfl,aE,bU,bU,bU,bU,bU⟩
 ·have d1:decide ((i:Int)<(l.length:Int))=false:=bS
  simp (maxSteps:=10^6)+contextual(disch:=try exact dqd)only[ev1,reduceIte,reduceCtorEq,F5,Ip,Iq,F9,Ir,I6,G8,It,Cb,Bg,Cc,results9,e0,e1,e12,e13,d1]
theorem Tz (x c:Int) (eq:Bool) (hx:(x != 0)=true):cL prog 20 [.int x,.int 0,.int c,.bool eq] S tk k=some (.agg (rowC ([(nX,x)],c,eq)),S,tk,k):=by
 refine opP func20 ntmps20 (hp3:=rfl) ?_;have hA:=fun (a b:AV)=>apB_one (tk:=[]) (c:=.nilc) (es:=[]) (y:=[a,b]) (sz:=2) rfl rfl rfl aO;simp (maxSteps:=10^6)+contextual(disch:=try exact dqd)only[ev1,reduceIte,reduceCtorEq,F5,Ip,Iq,F9,Ir,I6,G8,It,Cb,Bg,Cc,results20,hx,bne_self_eq_false,hA];rfl
theorem Aov (x y c:Int) (eq:Bool) (hx:(x != 0)=true) (hy:(y != 0)=true):cL prog 20 [.int x,.int y,.int c,.bool eq] S tk k=some (.agg (rowC ([(nX,x),(nY,y)],c,eq)),S,tk,k):=by
 refine opP func20 ntmps20 (hp3:=rfl) ?_;have hA:=fun (a b:AV)=>apB_one (tk:=[]) (c:=.nilc) (es:=[]) (y:=[a,b]) (sz:=2) rfl rfl rfl aO;have hA2:=fun (a b c d:AV)=>apB_one (tk:=Gf [] .nilc) (c:=A6 [] .nilc 2) (es:=[[a,b]]) (y:=[c,d]) (sz:=2) rfl rfl rfl (by simp);simp (maxSteps:=10^6)+contextual(disch:=try exact dqd)only[ev1,reduceIte,reduceCtorEq,F5,Ip,Iq,F9,Ir,I6,G8,It,Cb,Bg,Cc,results20,hx,hy,hA,hA2,Cq,O2];rfl
theorem Aow (y c:Int) (eq:Bool) (hy:(y != 0)=true):cL prog 20 [.int 0,.int y,.int c,.bool eq] S tk k=some (.agg (rowC ([(nY,y)],c,eq)),S,tk,k):=by
 refine opP func20 ntmps20 (hp3:=rfl) ?_;have hA:=fun (a b:AV)=>apB_one (tk:=[]) (c:=.nilc) (es:=[]) (y:=[a,b]) (sz:=2) rfl rfl rfl aO;simp (maxSteps:=10^6)+contextual(disch:=try exact dqd)only[ev1,reduceIte,reduceCtorEq,F5,Ip,Iq,F9,Ir,I6,G8,It,Cb,Bg,Cc,results20,hy,bne_self_eq_false,hA];rfl
end
section
variable {S:List Ent} {tk:List Nat} {k:Nat} {A B:List (List AV)}
theorem Arv:cL prog 13 [.frz A .tight] S tk k=cL prog 13 [.frz A .unk] S tk k:=Za rfl rfl rfl
theorem Av9:cL prog 21 [.frz A .tight] S tk k=cL prog 21 [.frz A .unk] S tk k:=Za rfl rfl rfl
theorem Avz:cL prog 22 [.frz A .tight] S tk k=cL prog 22 [.frz A .unk] S tk k:=Za rfl rfl rfl
theorem Arx {n:Int} : cL prog 15 [.frz A .tight,.agg [.frz B .unk,.prim (.int .i64 n)]] S tk k=cL prog 15 [.frz A .unk,.agg [.frz B .unk,.prim (.int .i64 n)]] S tk k:=Za rfl rfl rfl
theorem Awi:cL prog 10 [.frz A .tight] S tk k=cL prog 10 [.frz A .unk] S tk k:=Za rfl rfl rfl
theorem Atz:cL prog 9 [.frz A .unk,.frz B .tight] S tk k=cL prog 9 [.frz A .unk,.frz B .unk] S tk k:=Za rfl rfl rfl
end
section
variable (S:List Ent) (tk:List Nat) (k:Nat)
theorem Ajx:cL prog 6 [] S tk k=some (.bool true,S,tk,k):=by
 have l6:=fun S tk k=>Tz S tk k 1 1 false rfl;have fi:=fun S tk k=>Tz S tk k (-1) 0 false rfl;have ko:=fun S tk k=>Aov S tk k 1 (-1) 0 false rfl rfl;have hR4:=fun S tk k=>Aow S tk k 1 (-5) true rfl;have oe:=fun S tk k=>Tz S tk k 2 (-1) true rfl;have j0:=fun S tk k=>Tz S tk k 1 0 false rfl;have e1:Ar lNo=.frz [rowC ([(nX,1)],1,false),rowC ([(nX,-1)],0,false)] .unk:=rfl;have e2:Ar lYes=.frz [rowC ([(nX,1),(nY,-1)],0,false),rowC ([(nY,1)],-5,true)] .unk:=rfl;have e3:Ar lHalf=.frz [rowC ([(nX,2)],-1,true)] .unk:=rfl;have iNo:=Akv At6 inNo askNo rfl;have iYes:=Akv Wz Ati Au2 rfl;have iHalf:=Akv Aoa Avk Asy rfl;have hF1:=fun S tk k=>Hx S tk k lNo Avr _ (fun _=>iNo);have hF2:=fun S tk k=>Hx S tk k lYes Amk _ (fun _=>iYes);have hM:=fun S tk k=>Wu S tk k lNo Avr _ At6 iNo _ (fun S tk k=>zInts S tk k);have hP:=fun S tk k=>Xf S tk k lHalf Atl _ Aoa iHalf;have xw:=fun S tk k=>Ku S tk k lYes Amk aO [(nX,-1)] 0 _ Wz Au8 (Af9 Wz Au8 Ati gY gY askL1);have vk:=fun S tk k=>Ku S tk k lYes Amk aO [(nX,1)] 0 _ Wz Au9 (Af9 Wz Au9 Ati gY gY askL2);have hV:=fun S tk k=>Adj S tk k lYes Wz;have hSm:=fun S tk k=>Ao1 S tk k [nX,nY] (by simp);have hO1:=fun S tk k=>Aq7 S tk k;have hO2:=fun S tk k=>Aq8 S tk k;have hBC:=fun S tk k=>Aq6 S tk k;have hQ:=fun S tk k=>Aud S tk k;have hI:=fun S tk k=>Aq9 S tk k;have dy:=fun S tk k=>Aon S tk k;have hK2:=fun S tk k=>Aoo S tk k;rw [e1,At6,if_pos rfl] at hF1;rw [e2,Wz,if_pos rfl] at hF2;rw [e1,if_neg F6] at hM;rw [e3] at hP;rw [e2] at xw vk hV;rw [At9] at hV;simp only [leaA,if_true] at xw vk;have gF1:=fun S tk k=>(Arv (S:=S) (tk:=tk) (k:=k)).trans (hF1 S tk k);have gF2:=fun S tk k=>(Arv (S:=S) (tk:=tk) (k:=k)).trans (hF2 S tk k);have gM:=fun S tk k=>(Av9 (S:=S) (tk:=tk) (k:=k)).trans (hM S tk k);have gP:=fun S tk k=>(Avz (S:=S) (tk:=tk) (k:=k)).trans (hP S tk k);have gL1:=fun S tk k=>(Arx (S:=S) (tk:=tk) (k:=k)).trans (xw S tk k);have gL2:=fun S tk k=>(Arx (S:=S) (tk:=tk) (k:=k)).trans (vk S tk k);have gV:=fun S tk k=>(Awi (S:=S) (tk:=tk) (k:=k)).trans (hV S tk k);have gS:=fun S tk k=>(Atz (S:=S) (tk:=tk) (k:=k)).trans (hSm S tk k);clear hF1 hF2 hM hP xw vk hV hSm;simp only [rowC,Ao,zC,ceW,digA,zA,bigA,qA,ratA,linA,Ct,Ei,Aq,strC,nX,nY,D2] at *;have n2:(((2:Nat):Int) != 2)=false:=rfl;have n1:(((1:Nat):Int) != 1)=false:=rfl;have z1:((0:Int) != 0)=false:=rfl;have i1:intN (AV.prim (.int .i64 1))=some 1:=rfl;refine opP func6 ntmps6 (hp3:=rfl) ?_;simp (maxSteps:=10^6)+contextual(disch:=try exact dqd)only[ev1,reduceIte,reduceCtorEq,F5,Ip,Iq,F9,Ir,I6,G8,It,Cb,Bg,Cc,results6,l6,fi,ko,hR4,oe,j0,gF1,gF2,gM,gP,gL1,gL2,gV,gS,hO1,hO2,hBC,hQ,hI,dy,hK2,n1,n2,z1,i1]
end
end
section
open Go Tryz
section
variable (S:List Ent) (tk:List Nat) (k:Nat)
theorem Aa3 (l:List RowT) (c8:∀ r ∈ l,r.1.length<=1048576) (h:sysE l≠0):cL prog 11 [Ar l] S tk k=some (Aq [],S,tk,k):=by
 have hC:=fun S tk k=>Ge S tk k l c8;have c1:(sysE l != 0)=true:=aM
 simp only [Ar] at hC;refine opP func11 ntmps11 (hp3:=rfl) ?_;simp (maxSteps:=10^6)+contextual(disch:=try exact dqd)only[ev1,simprocAttr,Cb,Bg,Cc,results11,Ar,hC,c1];rfl
def Aok (l:List RowT):List ByteArray:=if sysE l=0 then Bh l else []
theorem Aj9 (l:List RowT) (c8:∀ r ∈ l,r.1.length<=1048576):cL prog 11 [Ar l] S tk k=some (Aq (Aok l),S,tk,k):=by
 unfold Aok;by_cases h:sysE l=0
 ·rw [if_pos h]; exact Ao2 S tk k l h
 ·rw [if_neg h]; exact Aa3 S tk k l c8 h
end
end
end Go.Proofs.YtcjffhadclngmaaGreat
