/- QV11b QV11 QV12 QV13 QV14 V15a QV16 V20a V21a C00 C0a -/
import Derived.Test.YtcjffhadclngmaaGreatZC17
import Derived.Test.YtcjffhadclngmaaGreatZC16
import Derived.Test.YtcjffhadclngmaaGreatZC15
namespace Go.Proofs.YtcjffhadclngmaaGreat
open Go
section
variable (S:List Ent) (l:List RowT) (vars:List ByteArray) (fl:Bool) (k iq eq c W nz:Nat) (z:Q)
set_option maxHeartbeats 20000000 in
set_option maxRecDepth 100000 in
theorem Agi (hB:BegC S l vars iq c W) (oz:qF.ok z) (Φ:Rs→Prop) (i:Nat) (hil:i<l.length) (r:RowT) (hr:nth l i=some r) (sl:Nat) (hsn:sl+neqs (l.drop i)=c) (t1:Tb) (I:TI) (cp:Cap) (tk:List Nat)
  (hrq:t1.rows.length=i) (hcl:t1.cost.length=W) (hre:t1.real=c) (hva:t1.vars=vars.length) (hok:Bx tk cp 1=true) (hIt:I.it=S.length∧I.et=k∧I.ic=S.length+2) (hIf:S.length+2<I.ir∧S.length+2<I.ib∧∀ p ∈ I.ids,S.length+2<p.1)
  (L m0 nu:Nat) (u:Q × Bool) (hU:Adf qF (Ki r)=u) (ou:qF.ok u.1) (SX:List Ent) (nx lv:Nat) (hRX:Ga S SX iq eq I { t1 with fl:=Bool.or t1.fl u.2 } cp L nz m0 (m0+1) nu z r (List.replicate W z) u.1)
  (hR:Gv qF l vars fl=begS qF z vars c W (l.drop i) i sl t1)
  (back:∀ st,Yl S l vars fl k iq eq c W nz z (i+1) st→Gd finM Φ (KA Tryz.prog Tryz.f81 18 [] st))
  (T:List AV) (hT:T.length=270) (e0:getT T 0=.ifc 95 (.ref iq eq 0)) (e1:getT T 1=.frz (l.map rowC) .unk) (e2:getT T 2=.frz (vars.map strC) .unk) (e7:getT T 7=.ref S.length k 0) (e10:getT T 10=.int (sl:Nat)) (e11:getT T 11=.int (W:Nat)) (e12:getT T 12=.ref (S.length+1) nz 0) (e14:getT T 14=.int (i:Nat)) (e15:getT T 15=.ref L m0 0) (e16:getT T 16=.sref (L+1) (m0+1) 0 W 2) (e18:getT T 18=.prim (.bool (Ki r))) (e19:getT T 19=.ref (L+2) nu 0) (e83:getT T 83=.frz (l.map rowC) .unk) (e84:getT T 84=.int (l.length:Nat)) (e85:getT T 85=.int (i:Nat)) (e113:getT T 113=.frz (r.1.map Gc) .unk) (e114:getT T 114=.int (r.1.length:Nat)) (e115:getT T 115=.int ((0:Nat):Int)) :
  Gd finM Φ (KA Tryz.prog Tryz.f81 31 [lv] ⟨T,SX,tk,nx⟩):=by
 have hB2:=hB
 obtain ⟨hl,hv0,hv,hc,hfew,hiq,hcr,hWe⟩:=hB2
 have hnl:=Rf l
 have hrm:r ∈ l:=Bj hr
 have hcr1:i64 r.2.1:=(hc r hrm).1
 refine Afe rfl (t:=.mk) ?_
 refine Hs (P:=Tryz.prog) (fun x st=>st.T.length=270∧(x.2.2.1≤r.1.length)∧(Me qF u.1 z vars r.1 (List.replicate W z)=((Me qF u.1 z vars (r.1.drop x.2.2.1) x.2.2.2.1).1,Bool.or x.2.2.2.2 (Me qF u.1 z vars (r.1.drop x.2.2.1) x.2.2.2.1).2))∧(x.2.2.2.1.length=W)∧(okL qF x.2.2.2.1)∧(Ga S x.1 iq eq I { t1 with fl:=Bool.or (Bool.or t1.fl u.2) x.2.2.2.2 } cp L nz m0 (m0+1) nu z r x.2.2.2.1 u.1)∧getT st.T 0=.ifc 95 (.ref iq eq 0)∧getT st.T 1=.frz (l.map rowC) .unk∧getT st.T 2=.frz (vars.map strC) .unk∧getT st.T 7=.ref S.length k 0∧getT st.T 10=.int (sl:Nat)∧getT st.T 11=.int (W:Nat)∧getT st.T 12=.ref (S.length+1) nz 0∧getT st.T 14=.int (i:Nat)∧getT st.T 15=.ref L m0 0∧getT st.T 16=.sref (L+1) (m0+1) 0 W 2∧getT st.T 18=.prim (.bool (Ki r))∧getT st.T 19=.ref (L+2) nu 0∧getT st.T 83=.frz (l.map rowC) .unk∧getT st.T 84=.int (l.length:Nat)∧getT st.T 85=.int (i:Nat)∧getT st.T 113=.frz (r.1.map Gc) .unk∧getT st.T 114=.int (r.1.length:Nat)∧getT st.T 115=.int (x.2.2.1:Nat)∧st.S=x.1∧st.tk=tk∧st.n=x.2.1) (fun x=>r.1.length - x.2.2.1) (SX,nx,0,(List.replicate W z),false) ?_ ?_
 case refine_2=>exact ⟨(by first|rfl|assumption),Nat.zero_le _,rfl,by simp,fun q hq=>by rw [List.mem_replicate] at hq; rw [hq.2]; exact oz,by simp only [Bool.or_false]; exact hRX,(by first|rfl|assumption),(by first|rfl|assumption),(by first|rfl|assumption),(by first|rfl|assumption),(by first|rfl|assumption),(by first|rfl|assumption),(by first|rfl|assumption),(by first|rfl|assumption),(by first|rfl|assumption),(by first|rfl|assumption),(by first|rfl|assumption),(by first|rfl|assumption),(by first|rfl|assumption),(by first|rfl|assumption),(by first|rfl|assumption),(by first|rfl|assumption),(by first|rfl|assumption),(by first|rfl|assumption),(by first|rfl|assumption),(by first|rfl|assumption),(by first|rfl|assumption)⟩
 rintro ⟨SS,n1,j,row,f1⟩ ⟨T,S',tk',n'⟩ ⟨hl,hjc,hRc,hrw,orow,hRX,e0,e1,e2,e7,e10,e11,e12,e14,e15,e16,e18,e19,e83,e84,e85,e113,e114,e115,eS,eT,eN⟩ IH
 simp only at hjc hRc hrw orow hRX e0 e1 e2 e7 e10 e11 e12 e14 e15 e16 e18 e19 e83 e84 e85 e113 e114 e115 eS eT eN
 subst eS eT eN
 obtain ⟨g,hg,hT⟩:=Bp hl
 rw [hg] at e0 e1 e2 e7 e10 e11 e12 e14 e15 e16 e18 e19 e83 e84 e85 e113 e114 e115
 subst hT
 clear hg hl
 have hfr2:=hfew r hrm
 by_cases hjr:j<r.1.length
 ·have c2:decide ((j:Int)<(r.1.length:Int))=true:=by simpa using hjr
  have hw:IntKind.i64.wrap ((j:Int)+1)=((j+1:Nat):Int):=by rw [A0 (by unfold i64; omega)]; rfl
  obtain ⟨ct,hct⟩:=A6 hjr
  have hct':nth (r.1.map Gc) j=some [.prim (.string ct.1),.prim (.int .i64 ct.2)]:=by rw [E2,hct]; rfl
  have hctm:ct ∈ r.1:=Bj hct
  have hix:=Wt (hv r hrm ct hctm)
  obtain ⟨x,hx⟩:∃ x,x=idxV vars ct.1:=⟨_,rfl⟩
  rw [← hx] at hix
  have hfind:=fun S tk k=>Px S tk k vars ct.1 (by omega)
  simp only [hix.1] at hfind
  have hb1:2*x<W:=by omega
  have hb2:2*x+1<W:=by omega
  have hw2x:IntKind.i64.wrap (2*(x:Int))=((2*x:Nat):Int):=by rw [A0 (by unfold i64; omega)]; rfl
  have hw2y:IntKind.i64.wrap (((2*x:Nat):Int)+1)=((2*x+1:Nat):Int):=by rw [A0 (by unfold i64; omega)]; rfl
  have hdc:=Bw hct
  have hlX:=hRX.len
  have hfa:=hRX.T.fa
  have hic2:i64 ct.2:=(hc r hrm).2 ct hctm
  obtain ⟨w,hwd⟩:∃ w,w=qF.whole ct.2:=⟨_,rfl⟩
  have ow:qF.ok w.1:=by rw [hwd]; exact Du _ hic2
  have hmw:=Hl (S'++[(⟨n',[.prim (.string ct.1),.prim (.int .i64 ct.2)]⟩:Ent)]) tk' (n'+1) iq eq _ ct.2 hic2 hfa.app
  have hg1:=D1 (c:=w.2) (hfa.app (L:=[(⟨n',[.prim (.string ct.1),.prim (.int .i64 ct.2)]⟩:Ent)]))
  rw [← hwd] at hmw
  rw [Gg hfa] at hmw hg1
  obtain ⟨S1a,hS1a⟩:∃ S1a,S1a=flS S' iq eq w.2:=⟨_,rfl⟩
  have hR1:=hRX.flag (S':=flS S' iq eq w.2) (fun j hj=>Bg hj) Bo hfa.fS
  rw [← hS1a] at hmw hg1 hR1
  have hfb:=hR1.T.fa
  obtain ⟨y,hyd⟩:∃ y,y=qF.times u.1 w.1:=⟨_,rfl⟩
  have oy:qF.ok y.1:=by rw [hyd]; exact B7.times _ _ ou ow
  have hmt:=Xe (S1a++[(⟨n',[.prim (.string ct.1),.prim (.int .i64 ct.2)]⟩:Ent)]) tk' (n'+1+1) iq eq _ u.1 w.1 ou ow hfb.app
  have hg2:=D1 (c:=y.2) (hfb.app (L:=[(⟨n',[.prim (.string ct.1),.prim (.int .i64 ct.2)]⟩:Ent)]))
  rw [← hyd] at hmt
  rw [Gg hfb] at hmt hg2
  obtain ⟨S2a,hS2a⟩:∃ S2a,S2a=flS S1a iq eq y.2:=⟨_,rfl⟩
  have hR2:=hR1.flag (S':=flS S1a iq eq y.2) (fun j hj=>Bg hj) Bo hfb.fS
  rw [← hS2a] at hmt hg2 hR2
  have hR3:=hR2.put (put row (2*x) y.1)
  obtain ⟨S3a,hS3a⟩:∃ S3a,S3a=put S2a (L+1) ⟨m0+1,flat ceQ (put row (2*x) y.1)⟩:=⟨_,rfl⟩
  rw [← hS3a] at hR3
  have hl2a:=hR2.len
  have hP3:∀ e:Ent,put (S2a++[e]) (L+1) ⟨m0+1,flat ceQ (put row (2*x) y.1)⟩=S3a++[e]:=fun e=>by rw [Em (by omega),hS3a]
  have hfc:=hR3.T.fa
  obtain ⟨d,hdd⟩:∃ d,d=qF.minus z y.1:=⟨_,rfl⟩
  have od:qF.ok d.1:=by rw [hdd]; exact B7.minus _ _ oz oy
  have hmm:=Jk (S3a++[(⟨n',[.prim (.string ct.1),.prim (.int .i64 ct.2)]⟩:Ent)]) tk' (n'+1+1+4) iq eq _ z y.1 oz oy hfc.app
  have hg3:=D1 (c:=d.2) (hfc.app (L:=[(⟨n',[.prim (.string ct.1),.prim (.int .i64 ct.2)]⟩:Ent)]))
  rw [← hdd] at hmm
  rw [Gg hfc] at hmm hg3
  obtain ⟨S4a,hS4a⟩:∃ S4a,S4a=flS S3a iq eq d.2:=⟨_,rfl⟩
  have hR4:=hR3.flag (S':=flS S3a iq eq d.2) (fun j hj=>Bg hj) Bo hfc.fS
  rw [← hS4a] at hmm hg3 hR4
  have hl4a:=hR4.len
  have hR5:=hR4.put (put (put row (2*x) y.1) (2*x+1) d.1)
  obtain ⟨S5a,hS5a⟩:∃ S5a,S5a=put S4a (L+1) ⟨m0+1,flat ceQ (put (put row (2*x) y.1) (2*x+1) d.1)⟩:=⟨_,rfl⟩
  rw [← hS5a] at hR5
  have hP5:∀ e:Ent,put (S4a++[e]) (L+1) ⟨m0+1,flat ceQ (put (put row (2*x) y.1) (2*x+1) d.1)⟩=S5a++[e]:=fun e=>by rw [Em (by omega),hS5a]
  have hl5:=hR5.len
  have hcut:∀ e:Ent,List.take S'.length (S5a++[e])=S5a:=fun e=>by rw [hlX,← hl5]; simp
  have hE1:∀ e:Ent,Ak (S'++[e]) (L+2) nu=some (ceQ u.1):=fun e=>Ax hRX.E19
  have hE2:∀ e:Ent,Ak (S2a++[e]) (L+1) (m0+1)=some (flat ceQ row):=fun e=>Ax hR2.E16
  have hE3:∀ e:Ent,Ak (S3a++[e]) (S.length+1) nz=some (ceQ z):=fun e=>Ax hR3.Z
  have hE4:∀ e:Ent,Ak (S3a++[e]) (L+1) (m0+1)=some (flat ceQ (put row (2*x) y.1)):=fun e=>Ax hR3.E16
  have hE5:∀ e:Ent,Ak (S4a++[e]) (L+1) (m0+1)=some (flat ceQ (put row (2*x) y.1)):=fun e=>Ax hR4.E16
  have ho1:=De (ce:=ceQ) Ba (l:=row) (k:=2*x) (q':=y.1) (by omega)
  have ho2:=De (ce:=ceQ) Ba (l:=put row (2*x) y.1) (k:=2*x+1) (q':=d.1) (by rw [Bm]; omega)
  have htx:=Bu (ce:=ceQ) Ba (l:=put row (2*x) y.1) (k:=2*x) (q:=y.1) (E9 (by omega))
  simp (maxSteps:=1000000) +contextual (disch:=first|with_reducible assumption|exact ⟨rfl⟩|exact ⟨rfl,rfl⟩|exact ⟨rfl,rfl,rfl⟩|(refine _root_.id ?_; kernel_rfl)|omega) only [evs,Ad,nth,put,putT,getT,Ai,Aj,Ab,aUn,outA,resA,mapO,Aq,Ar,w1,w2,w3,bots,cond_true,cond_false,if_true,if_false,ite_true,ite_false,reduceIte,reduceCtorEq,implies_true,Nat.reduceAdd,Nat.reduceSub,AV.int,AV.bool,AV.str,Nat.reduceBEq,Nat.reduceEqDiff,Nat.reduceMul,Nat.reduceLT,Nat.reduceLeDiff,Int.reduceNeg,BEq.rfl,beq_self_eq_true,tabl,cellsOf,fldA,ldA,stA,Bd,Bc,A2,A1,Ae,Af,Ac,List.take_left,List.take_length,Ao,Am,over,Ag,Value.oneCell',idxA,nilA,Aa,Ap,Ah,pure1,pure2,reps,chkA,tys,Tryz.results81,evt,Av,Au,Al,e0,e1,e2,e7,e10,e11,e12,e14,e15,e16,e18,e19,e83,e84,e85,e113,e114,e115,c2,hw,hct',hfind,hw2x,hw2y,hb1,hb2,hmw,hg1,hmt,hg2,hP3,hmm,hg3,hP5,hcut,hE1,hE2,hE3,hE4,hE5,ho1,ho2,htx,Dx,xfs,puQ,tkQ,Ba,Bq]
  have hsc:setC qF u.1 z (idxV vars ct.1) row ct.2=(put (put row (2*x) y.1) (2*x+1) d.1,Bool.or (Bool.or w.2 y.2) d.2):=by unfold setC; rw [← hx,← hwd,← hyd,← hdd]
  rw [hdc] at hRc
  simp only [Me,hsc] at hRc
  have orow2:okL qF (put (put row (2*x) y.1) (2*x+1) d.1):=by
   intro q hq
   rcases Ek hq with rfl|hq
   ·exact od
   ·rcases Ek hq with rfl|hq
    ·exact oy
    ·exact orow q hq
  exact IH (S5a,n'+1+1+4+4,j+1,put (put row (2*x) y.1) (2*x+1) d.1,Bool.or f1 (Bool.or (Bool.or w.2 y.2) d.2)) _ (by first|omega|(simp only; omega)) ⟨rfl,by first|omega|(dsimp only; omega),by rw [hRc]; simp only [Bool.or_assoc],by rw [Bm,Bm]; exact hrw,orow2,by simpa only [Bool.or_assoc] using hR5,by and_intros <;> first|rfl|simp only [getT,List.map_append,List.map_cons,List.map_nil]⟩
 ·have c2:decide ((j:Int)<(r.1.length:Int))=false:=by simpa using hjr
  have hj0:r.1.drop j=[]:=List.drop_eq_nil_of_le (by omega)
  rw [hj0] at hRc
  simp only [Me,Bool.or_false] at hRc
  clear IH hj0 hjr hjc
  obtain ⟨n6,hn6⟩:∃ n6,n6=n':=⟨_,rfl⟩
  subst hn6
  obtain ⟨SU,hSU⟩:∃ SU,SU=S':=⟨_,rfl⟩
  subst hSU
  have hndr:=T3 hr
  have hE15a:=hRX.E15
  have hE19a:=hRX.E19
  have hE16a:=hRX.E16
  simp only [rowC,Bn] at hE15a
  have hlU:=hRX.len
  cases heq:r.2.2
  ·rw [heq,if_neg Bool.false_ne_true] at hndr
   have hs1:sl<W:=by omega
   have hs2:=De (ce:=ceQ) Ba (l:=row) (k:=sl) (q':=u.1) (by omega)
   have hs3:IntKind.i64.wrap ((sl:Int)+1)=((sl+1:Nat):Int):=by rw [A0 (by unfold i64; omega)]; rfl
   have hRY:=hRX.put (put row sl u.1)
   obtain ⟨rowY,hrowY⟩:∃ rowY,rowY=put row sl u.1:=⟨_,rfl⟩
   have hsF:Aa2 r.2.2 row sl u.1=rowY:=by rw [hrowY,heq]; rfl
   have hrwY:rowY.length=W:=by rw [hrowY,Bm]; exact hrw
   have orowY:okL qF rowY:=by
    rw [hrowY]
    intro q hq
    rcases Ek hq with rfl|hq
    ·exact ou
    ·exact orow q hq
   rw [← hrowY] at hs2 hRY
   obtain ⟨SY,hSY⟩:∃ SY,SY=put SU (L+1) ⟨m0+1,flat ceQ rowY⟩:=⟨_,rfl⟩
   rw [← hSY] at hRY
   have hs4:=hSY.symm
   obtain ⟨sl2,hsl2⟩:∃ sl2,sl2=sl+1:=⟨_,rfl⟩
   have hslF:(if r.2.2=true then sl else sl+1)=sl2:=by rw [heq,hsl2]; rfl
   have hsn2:sl2+neqs (l.drop (i+1))=c:=by omega
   rw [← hsl2] at hs3
   clear hSY
   have htY:=hRY.T.top
   simp only [hIt.1,hIt.2.1,hIt.2.2,hcl,hre,hva,hrq,intA] at htY
   have hci:c+i<W:=by omega
   have hwci:IntKind.i64.wrap ((c:Int)+(i:Int))=((c+i:Nat):Int):=by rw [A0 (by unfold i64; omega)]; rfl
   have hwW:IntKind.i64.wrap ((W:Int) - 1)=((W - 1:Nat):Int):=by rw [A0 (by unfold i64; omega)]; omega
   have hW1:W - 1<W:=by omega
   have hfa:=hRY.T.fa
   obtain ⟨o,hod⟩:∃ o,o=qF.whole 1:=⟨_,rfl⟩
   have oo:qF.ok o.1:=by rw [hod]; exact Du 1 (by unfold i64; omega)
   have hmo:=Hl SY tk' n6 iq eq _ 1 (by unfold i64; omega) hfa
   have hg0:=D1 (c:=o.2) hfa
   rw [← hod] at hmo
   obtain ⟨S5a,hS5a⟩:∃ S5a,S5a=flS SY iq eq o.2:=⟨_,rfl⟩
   have hR5:=hRY.flag (S':=flS SY iq eq o.2) (fun j hj=>Bg hj) Bo hfa.fS
   rw [← hS5a] at hmo hg0 hR5
   have ho5:=De (ce:=ceQ) Ba (l:=rowY) (k:=c+i) (q':=o.1) (by omega)
   have hR6:=hR5.put (put rowY (c+i) o.1)
   obtain ⟨row6,hrow6⟩:∃ row6,row6=put rowY (c+i) o.1:=⟨_,rfl⟩
   have hrw6:row6.length=W:=by rw [hrow6,Bm]; exact hrwY
   obtain ⟨S6a,hS6a⟩:∃ S6a,S6a=put S5a (L+1) ⟨m0+1,flat ceQ row6⟩:=⟨_,rfl⟩
   rw [← hrow6] at ho5 hR6
   rw [← hS6a] at hR6
   have hE16b:=hR5.E16
   have hfb:=hR6.T.fa
   have hZ6:=hR6.Z
   have hE15b:=hR6.E15
   have hE19b:=hR6.E19
   simp only [rowC,Bn] at hE15b
   obtain ⟨w,hwd⟩:∃ w,w=qF.whole r.2.1:=⟨_,rfl⟩
   have ow:qF.ok w.1:=by rw [hwd]; exact Du _ hcr1
   have hmw:=Hl S6a tk' (n6+1) iq eq _ r.2.1 hcr1 hfb
   have hg1:=D1 (c:=w.2) hfb
   rw [← hwd] at hmw
   obtain ⟨S7a,hS7a⟩:∃ S7a,S7a=flS S6a iq eq w.2:=⟨_,rfl⟩
   have hR7:=hR6.flag (S':=flS S6a iq eq w.2) (fun j hj=>Bg hj) Bo hfb.fS
   rw [← hS7a] at hmw hg1 hR7
   have hfc:=hR7.T.fa
   obtain ⟨y,hyd⟩:∃ y,y=qF.times u.1 w.1:=⟨_,rfl⟩
   have oy:qF.ok y.1:=by rw [hyd]; exact B7.times _ _ ou ow
   have hmt:=Xe S7a tk' (n6+1+1) iq eq _ u.1 w.1 ou ow hfc
   have hg2:=D1 (c:=y.2) hfc
   rw [← hyd] at hmt
   obtain ⟨S8a,hS8a⟩:∃ S8a,S8a=flS S7a iq eq y.2:=⟨_,rfl⟩
   have hR8:=hR7.flag (S':=flS S7a iq eq y.2) (fun j hj=>Bg hj) Bo hfc.fS
   rw [← hS8a] at hmt hg2 hR8
   have hfd:=hR8.T.fa
   obtain ⟨d,hdd⟩:∃ d,d=qF.minus z y.1:=⟨_,rfl⟩
   have od:qF.ok d.1:=by rw [hdd]; exact B7.minus _ _ oz oy
   have hmm:=Jk S8a tk' (n6+1+1+4) iq eq _ z y.1 oz oy hfd
   have hg3:=D1 (c:=d.2) hfd
   rw [← hdd] at hmm
   obtain ⟨S9a,hS9a⟩:∃ S9a,S9a=flS S8a iq eq d.2:=⟨_,rfl⟩
   have hR9:=hR8.flag (S':=flS S8a iq eq d.2) (fun j hj=>Bg hj) Bo hfd.fS
   rw [← hS9a] at hmm hg3 hR9
   have ho9:=De (ce:=ceQ) Ba (l:=row6) (k:=W - 1) (q':=d.1) (by omega)
   have hE16c:=hR9.E16
   have hRZ:=hR9.put (put row6 (W - 1) d.1)
   obtain ⟨rowZ,hrowZ⟩:∃ rowZ,rowZ=put row6 (W - 1) d.1:=⟨_,rfl⟩
   have hrwZ:rowZ.length=W:=by rw [hrowZ,Bm]; exact hrw6
   have orowZ:okL qF rowZ:=by
    rw [hrowZ,hrow6]
    intro q hq
    rcases Ek hq with rfl|hq
    ·exact od
    ·rcases Ek hq with rfl|hq
     ·exact oo
     ·exact orowY q hq
   obtain ⟨SZ,hSZ⟩:∃ SZ,SZ=put S9a (L+1) ⟨m0+1,flat ceQ rowZ⟩:=⟨_,rfl⟩
   rw [← hrowZ] at ho9 hRZ
   rw [← hSZ] at hRZ
   have hlast:Y5 qF u.1 z r.2.1=(d.1,Bool.or (Bool.or w.2 y.2) d.2):=by unfold Y5; rw [← hwd,← hyd,← hdd]
   have hRowF:rowF qF z vars c W i sl r=(rowZ,Bool.or (Bool.or (Bool.or u.2 f1) o.2) (Bool.or (Bool.or w.2 y.2) d.2)):=by
    unfold rowF
    simp only [hU,hRc,hlast,hsF,← hod,← hrow6,← hrowZ]
   obtain ⟨fr,hfrd⟩:∃ fr,fr=Bool.or (Bool.or (Bool.or u.2 f1) o.2) (Bool.or (Bool.or w.2 y.2) d.2):=⟨_,rfl⟩
   rw [← hfrd] at hRowF
   have hRZ2:Ga S SZ iq eq I { t1 with fl:=Bool.or t1.fl fr } cp L nz m0 (m0+1) nu z r rowZ u.1:=by
    rw [hfrd]
    simpa only [Bool.or_assoc] using hRZ
   have hS6b:=hS6a.symm
   have hSZb:=hSZ.symm
   simp (maxSteps:=1000000) +contextual (disch:=first|with_reducible assumption|exact ⟨rfl⟩|exact ⟨rfl,rfl⟩|exact ⟨rfl,rfl,rfl⟩|(refine _root_.id ?_; kernel_rfl)|omega) only [evs,Ad,nth,put,putT,getT,Ai,Aj,Ab,aUn,outA,resA,mapO,Aq,Ar,w1,w2,w3,bots,cond_true,cond_false,if_true,if_false,ite_true,ite_false,reduceIte,reduceCtorEq,implies_true,Nat.reduceAdd,Nat.reduceSub,AV.int,AV.bool,AV.str,Nat.reduceBEq,Nat.reduceEqDiff,Nat.reduceMul,Nat.reduceLT,Nat.reduceLeDiff,Int.reduceNeg,BEq.rfl,beq_self_eq_true,tabl,cellsOf,fldA,ldA,stA,Bd,Bc,A2,A1,Ae,Af,Ac,List.take_left,List.take_length,Ao,Am,over,Ag,Value.oneCell',idxA,nilA,Aa,Ap,Ah,pure1,pure2,reps,chkA,tys,Tryz.results81,evt,Av,Au,Al,e0,e1,e2,e7,e10,e11,e12,e14,e15,e16,e18,e19,e83,e84,e85,e113,e114,e115,c2,hE15a,hE19a,hE16a,heq,hs1,hs2,hs3,hs4,htY,hci,hwci,hwW,hW1,hmo,hg0,ho5,hE16b,hS6b,hZ6,hE15b,hE19b,hmw,hg1,hmt,hg2,hmm,hg3,ho9,hE16c,hSZb,Dx,xfs,puQ,tkQ,Ba,Bq]
   have hlst:begS qF z vars c W (l.drop i) i sl t1=begS qF z vars c W (l.drop (i+1)) (i+1) sl2 { t1 with rows:=t1.rows++[rowZ],cost:=(Jc qF c W 0 t1.cost rowZ).1,basis:=t1.basis++[c+i],flip:=t1.flip++[Ki r],fl:=Bool.or (Bool.or t1.fl fr) (Jc qF c W 0 t1.cost rowZ).2 }:=by
    rw [Bw hr]
    simp only [begS,hre]
    rw [hRowF,hslF]
   rw [hlst] at hR
   exact X0 rfl (Afy S l vars fl k iq eq c W nz z hB Φ i hil r hr sl2 hsn2 t1 I cp tk' hrq hcl hre hva hok hIt hIf rowZ fr hrwZ orowZ L m0 nu u (Ki r) rfl SZ _ _ hRZ2 hR back _ rfl rfl rfl rfl rfl rfl rfl rfl rfl rfl rfl rfl rfl rfl rfl rfl rfl rfl)
  ·rw [heq,if_pos rfl] at hndr
   have hs1:0<W:=by omega
   have hs2:=hs1
   have hs3:=hs1
   have hs4:=hs1
   have hRY:=hRX
   obtain ⟨rowY,hrowY⟩:∃ rowY,rowY=row:=⟨_,rfl⟩
   have hsF:Aa2 r.2.2 row sl u.1=rowY:=by rw [hrowY,heq]; rfl
   have hrwY:rowY.length=W:=by rw [hrowY]; exact hrw
   have orowY:okL qF rowY:=by rw [hrowY]; exact orow
   rw [← hrowY] at hRY
   obtain ⟨SY,hSY⟩:∃ SY,SY=SU:=⟨_,rfl⟩
   subst hSY
   have hslF:(if r.2.2=true then sl else sl+1)=sl:=by rw [heq]; rfl
   have hsn2:sl+neqs (l.drop (i+1))=c:=by omega
   have htY:=hRY.T.top
   simp only [hIt.1,hIt.2.1,hIt.2.2,hcl,hre,hva,hrq,intA] at htY
   have hci:c+i<W:=by omega
   have hwci:IntKind.i64.wrap ((c:Int)+(i:Int))=((c+i:Nat):Int):=by rw [A0 (by unfold i64; omega)]; rfl
   have hwW:IntKind.i64.wrap ((W:Int) - 1)=((W - 1:Nat):Int):=by rw [A0 (by unfold i64; omega)]; omega
   have hW1:W - 1<W:=by omega
   have hfa:=hRY.T.fa
   obtain ⟨o,hod⟩:∃ o,o=qF.whole 1:=⟨_,rfl⟩
   have oo:qF.ok o.1:=by rw [hod]; exact Du 1 (by unfold i64; omega)
   have hmo:=Hl SY tk' n6 iq eq _ 1 (by unfold i64; omega) hfa
   have hg0:=D1 (c:=o.2) hfa
   rw [← hod] at hmo
   obtain ⟨S5a,hS5a⟩:∃ S5a,S5a=flS SY iq eq o.2:=⟨_,rfl⟩
   have hR5:=hRY.flag (S':=flS SY iq eq o.2) (fun j hj=>Bg hj) Bo hfa.fS
   rw [← hS5a] at hmo hg0 hR5
   have ho5:=De (ce:=ceQ) Ba (l:=rowY) (k:=c+i) (q':=o.1) (by omega)
   have hR6:=hR5.put (put rowY (c+i) o.1)
   obtain ⟨row6,hrow6⟩:∃ row6,row6=put rowY (c+i) o.1:=⟨_,rfl⟩
   have hrw6:row6.length=W:=by rw [hrow6,Bm]; exact hrwY
   obtain ⟨S6a,hS6a⟩:∃ S6a,S6a=put S5a (L+1) ⟨m0+1,flat ceQ row6⟩:=⟨_,rfl⟩
   rw [← hrow6] at ho5 hR6
   rw [← hS6a] at hR6
   have hE16b:=hR5.E16
   have hfb:=hR6.T.fa
   have hZ6:=hR6.Z
   have hE15b:=hR6.E15
   have hE19b:=hR6.E19
   simp only [rowC,Bn] at hE15b
   obtain ⟨w,hwd⟩:∃ w,w=qF.whole r.2.1:=⟨_,rfl⟩
   have ow:qF.ok w.1:=by rw [hwd]; exact Du _ hcr1
   have hmw:=Hl S6a tk' (n6+1) iq eq _ r.2.1 hcr1 hfb
   have hg1:=D1 (c:=w.2) hfb
   rw [← hwd] at hmw
   obtain ⟨S7a,hS7a⟩:∃ S7a,S7a=flS S6a iq eq w.2:=⟨_,rfl⟩
   have hR7:=hR6.flag (S':=flS S6a iq eq w.2) (fun j hj=>Bg hj) Bo hfb.fS
   rw [← hS7a] at hmw hg1 hR7
   have hfc:=hR7.T.fa
   obtain ⟨y,hyd⟩:∃ y,y=qF.times u.1 w.1:=⟨_,rfl⟩
   have oy:qF.ok y.1:=by rw [hyd]; exact B7.times _ _ ou ow
   have hmt:=Xe S7a tk' (n6+1+1) iq eq _ u.1 w.1 ou ow hfc
   have hg2:=D1 (c:=y.2) hfc
   rw [← hyd] at hmt
   obtain ⟨S8a,hS8a⟩:∃ S8a,S8a=flS S7a iq eq y.2:=⟨_,rfl⟩
   have hR8:=hR7.flag (S':=flS S7a iq eq y.2) (fun j hj=>Bg hj) Bo hfc.fS
   rw [← hS8a] at hmt hg2 hR8
   have hfd:=hR8.T.fa
   obtain ⟨d,hdd⟩:∃ d,d=qF.minus z y.1:=⟨_,rfl⟩
   have od:qF.ok d.1:=by rw [hdd]; exact B7.minus _ _ oz oy
   have hmm:=Jk S8a tk' (n6+1+1+4) iq eq _ z y.1 oz oy hfd
   have hg3:=D1 (c:=d.2) hfd
   rw [← hdd] at hmm
   obtain ⟨S9a,hS9a⟩:∃ S9a,S9a=flS S8a iq eq d.2:=⟨_,rfl⟩
   have hR9:=hR8.flag (S':=flS S8a iq eq d.2) (fun j hj=>Bg hj) Bo hfd.fS
   rw [← hS9a] at hmm hg3 hR9
   have ho9:=De (ce:=ceQ) Ba (l:=row6) (k:=W - 1) (q':=d.1) (by omega)
   have hE16c:=hR9.E16
   have hRZ:=hR9.put (put row6 (W - 1) d.1)
   obtain ⟨rowZ,hrowZ⟩:∃ rowZ,rowZ=put row6 (W - 1) d.1:=⟨_,rfl⟩
   have hrwZ:rowZ.length=W:=by rw [hrowZ,Bm]; exact hrw6
   have orowZ:okL qF rowZ:=by
    rw [hrowZ,hrow6]
    intro q hq
    rcases Ek hq with rfl|hq
    ·exact od
    ·rcases Ek hq with rfl|hq
     ·exact oo
     ·exact orowY q hq
   obtain ⟨SZ,hSZ⟩:∃ SZ,SZ=put S9a (L+1) ⟨m0+1,flat ceQ rowZ⟩:=⟨_,rfl⟩
   rw [← hrowZ] at ho9 hRZ
   rw [← hSZ] at hRZ
   have hlast:Y5 qF u.1 z r.2.1=(d.1,Bool.or (Bool.or w.2 y.2) d.2):=by unfold Y5; rw [← hwd,← hyd,← hdd]
   have hRowF:rowF qF z vars c W i sl r=(rowZ,Bool.or (Bool.or (Bool.or u.2 f1) o.2) (Bool.or (Bool.or w.2 y.2) d.2)):=by
    unfold rowF
    simp only [hU,hRc,hlast,hsF,← hod,← hrow6,← hrowZ]
   obtain ⟨fr,hfrd⟩:∃ fr,fr=Bool.or (Bool.or (Bool.or u.2 f1) o.2) (Bool.or (Bool.or w.2 y.2) d.2):=⟨_,rfl⟩
   rw [← hfrd] at hRowF
   have hRZ2:Ga S SZ iq eq I { t1 with fl:=Bool.or t1.fl fr } cp L nz m0 (m0+1) nu z r rowZ u.1:=by
    rw [hfrd]
    simpa only [Bool.or_assoc] using hRZ
   have hS6b:=hS6a.symm
   have hSZb:=hSZ.symm
   simp (maxSteps:=1000000) +contextual (disch:=first|with_reducible assumption|exact ⟨rfl⟩|exact ⟨rfl,rfl⟩|exact ⟨rfl,rfl,rfl⟩|(refine _root_.id ?_; kernel_rfl)|omega) only [evs,Ad,nth,put,putT,getT,Ai,Aj,Ab,aUn,outA,resA,mapO,Aq,Ar,w1,w2,w3,bots,cond_true,cond_false,if_true,if_false,ite_true,ite_false,reduceIte,reduceCtorEq,implies_true,Nat.reduceAdd,Nat.reduceSub,AV.int,AV.bool,AV.str,Nat.reduceBEq,Nat.reduceEqDiff,Nat.reduceMul,Nat.reduceLT,Nat.reduceLeDiff,Int.reduceNeg,BEq.rfl,beq_self_eq_true,tabl,cellsOf,fldA,ldA,stA,Bd,Bc,A2,A1,Ae,Af,Ac,List.take_left,List.take_length,Ao,Am,over,Ag,Value.oneCell',idxA,nilA,Aa,Ap,Ah,pure1,pure2,reps,chkA,tys,Tryz.results81,evt,Av,Au,Al,e0,e1,e2,e7,e10,e11,e12,e14,e15,e16,e18,e19,e83,e84,e85,e113,e114,e115,c2,hE15a,hE19a,hE16a,heq,hs1,hs2,hs3,hs4,htY,hci,hwci,hwW,hW1,hmo,hg0,ho5,hE16b,hS6b,hZ6,hE15b,hE19b,hmw,hg1,hmt,hg2,hmm,hg3,ho9,hE16c,hSZb,Dx,xfs,puQ,tkQ,Ba,Bq]
   have hlst:begS qF z vars c W (l.drop i) i sl t1=begS qF z vars c W (l.drop (i+1)) (i+1) sl { t1 with rows:=t1.rows++[rowZ],cost:=(Jc qF c W 0 t1.cost rowZ).1,basis:=t1.basis++[c+i],flip:=t1.flip++[Ki r],fl:=Bool.or (Bool.or t1.fl fr) (Jc qF c W 0 t1.cost rowZ).2 }:=by
    rw [Bw hr]
    simp only [begS,hre]
    rw [hRowF,hslF]
   rw [hlst] at hR
   exact X0 rfl (Afy S l vars fl k iq eq c W nz z hB Φ i hil r hr sl hsn2 t1 I cp tk' hrq hcl hre hva hok hIt hIf rowZ fr hrwZ orowZ L m0 nu u (Ki r) rfl SZ _ _ hRZ2 hR back _ rfl rfl rfl rfl rfl rfl rfl rfl rfl rfl rfl rfl rfl rfl rfl rfl rfl rfl)
end
end Go.Proofs.YtcjffhadclngmaaGreat
namespace Go.Proofs.YtcjffhadclngmaaGreat
open Go
def Kz (iq eq:Nat) (n real:Nat) (rows cost basis flip:AV):List AV:=[.ifc 95 (.ref iq eq 0),.int (n:Nat),.int (real:Nat),rows,cost,basis,flip]
theorem Abs {a z:List AV} {j m:Nat} (h:j<m):nth (List.replicate j a++List.replicate (m - j) z) j=some z∧put (List.replicate j a++List.replicate (m - j) z) j a=List.replicate (j+1) a++List.replicate (m - (j+1)) z:=by
 have e:List.replicate (m - j) z=z :: List.replicate (m - (j+1)) z:=by rw [← List.replicate_succ]; congr 1; omega
 have hl:(List.replicate j a).length=j:=by simp
 rw [e]
 have h1:=H9 (p:=List.replicate j a) (u:=List.replicate (m - (j+1)) z) (x:=z)
 have h2:=Jv (p:=List.replicate j a) (u:=List.replicate (m - (j+1)) z) (x:=z) (y:=a)
 rw [hl] at h1 h2
 refine ⟨h1,?_⟩
 rw [h2,List.replicate_succ']
 simp
theorem Zg {sz:Nat} {a z:List AV} {j m:Nat} (h:j<m) (ha:a.length=sz) (hz:z.length=sz):over (List.replicate j a++List.replicate (m - j) z).flatten (j*sz) a=some (List.replicate (j+1) a++List.replicate (m - (j+1)) z).flatten:=by
 have h1:=Abs (a:=a) (z:=z) h
 rw [← h1.2]
 refine No (e:=z) (fun e he=>?_) h1.1 ha
 rcases List.mem_append.1 he with h|h
 ·rw [List.mem_replicate] at h; rw [h.2,ha]
 ·rw [List.mem_replicate] at h; rw [h.2,hz]
theorem Acv {ce:Q→List AV} {W:Nat} {z:Q} : (List.replicate W (ce z)).flatten=flat ce (List.replicate W z):=by unfold flat; rw [List.map_replicate]
theorem mk_Q {W:Nat} (h:W≤1048576):mkA Tryz.prog 138 (.int (W:Nat)) (.int (W:Nat))=some (W,2,(List.replicate W [.int 0,.int 0]).flatten):=by
 have hz:(Bt Tryz.prog 138).bind (An Tryz.prog)=some [.int 0,.int 0]:=by simp only [tys,Option.bind_some]
 have hs:(Bt Tryz.prog 138).bind (szOf Tryz.prog)=some 2:=by simp only [tys,Option.bind_some]
 obtain ⟨bb,hb,hbl⟩:∃ bb,(Bt Tryz.prog 138).bind (M0 Tryz.prog)=some bb∧bb≤1048576:=⟨16,by kernel_rfl,by omega⟩
 unfold mkA
 rw [hz,hs,hb,intN_cast]
 simp only [mkB]
 rw [if_pos ⟨Nat.le_refl _,h,hbl,rfl⟩]
def Abq (S:List Ent) (iq eq:Nat) (t':Tb) (r:Rs):Prop :=
 ∃ S' k' tk' I cc,r=(.ref I.it I.et 0,S',tk',k')∧S.length≤S'.length∧Bi S' iq eq I t' cc∧(∀ j,j<S.length→j≠iq→nth S' j=nth S j)∧(∀ j,j<S.length→j≠iq→OutQ I iq j)
section
variable (S:List Ent) (tk:List Nat) (k iq eq:Nat)
set_option maxHeartbeats 20000000 in
set_option maxRecDepth 100000 in
theorem Adx (l:List RowT) (fl:Bool) (hl:l.length≤1000) (hn:(Dr l).length≤1000) (vars:List ByteArray) (hv0:vars.length≤1000) (hv:∀ r ∈ l,∀ c ∈ r.1,c.1 ∈ vars) (hc:∀ r ∈ l,i64 r.2.1∧∀ c ∈ r.1,i64 c.2) (hfew:fewC l) (hiq:iq<S.length) (hf:FAq S iq eq fl) :
  ∃ r,cL Tryz.prog 81 [.ifc 95 (.ref iq eq 0),Bh l,A8 vars] S tk k=some r∧Abq S iq eq (Gv qF l vars fl) r:=by
 obtain ⟨Φ,hΦ⟩:∃ Φ,Φ=Abq S iq eq (Gv qF l vars fl):=⟨_,rfl⟩
 rw [← hΦ]
 have hw2:IntKind.i64.wrap (2*(vars.length:Int))=((2*vars.length:Nat):Int):=by rw [A0 (by unfold i64; omega)]; rfl
 refine Ab4 Tryz.func81 rfl rfl (by decide +kernel) Tryz.ntmps81 ?_; rw [Bs]
 simp (maxSteps:=1000000) +contextual (disch:=first|with_reducible assumption|exact ⟨rfl⟩|exact ⟨rfl,rfl⟩|exact ⟨rfl,rfl,rfl⟩|(refine _root_.id ?_; kernel_rfl)|omega) only [evs,Ad,nth,put,putT,getT,Ai,Aj,Ab,aUn,outA,resA,mapO,Aq,Ar,w1,w2,w3,bots,cond_true,cond_false,if_true,if_false,ite_true,ite_false,reduceIte,reduceCtorEq,implies_true,Nat.reduceAdd,Nat.reduceSub,AV.int,AV.bool,AV.str,Nat.reduceBEq,Nat.reduceEqDiff,Nat.reduceMul,Nat.reduceLT,Nat.reduceLeDiff,Int.reduceNeg,BEq.rfl,beq_self_eq_true,tabl,cellsOf,fldA,ldA,stA,Bd,Bc,A2,A1,Ae,Af,Ac,List.take_left,List.take_length,Ao,Am,over,Ag,Value.oneCell',idxA,nilA,Aa,Ap,Ah,pure1,pure2,reps,chkA,tys,Tryz.results81,evt,Av,Au,Al,Bh,A8,hw2]
 have htop0:∀ c,[AV.ifc 95 (.ref iq eq 0),.int (vars.length:Nat),.int (c:Nat),.frz [] .nilc,.frz [] .nilc,.frz [] .nilc,.frz [] .nilc]=Kz iq eq vars.length c (.frz [] .nilc) (.frz [] .nilc) (.frz [] .nilc) (.frz [] .nilc):=fun _=>rfl
 refine Hs (P:=Tryz.prog) (fun x st=>st.T.length=270∧(x.2.2≤l.length)∧(x.2.1+neqs (l.drop x.2.2)=2*vars.length+neqs l)∧getT st.T 0=.ifc 95 (.ref iq eq 0)∧getT st.T 1=.frz (l.map rowC) .unk∧getT st.T 2=.frz (vars.map strC) .unk∧getT st.T 7=.ref S.length k 0∧getT st.T 32=.frz (l.map rowC) .unk∧getT st.T 33=.int (l.length:Nat)∧getT st.T 34=.int (x.2.2:Nat)∧st.S=S++[⟨k,Kz iq eq vars.length x.2.1 (.frz [] .nilc) (.frz [] .nilc) (.frz [] .nilc) (.frz [] .nilc)⟩]∧st.tk=tk∧st.n=x.1) (fun x=>l.length - x.2.2) ((k+1),(2*vars.length),0) ?_ ?_
 case refine_2=>exact ⟨rfl,Nat.zero_le _,rfl,rfl,rfl,rfl,rfl,rfl,rfl,rfl,rfl,rfl,rfl⟩
 rintro ⟨n1,c,q⟩ ⟨T,S',tk',n'⟩ ⟨hl,hq,hcn,e0,e1,e2,e7,e32,e33,e34,eS,eT,eN⟩ IH
 simp only at hq hcn e0 e1 e2 e7 e32 e33 e34 eS eT eN
 subst eS eT eN
 obtain ⟨g,hg,hT⟩:=Bp hl
 rw [hg] at e0 e1 e2 e7 e32 e33 e34
 subst hT
 clear hg hl
 have hnl:=Rf l
 have htk1:∀ x y z:Ent,List.take (S++[x]).length (S++[y]++[z])=S++[y]:=fun x y z=>by
  have e:(S++[x]).length=(S++[y]).length:=by simp
  rw [e,List.take_left]
 by_cases hql:q<l.length
 ·have c1:decide ((q:Int)<(l.length:Int))=true:=by simpa using hql
  have hw:IntKind.i64.wrap ((q:Int)+1)=((q+1:Nat):Int):=by rw [A0 (by unfold i64; omega)]; rfl
  obtain ⟨r,hr⟩:=A6 hql
  have hr':=Ks hr
  have hnd:=T3 hr
  have hE1:Ak (S++[⟨k,Kz iq eq vars.length c (.frz [] .nilc) (.frz [] .nilc) (.frz [] .nilc) (.frz [] .nilc)⟩]++[⟨n',rowC r⟩]) S.length k=some (Kz iq eq vars.length c (.frz [] .nilc) (.frz [] .nilc) (.frz [] .nilc) (.frz [] .nilc)):=Ax Ae
  cases he:r.2.2 with
  | true =>
   rw [he,if_pos rfl] at hnd
   simp (maxSteps:=1000000) +contextual (disch:=first|with_reducible assumption|exact ⟨rfl⟩|exact ⟨rfl,rfl⟩|exact ⟨rfl,rfl,rfl⟩|(refine _root_.id ?_; kernel_rfl)|omega) only [evs,Ad,nth,put,putT,getT,Ai,Aj,Ab,aUn,outA,resA,mapO,Aq,Ar,w1,w2,w3,bots,cond_true,cond_false,if_true,if_false,ite_true,ite_false,reduceIte,reduceCtorEq,implies_true,Nat.reduceAdd,Nat.reduceSub,AV.int,AV.bool,AV.str,Nat.reduceBEq,Nat.reduceEqDiff,Nat.reduceMul,Nat.reduceLT,Nat.reduceLeDiff,Int.reduceNeg,BEq.rfl,beq_self_eq_true,tabl,cellsOf,fldA,ldA,stA,Bd,Bc,A2,A1,Ae,Af,Ac,List.take_left,List.take_length,Ao,Am,over,Ag,Value.oneCell',idxA,nilA,Aa,Ap,Ah,pure1,pure2,reps,chkA,tys,Tryz.results81,evt,Av,Au,Al,e0,e1,e2,e7,e32,e33,e34,c1,hw,hr',rowC,Bn,he]
   exact IH (n'+1,c,q+1) _ (by first|omega|(simp only; omega)) ⟨rfl,by first|omega|(dsimp only; omega),by first|omega|(dsimp only; omega),by and_intros <;> first|rfl|simp only [getT,List.map_append,List.map_cons,List.map_nil]⟩
  | false =>
   rw [he,if_neg Bool.false_ne_true] at hnd
   have hw3:IntKind.i64.wrap ((c:Int)+1)=((c+1:Nat):Int):=by rw [A0 (by unfold i64; omega)]; rfl
   simp (maxSteps:=1000000) +contextual (disch:=first|with_reducible assumption|exact ⟨rfl⟩|exact ⟨rfl,rfl⟩|exact ⟨rfl,rfl,rfl⟩|(refine _root_.id ?_; kernel_rfl)|omega) only [evs,Ad,nth,put,putT,getT,Ai,Aj,Ab,aUn,outA,resA,mapO,Aq,Ar,w1,w2,w3,bots,cond_true,cond_false,if_true,if_false,ite_true,ite_false,reduceIte,reduceCtorEq,implies_true,Nat.reduceAdd,Nat.reduceSub,AV.int,AV.bool,AV.str,Nat.reduceBEq,Nat.reduceEqDiff,Nat.reduceMul,Nat.reduceLT,Nat.reduceLeDiff,Int.reduceNeg,BEq.rfl,beq_self_eq_true,tabl,cellsOf,fldA,ldA,stA,Bd,Bc,A2,A1,Ae,Af,Ac,List.take_left,List.take_length,Ao,Am,over,Ag,Value.oneCell',idxA,nilA,Aa,Ap,Ah,pure1,pure2,reps,chkA,tys,Tryz.results81,evt,Av,Au,Al,e0,e1,e2,e7,e32,e33,e34,c1,hw,hw3,hr',rowC,Bn,he,Kz,htk1]
   exact IH (n'+1,c+1,q+1) _ (by first|omega|(simp only; omega)) ⟨rfl,by first|omega|(dsimp only; omega),by first|omega|(dsimp only; omega),by and_intros <;> first|rfl|simp only [getT,List.map_append,List.map_cons,List.map_nil]⟩
 ·have c1:decide ((q:Int)<(l.length:Int))=false:=by simpa using hql
  have hcr:c=2*vars.length+neqs l:=by
   have h0:l.drop q=[]:=List.drop_eq_nil_of_le (by omega)
   rw [h0] at hcn
   have h00:neqs ([]:List RowT)=0:=rfl
   omega
  obtain ⟨W,hWe⟩:∃ W,W=c+l.length+1:=⟨_,rfl⟩
  have hwW1:IntKind.i64.wrap ((c:Int)+(l.length:Int))=((c+l.length:Nat):Int):=by rw [A0 (by unfold i64; omega)]; rfl
  have hwW2:IntKind.i64.wrap (((c+l.length:Nat):Int)+1)=(W:Int):=by rw [A0 (by unfold i64; omega)]; omega
  obtain ⟨z,hz⟩:∃ z,z=qF.whole 0:=⟨_,rfl⟩
  have oz:qF.ok z.1:=by rw [hz]; exact Du 0 (by unfold i64; omega)
  obtain ⟨T0,hT0⟩:∃ T0:Ent,T0=⟨k,Kz iq eq vars.length c (.frz [] .nilc) (.frz [] .nilc) (.frz [] .nilc) (.frz [] .nilc)⟩:=⟨_,rfl⟩
  have hw0:=Hl (S++[⟨k,Kz iq eq vars.length c (.frz [] .nilc) (.frz [] .nilc) (.frz [] .nilc) (.frz [] .nilc)⟩]) tk' n' iq eq fl 0 (by unfold i64; omega) hf.app
  rw [← hz,Gg hf] at hw0
  obtain ⟨S1,hS1⟩:∃ S1,S1=flS S iq eq z.2:=⟨_,rfl⟩
  have hf1:FAq S1 iq eq (Bool.or fl z.2):=by rw [hS1]; exact hf.fS
  have hl1:S1.length=S.length:=by rw [hS1]; exact Bo
  have hn1:∀ v,v≠iq→nth S1 v=nth S v:=fun v hv=>by rw [hS1]; exact Bg hv
  rw [← hS1] at hw0
  obtain ⟨nz,hnz⟩:∃ nz,nz=n'+1:=⟨_,rfl⟩
  rw [← hnz] at hw0
  have hE2:Ak (S1++[⟨k,Kz iq eq vars.length c (.frz [] .nilc) (.frz [] .nilc) (.frz [] .nilc) (.frz [] .nilc)⟩]++[⟨nz,ceQ z.1⟩]++[⟨nz+1,(List.replicate W [.int 0,.int 0]).flatten⟩]) S.length k=some (Kz iq eq vars.length c (.frz [] .nilc) (.frz [] .nilc) (.frz [] .nilc) (.frz [] .nilc)):=Ax (Ax (Be hl1))
  have hP2:∀ e e' a b:Ent,put (S1++[e]++[a]++[b]) S.length e'=S1++[e']++[a]++[b]:=fun e e' a b=>by
   rw [Em (by simp; omega),Em (by simp; omega),Ez hl1]
  have hmk:=mk_Q (W:=W) (by omega)
  have hE3:=fun cs a b=>Ax (L:=[b]) (Ax (L:=[a]) (Be (k:=k) (cs:=cs) hl1))
  simp only [Kz] at hw0 hE2
  simp (maxSteps:=1000000) +contextual (disch:=first|with_reducible assumption|exact ⟨rfl⟩|exact ⟨rfl,rfl⟩|exact ⟨rfl,rfl,rfl⟩|(refine _root_.id ?_; kernel_rfl)|omega) only [evs,Ad,nth,put,putT,getT,Ai,Aj,Ab,aUn,outA,resA,mapO,Aq,Ar,w1,w2,w3,bots,cond_true,cond_false,if_true,if_false,ite_true,ite_false,reduceIte,reduceCtorEq,implies_true,Nat.reduceAdd,Nat.reduceSub,AV.int,AV.bool,AV.str,Nat.reduceBEq,Nat.reduceEqDiff,Nat.reduceMul,Nat.reduceLT,Nat.reduceLeDiff,Int.reduceNeg,BEq.rfl,beq_self_eq_true,tabl,cellsOf,fldA,ldA,stA,Bd,Bc,A2,A1,Ae,Af,Ac,List.take_left,List.take_length,Ao,Am,over,Ag,Value.oneCell',idxA,nilA,Aa,Ap,Ah,pure1,pure2,reps,chkA,tys,Tryz.results81,evt,Av,Au,Al,e0,e1,e2,e7,e32,e33,e34,c1,hw2,hwW1,hwW2,hw0,hmk,hE2,hE3,hP2,hl1,Kz,Dx,xfs,puQ,Ba,Bq,ovQ]
  obtain ⟨TP,hTP⟩:∃ TP,TP=Kz iq eq vars.length c (.frz [] .nilc) (.sref (S.length+2) (nz+1) 0 W 2) (.frz [] .nilc) (.frz [] .nilc):=⟨_,rfl⟩
  obtain ⟨S2,hS2⟩:∃ S2,S2=S1++[⟨k,TP⟩]++[⟨nz,ceQ z.1⟩]:=⟨_,rfl⟩
  have hl2:S2.length=S.length+2:=by rw [hS2]; simp [hl1]
  have hT2:Ak S2 S.length k=some TP:=by rw [hS2]; exact Ax (Be hl1)
  have hZ2:Ak S2 (S.length+1) nz=some (ceQ z.1):=by rw [hS2]; exact Be (by simp [hl1])
  have hf2:FAq S2 iq eq (Bool.or fl z.2):=by rw [hS2]; exact hf1.app.app
  have hn2:∀ j,j<S.length→j≠iq→nth S2 j=nth S j:=fun j h1 h2=>by rw [hS2,Da (by simp; omega),Da (by omega),hn1 j h2]
  have hTPe:[AV.ifc 95 (.ref iq eq 0),.int (vars.length:Nat),.int (c:Nat),.frz [] .nilc,.sref (S.length+2) (nz+1) 0 W 2,.frz [] .nilc,.frz [] .nilc]=TP:=hTP.symm
  have hLa:∀ x:Ent,(S1++[x]).length=S.length+1:=fun x=>by simp [hl1]
  have hLb:∀ x y:Ent,(S1++[x]++[y]).length=S.length+2:=fun x y=>by simp [hl1]
  rw [hLb,hLa]
  have hS2e:=hS2
  rw [hTP] at hS2e
  simp only [Kz] at hS2e
  rw [← hS2e]
  obtain ⟨Fl,hFl⟩:∃ Fl:Nat→List AV,Fl=fun j=>(List.replicate j (ceQ z.1)++List.replicate (W - j) ([.int 0,.int 0]:List AV)).flatten:=⟨_,rfl⟩
  have hF0:Fl 0=(List.replicate W ([.int 0,.int 0]:List AV)).flatten:=by rw [hFl]; rfl
  have hFW:Fl W=flat ceQ (List.replicate W z.1):=by rw [hFl]; simp only [Nat.sub_self,List.replicate_zero,List.append_nil]; exact Acv
  have hFo:∀ j,j<W→over (Fl j) (j*2) (ceQ z.1)=some (Fl (j+1)):=fun j hjW=>by rw [hFl]; exact Zg (sz:=2) (a:=ceQ z.1) (z:=([.int 0,.int 0]:List AV)) hjW (Ba _) rfl
  rw [← hF0]
  refine Hs (P:=Tryz.prog) (fun x st=>st.T.length=270∧(x.2≤W)∧getT st.T 0=.ifc 95 (.ref iq eq 0)∧getT st.T 1=.frz (l.map rowC) .unk∧getT st.T 2=.frz (vars.map strC) .unk∧getT st.T 7=.ref S.length k 0∧getT st.T 10=.int ((2*vars.length:Nat):Int)∧getT st.T 11=.int (W:Nat)∧getT st.T 12=.ref (S.length+1) nz 0∧getT st.T 71=.int (W:Nat)∧getT st.T 72=.int (x.2:Nat)∧st.S=S2++[⟨nz+1,Fl x.2⟩]∧st.tk=tk'∧st.n=x.1) (fun x=>W - x.2) ((nz+2),0) ?_ ?_
  case refine_2=>exact ⟨rfl,Nat.zero_le _,rfl,rfl,rfl,rfl,rfl,rfl,rfl,rfl,rfl,rfl,rfl,rfl⟩
  rintro ⟨n1,j⟩ ⟨T,S',tk',n'⟩ ⟨hl,hj,e0,e1,e2,e7,e10,e11,e12,e71,e72,eS,eT,eN⟩ IH
  simp only at hj e0 e1 e2 e7 e10 e11 e12 e71 e72 eS eT eN
  subst eS eT eN
  obtain ⟨g,hg,hT⟩:=Bp hl
  rw [hg] at e0 e1 e2 e7 e10 e11 e12 e71 e72
  subst hT
  clear hg hl
  have hE6:∀ cs,Ak (S2++[⟨nz+1,cs⟩]) (S.length+2) (nz+1)=some cs:=fun cs=>Be hl2
  have hP6:=fun e e'=>Ez (e:=e) (e':=e') hl2
  have hTk2:∀ x y:Ent,List.take (S2++[x]).length (S2++[y])=S2++[y]:=fun x y=>by
   have e:(S2++[x]).length=(S2++[y]).length:=by simp
   rw [e,List.take_length]
  by_cases hjW:j<W
  ·have c2:decide ((j:Int)<(W:Int))=true:=by simpa using hjW
   have hw:IntKind.i64.wrap ((j:Int)+1)=((j+1:Nat):Int):=by rw [A0 (by unfold i64; omega)]; rfl
   have hov:=hFo j hjW
   have hE4:∀ e:Ent,Ak (S2++[e]) S.length k=some TP:=fun e=>Ax hT2
   have hE5:∀ e:Ent,Ak (S2++[e]) (S.length+1) nz=some (ceQ z.1):=fun e=>Ax hZ2
   rw [hTP] at hE4
   simp only [Kz] at hE4
   simp (maxSteps:=1000000) +contextual (disch:=first|with_reducible assumption|exact ⟨rfl⟩|exact ⟨rfl,rfl⟩|exact ⟨rfl,rfl,rfl⟩|(refine _root_.id ?_; kernel_rfl)|omega) only [evs,Ad,nth,put,putT,getT,Ai,Aj,Ab,aUn,outA,resA,mapO,Aq,Ar,w1,w2,w3,bots,cond_true,cond_false,if_true,if_false,ite_true,ite_false,reduceIte,reduceCtorEq,implies_true,Nat.reduceAdd,Nat.reduceSub,AV.int,AV.bool,AV.str,Nat.reduceBEq,Nat.reduceEqDiff,Nat.reduceMul,Nat.reduceLT,Nat.reduceLeDiff,Int.reduceNeg,BEq.rfl,beq_self_eq_true,tabl,cellsOf,fldA,ldA,stA,Bd,Bc,A2,A1,Ae,Af,Ac,List.take_left,List.take_length,Ao,Am,over,Ag,Value.oneCell',idxA,nilA,Aa,Ap,Ah,pure1,pure2,reps,chkA,tys,Tryz.results81,evt,Av,Au,Al,e0,e1,e2,e7,e10,e11,e12,e71,e72,c2,hw,hjW,hov,hE4,hE5,hE6,hP6,hTk2,puQ,tkQ,Ba,Bq]
   exact IH (n',j+1) _ (by first|omega|(simp only; omega)) ⟨rfl,by first|omega|(dsimp only; omega),by and_intros <;> first|rfl|simp only [getT,List.map_append,List.map_cons,List.map_nil]⟩
  ·have c2:decide ((j:Int)<(W:Int))=false:=by simpa using hjW
   have hjW2:j=W:=by omega
   rw [hjW2] at c2 e72 ⊢
   clear hjW hjW2 hj
   rw [hFW]
   obtain ⟨S3,hS3⟩:∃ S3,S3=S2++[⟨nz+1,flat ceQ (List.replicate W z.1)⟩]:=⟨_,rfl⟩
   have hl3:S3.length=S.length+3:=by rw [hS3]; simp [hl2]
   have hn3:∀ j,j<S.length→j≠iq→nth S3 j=nth S j:=fun j h1 h2=>by rw [hS3,Da (by omega),hn2 j h1 h2]
   have hZ3:Ak S3 (S.length+1) nz=some (ceQ z.1):=by rw [hS3]; exact Ax hZ2
   obtain ⟨t0,ht0⟩:∃ t0:Tb,t0={ vars:=vars.length,real:=c,rows:=[],cost:=List.replicate W z.1,basis:=[],flip:=[],fl:=Bool.or fl z.2 }:=⟨_,rfl⟩
   obtain ⟨I0,hI0⟩:∃ I0:TI,I0=⟨S.length,k,S.length+3,0,S.length+2,nz+1,S.length+4,0,[]⟩:=⟨_,rfl⟩
   have hT3:Bi S3 iq eq I0 t0 .nilc:=by
    rw [hI0,ht0,hS3]
    refine ⟨?_,rfl,fun h=>absurd rfl h,fun i p r h=>by simp [nth] at h,fun r h=>by simp at h,?_,fun h=>absurd rfl h,rfl,rfl,hf2.app,?_,fun r h=>by simp at h,fun q hq=>?_,?_,by simp,?_,fun b h=>by simp at h⟩
    ·rw [Ax hT2,hTP]
     simp only [Kz,hd0,List.length_replicate,List.length_nil,List.map_nil]
     rfl
    ·exact Be hl2
    ·constructor <;> first|(simp only; omega)|(intro p hp; simp at hp)|(intro i j p q hp; simp [nth] at hp)
    ·rw [List.mem_replicate] at hq; rw [hq.2]; exact oz
    ·simp only [List.length_replicate]; omega
    ·simp only [List.length_replicate]; omega
   have hbeg:Gv qF l vars fl=begS qF z.1 vars c W l 0 (2*vars.length) t0:=by
    unfold Gv
    simp only
    rw [← hcr,← hWe,← hz,ht0]
   simp (maxSteps:=1000000) +contextual (disch:=first|with_reducible assumption|exact ⟨rfl⟩|exact ⟨rfl,rfl⟩|exact ⟨rfl,rfl,rfl⟩|(refine _root_.id ?_; kernel_rfl)|omega) only [evs,Ad,nth,put,putT,getT,Ai,Aj,Ab,aUn,outA,resA,mapO,Aq,Ar,w1,w2,w3,bots,cond_true,cond_false,if_true,if_false,ite_true,ite_false,reduceIte,reduceCtorEq,implies_true,Nat.reduceAdd,Nat.reduceSub,AV.int,AV.bool,AV.str,Nat.reduceBEq,Nat.reduceEqDiff,Nat.reduceMul,Nat.reduceLT,Nat.reduceLeDiff,Int.reduceNeg,BEq.rfl,beq_self_eq_true,tabl,cellsOf,fldA,ldA,stA,Bd,Bc,A2,A1,Ae,Af,Ac,List.take_left,List.take_length,Ao,Am,over,Ag,Value.oneCell',idxA,nilA,Aa,Ap,Ah,pure1,pure2,reps,chkA,tys,Tryz.results81,evt,Av,Au,Al,e0,e1,e2,e7,e10,e11,e12,e71,e72,c2]
   rw [← hS3]
   clear hE6 hP6 hTk2 e0 e1 e2 e7 e10 e11 e12 e71 e72 c1 c2
   refine Hs (P:=Tryz.prog) (fun x st=>st.T.length=270∧(x.2.2.2.2.1≤l.length)∧(Gv qF l vars fl=begS qF z.1 vars c W (l.drop x.2.2.2.2.1) x.2.2.2.2.1 x.2.2.2.2.2.1 x.2.2.2.2.2.2.1)∧(Bi x.1 iq eq x.2.2.2.2.2.2.2 x.2.2.2.2.2.2.1 x.2.2.2.1)∧(x.2.2.2.2.2.2.1.rows.length=x.2.2.2.2.1)∧(x.2.2.2.2.2.2.1.cost.length=W)∧(x.2.2.2.2.2.2.1.real=c)∧(x.2.2.2.2.2.2.1.vars=vars.length)∧(x.2.2.2.2.2.1+neqs (l.drop x.2.2.2.2.1)=c)∧(Bx x.2.2.1 x.2.2.2.1 1=true)∧(Ak x.1 (S.length+1) nz=some (ceQ z.1))∧(S.length+3≤x.1.length)∧(∀ j,j<S.length→j≠iq→nth x.1 j=nth S j)∧(x.2.2.2.2.2.2.2.it=S.length∧x.2.2.2.2.2.2.2.et=k∧x.2.2.2.2.2.2.2.ic=S.length+2)∧(S.length+2<x.2.2.2.2.2.2.2.ir∧S.length+2<x.2.2.2.2.2.2.2.ib∧∀ p ∈ x.2.2.2.2.2.2.2.ids,S.length+2<p.1)∧getT st.T 0=.ifc 95 (.ref iq eq 0)∧getT st.T 1=.frz (l.map rowC) .unk∧getT st.T 2=.frz (vars.map strC) .unk∧getT st.T 7=.ref S.length k 0∧getT st.T 10=.int (x.2.2.2.2.2.1:Nat)∧getT st.T 11=.int (W:Nat)∧getT st.T 12=.ref (S.length+1) nz 0∧getT st.T 83=.frz (l.map rowC) .unk∧getT st.T 84=.int (l.length:Nat)∧getT st.T 85=.int (x.2.2.2.2.1:Nat)∧st.S=x.1∧st.tk=x.2.2.1∧st.n=x.2.1) (fun x=>l.length - x.2.2.2.2.1) (S3,n',tk',Cap.nilc,0,(2*vars.length),t0,I0) ?_ ?_
   case refine_2=>exact ⟨rfl,Nat.zero_le _,hbeg,hT3,by rw [ht0]; rfl,by rw [ht0]; simp,by rw [ht0],by rw [ht0],by rw [hcr]; rfl,rfl,hZ3,Nat.le_of_eq hl3.symm,hn3,by rw [hI0]; exact ⟨rfl,rfl,rfl⟩,by rw [hI0]; exact ⟨by simp only; omega,by simp only; omega,fun p hp=>by simp at hp⟩,rfl,rfl,rfl,rfl,rfl,rfl,rfl,rfl,rfl,rfl,rfl,rfl,rfl⟩
   rintro ⟨SS,n1,tk1,cp,i,sl,t1,I⟩ ⟨T,S',tk',n'⟩ ⟨hl,hi,hR,hT,hrq,hcl,hre,hva,hsn,hok,hZ,hL3,hfr,hIt,hIf,e0,e1,e2,e7,e10,e11,e12,e83,e84,e85,eS,eT,eN⟩ IH
   simp only at hi hR hT hrq hcl hre hva hsn hok hZ hL3 hfr hIt hIf e0 e1 e2 e7 e10 e11 e12 e83 e84 e85 eS eT eN
   subst eS eT eN
   obtain ⟨g,hg,hT⟩:=Bp hl
   rw [hg] at e0 e1 e2 e7 e10 e11 e12 e83 e84 e85
   subst hT
   clear hg hl
   have IHA:=IH
   clear IH
   obtain ⟨m0,hm0⟩:∃ m0,m0=n':=⟨_,rfl⟩
   subst hm0
   obtain ⟨SA,hSA⟩:∃ SA,SA=S':=⟨_,rfl⟩
   subst hSA
   obtain ⟨tkA,htkA⟩:∃ tkA,tkA=tk':=⟨_,rfl⟩
   subst htkA
   obtain ⟨L,hL⟩:∃ L,L=SA.length:=⟨_,rfl⟩
   by_cases hil:i<l.length
   ·have c1:decide ((i:Int)<(l.length:Int))=true:=by simpa using hil
    have hwi:IntKind.i64.wrap ((i:Int)+1)=((i+1:Nat):Int):=by rw [A0 (by unfold i64; omega)]; rfl
    obtain ⟨r,hr⟩:=A6 hil
    have hr':=Ks hr
    have hrm:r ∈ l:=Bj hr
    have hLa:∀ x:Ent,(SA++[x]).length=L+1:=fun x=>by simp [hL]
    have back:∀ st,Yl S l vars fl k iq eq c W nz z.1 (i+1) st→Gd finM Φ (KA Tryz.prog Tryz.f81 18 [] st):=fun st h=>by
     obtain ⟨sl',t1',I',cp',h1,h2,h3,h4,h5,h6,h7,h8,h9,h10,h11,h12,h13,h14,hT270,s0,s1,s2,s7,s10,s11,s12,s83,s84,s85⟩:=h
     exact Afe rfl (t:=.mk) (IHA (st.S,st.n,st.tk,cp',i+1,sl',t1',I') st (by show l.length - (i+1)<l.length - i; omega) ⟨hT270,h1,h2,h3,h4,h5,h6,h7,h8,h9,h10,h11,h12,h13,h14,s0,s1,s2,s7,s10,s11,s12,s83,s84,s85,rfl,rfl,rfl⟩)
    clear IHA
    simp (maxSteps:=1000000) +contextual (disch:=first|with_reducible assumption|exact ⟨rfl⟩|exact ⟨rfl,rfl⟩|exact ⟨rfl,rfl,rfl⟩|(refine _root_.id ?_; kernel_rfl)|omega) only [evs,Ad,nth,put,putT,getT,Ai,Aj,Ab,aUn,outA,resA,mapO,Aq,Ar,w1,w2,w3,bots,cond_true,cond_false,if_true,if_false,ite_true,ite_false,reduceIte,reduceCtorEq,implies_true,Nat.reduceAdd,Nat.reduceSub,AV.int,AV.bool,AV.str,Nat.reduceBEq,Nat.reduceEqDiff,Nat.reduceMul,Nat.reduceLT,Nat.reduceLeDiff,Int.reduceNeg,BEq.rfl,beq_self_eq_true,tabl,cellsOf,fldA,ldA,stA,Bd,Bc,A2,A1,Ae,Af,Ac,List.take_left,List.take_length,Ao,Am,over,Ag,Value.oneCell',idxA,nilA,Aa,Ap,Ah,pure1,pure2,reps,chkA,tys,Tryz.results81,evt,Av,Au,Al,e0,e1,e2,e7,e10,e11,e12,e83,e84,e85,c1,hr',rowC,Bn,hmk,Nat.le_refl]
    rw [hLa,← hL,← hF0]
    obtain ⟨SB,hSB⟩:∃ SB,SB=SA++[(⟨m0,rowC r⟩:Ent)]:=⟨_,rfl⟩
    have hlB:SB.length=L+1:=by rw [hSB]; exact hLa _
    have hSBe:=hSB
    simp only [rowC,Bn] at hSBe
    rw [← hSBe]
    refine Hs (P:=Tryz.prog) (fun x st=>st.T.length=270∧(x.2≤W)∧getT st.T 0=.ifc 95 (.ref iq eq 0)∧getT st.T 1=.frz (l.map rowC) .unk∧getT st.T 2=.frz (vars.map strC) .unk∧getT st.T 7=.ref S.length k 0∧getT st.T 10=.int (sl:Nat)∧getT st.T 11=.int (W:Nat)∧getT st.T 12=.ref (S.length+1) nz 0∧getT st.T 14=.int (i:Nat)∧getT st.T 15=.ref L m0 0∧getT st.T 16=.sref (L+1) (m0+1) 0 W 2∧getT st.T 83=.frz (l.map rowC) .unk∧getT st.T 84=.int (l.length:Nat)∧getT st.T 85=.int (i:Nat)∧getT st.T 93=.int (W:Nat)∧getT st.T 94=.int (x.2:Nat)∧st.S=SB++[⟨m0+1,Fl x.2⟩]∧st.tk=tkA∧st.n=x.1) (fun x=>W - x.2) ((m0+2),0) ?_ ?_
    case refine_2=>exact ⟨rfl,Nat.zero_le _,rfl,rfl,rfl,rfl,rfl,rfl,rfl,rfl,rfl,rfl,rfl,rfl,rfl,rfl,rfl,rfl,rfl,rfl⟩
    rintro ⟨n1,j⟩ ⟨T,S',tk',n'⟩ ⟨hl,hj,e0,e1,e2,e7,e10,e11,e12,e14,e15,e16,e83,e84,e85,e93,e94,eS,eT,eN⟩ IH
    simp only at hj e0 e1 e2 e7 e10 e11 e12 e14 e15 e16 e83 e84 e85 e93 e94 eS eT eN
    subst eS eT eN
    obtain ⟨g,hg,hT⟩:=Bp hl
    rw [hg] at e0 e1 e2 e7 e10 e11 e12 e14 e15 e16 e83 e84 e85 e93 e94
    subst hT
    clear hg hl
    by_cases hjW:j<W
    ·have c2:decide ((j:Int)<(W:Int))=true:=by simpa using hjW
     have hw:IntKind.i64.wrap ((j:Int)+1)=((j+1:Nat):Int):=by rw [A0 (by unfold i64; omega)]; rfl
     have hov:=hFo j hjW
     have hE5:∀ b:Ent,Ak (SB++[b]) (S.length+1) nz=some (ceQ z.1):=fun b=>by rw [hSB]; exact Ax (Ax hZ)
     have hE6:∀ cs,Ak (SB++[⟨m0+1,cs⟩]) (L+1) (m0+1)=some cs:=fun cs=>Be hlB
     have hP6:=fun e e'=>Ez (e:=e) (e':=e') hlB
     have hTk2:∀ x y:Ent,List.take (SB++[x]).length (SB++[y])=SB++[y]:=fun x y=>by
      have e:(SB++[x]).length=(SB++[y]).length:=by simp
      rw [e,List.take_length]
     simp (maxSteps:=1000000) +contextual (disch:=first|with_reducible assumption|exact ⟨rfl⟩|exact ⟨rfl,rfl⟩|exact ⟨rfl,rfl,rfl⟩|(refine _root_.id ?_; kernel_rfl)|omega) only [evs,Ad,nth,put,putT,getT,Ai,Aj,Ab,aUn,outA,resA,mapO,Aq,Ar,w1,w2,w3,bots,cond_true,cond_false,if_true,if_false,ite_true,ite_false,reduceIte,reduceCtorEq,implies_true,Nat.reduceAdd,Nat.reduceSub,AV.int,AV.bool,AV.str,Nat.reduceBEq,Nat.reduceEqDiff,Nat.reduceMul,Nat.reduceLT,Nat.reduceLeDiff,Int.reduceNeg,BEq.rfl,beq_self_eq_true,tabl,cellsOf,fldA,ldA,stA,Bd,Bc,A2,A1,Ae,Af,Ac,List.take_left,List.take_length,Ao,Am,over,Ag,Value.oneCell',idxA,nilA,Aa,Ap,Ah,pure1,pure2,reps,chkA,tys,Tryz.results81,evt,Av,Au,Al,e0,e1,e2,e7,e10,e11,e12,e14,e15,e16,e83,e84,e85,e93,e94,c2,hw,hjW,hov,hE5,hE6,hP6,hTk2,puQ,tkQ,Ba,Bq]
     exact IH (n',j+1) _ (by first|omega|(simp only; omega)) ⟨rfl,by first|omega|(dsimp only; omega),by and_intros <;> first|rfl|simp only [getT,List.map_append,List.map_cons,List.map_nil]⟩
    ·have c2:decide ((j:Int)<(W:Int))=false:=by simpa using hjW
     have hjW2:j=W:=by omega
     rw [hjW2] at c2 e94 ⊢
     clear hjW hjW2 hj
     rw [hFW]
     obtain ⟨n5,hn5⟩:∃ n5,n5=n':=⟨_,rfl⟩
     subst hn5
     obtain ⟨SC,hSC⟩:∃ SC,SC=SB++[(⟨m0+1,flat ceQ (List.replicate W z.1)⟩:Ent)]:=⟨_,rfl⟩
     rw [← hSC]
     have hlC:SC.length=L+2:=by rw [hSC]; simp [hlB]
     have hTC:Bi SC iq eq I t1 cp:=by rw [hSC,hSB]; exact (hT.app _).app _
     have hlow:LowQ I iq L t1:=by rw [hL]; exact hT.low
     have hE15:Ak SC L m0=some (rowC r):=by rw [hSC,hSB]; exact Ax (Be hL.symm)
     have hE16:Ak SC (L+1) (m0+1)=some (flat ceQ (List.replicate W z.1)):=by rw [hSC]; exact Be hlB
     have hZC:Ak SC (S.length+1) nz=some (ceQ z.1):=by rw [hSC,hSB]; exact Ax (Ax hZ)
     have hfC:∀ j,j<S.length→j≠iq→nth SC j=nth S j:=fun j h1 h2=>by rw [hSC,hSB,Da (by simp; omega),Da (by omega),hfr j h1 h2]
     have hcr1:i64 r.2.1:=(hc r hrm).1
     obtain ⟨one,hone⟩:∃ one,one=qF.whole 1:=⟨_,rfl⟩
     have o1:qF.ok one.1:=by rw [hone]; exact Du 1 (by unfold i64; omega)
     have hwo:=Hl SC tk' n5 iq eq t1.fl 1 (by unfold i64; omega) hTC.fa
     rw [← hone] at hwo
     obtain ⟨SD,hSD⟩:∃ SD,SD=flS SC iq eq one.2:=⟨_,rfl⟩
     have hlD:SD.length=L+2:=by rw [hSD,Bo]; exact hlC
     have hnD:∀ v,v≠iq→nth SD v=nth SC v:=fun v hv=>by rw [hSD]; exact Bg hv
     have hfD:FAq SD iq eq (Bool.or t1.fl one.2):=by rw [hSD]; exact hTC.fa.fS
     rw [← hSD] at hwo
     obtain ⟨nu,hnu⟩:∃ nu,nu=n5+1:=⟨_,rfl⟩
     rw [← hnu] at hwo
     have hTD:Bi SD iq eq I { t1 with fl:=Bool.or t1.fl one.2 } cp:=hTC.flag hnD hfD
     have hLd:SD.length=L+2:=hlD
     have hRD:Ga S (SD++[⟨nu,ceQ one.1⟩]) iq eq I { t1 with fl:=Bool.or t1.fl one.2 } cp L nz m0 (m0+1) nu z.1 r (List.replicate W z.1) one.1 :=
      ⟨hTD.app _,hlow.of fun h=>h,by rw [Ax (e:=nz) (by rw [Ay (hnD _ (by omega))]; exact hZC)],by rw [Ax (by rw [Ay (hnD _ (by omega))]; exact hE15)],by rw [Ax (by rw [Ay (hnD _ (by omega))]; exact hE16)],Be hlD,by simp [hlD],fun j h1 h2=>by rw [Da (by omega),hnD j h2]; exact hfC j h1 h2,hiq,by omega,hIt.2.2⟩
     have hE15D:=hRD.E15
     have hE19D:=hRD.E19
     have hlE:(SD++[(⟨nu,ceQ one.1⟩:Ent)]).length=L+3:=hRD.len
     have hLD:∀ x:Ent,(SD++[x]).length=L+3:=fun x=>by simp [hlD]
     simp only [rowC] at hE15D
     have hEn:∀ cs,Ak (SD++[⟨nu,cs⟩]) (L+2) nu=some cs:=fun cs=>Be hlD
     have hPn:=fun e e'=>Ez (e:=e) (e':=e') hlD
     clear hSC hSB hSBe
     cases hfl:Ki r
     ·have c3:decide (0<r.2.1)=false:=hfl
      have hU:Adf qF (Ki r)=one:=by rw [hfl,hone]; rfl
      simp (maxSteps:=1000000) +contextual (disch:=first|with_reducible assumption|exact ⟨rfl⟩|exact ⟨rfl,rfl⟩|exact ⟨rfl,rfl,rfl⟩|(refine _root_.id ?_; kernel_rfl)|omega) only [evs,Ad,nth,put,putT,getT,Ai,Aj,Ab,aUn,outA,resA,mapO,Aq,Ar,w1,w2,w3,bots,cond_true,cond_false,if_true,if_false,ite_true,ite_false,reduceIte,reduceCtorEq,implies_true,Nat.reduceAdd,Nat.reduceSub,AV.int,AV.bool,AV.str,Nat.reduceBEq,Nat.reduceEqDiff,Nat.reduceMul,Nat.reduceLT,Nat.reduceLeDiff,Int.reduceNeg,BEq.rfl,beq_self_eq_true,tabl,cellsOf,fldA,ldA,stA,Bd,Bc,A2,A1,Ae,Af,Ac,List.take_left,List.take_length,Ao,Am,over,Ag,Value.oneCell',idxA,nilA,Aa,Ap,Ah,pure1,pure2,reps,chkA,tys,Tryz.results81,evt,Av,Au,Al,e0,e1,e2,e7,e10,e11,e12,e14,e15,e16,e83,e84,e85,e93,e94,c2,c3,hE15,rowC,Bn,hwo,hE15D,hEn,hPn,hlD,Dx,xfs,puQ,Ba,Bq,ovQ]
      clear e0 e1 e2 e7 e10 e11 e12 e14 e15 e16 e83 e84 e85 e93 e94 c2 c3 IH hPn hEn
      obtain ⟨SX,hSX⟩:∃ SX,SX=SD++[(⟨nu,ceQ one.1⟩:Ent)]:=⟨_,rfl⟩
      obtain ⟨nx,hnx⟩:∃ nx,nx=nu+1:=⟨_,rfl⟩
      rw [← hSX,← hnx]
      rw [← hSX] at hRD
      obtain ⟨u,hu⟩:∃ u:Q × Bool,u=one:=⟨_,rfl⟩
      rw [← hu] at hRD hU
      have ou:qF.ok u.1:=by rw [hu]; exact o1
      have hRX:=hRD
      clear hRD hE15D hE19D hlE hLD hnu hTD hLd hfD hnD hlD hwo hSD hSX hnx hE16 hE15 hZC hfC hTC hlC hu o1 hone
      have h18:AV.prim (.bool false)=.prim (.bool (Ki r)):=by rw [hfl]
      exact X0 rfl (Agi S l vars fl k iq eq c W nz z.1 ⟨hl,hv0,hv,hc,hfew,hiq,hcr,hWe⟩ oz Φ i hil r hr sl hsn t1 I cp tk' hrq hcl hre hva hok hIt hIf L m0 nu u hU ou SX nx _ hRX hR back _ rfl rfl rfl rfl rfl rfl rfl rfl rfl rfl rfl h18 rfl rfl rfl rfl rfl rfl rfl)
     ·have c3:decide (0<r.2.1)=true:=hfl
      obtain ⟨neg,hneg⟩:∃ neg,neg=qF.whole (-1):=⟨_,rfl⟩
      have on:qF.ok neg.1:=by rw [hneg]; exact Du (-1) (by unfold i64; omega)
      have hU:Adf qF (Ki r)=(neg.1,Bool.or one.2 neg.2):=by rw [hfl,hone,hneg]; rfl
      have hw1:=Hl (SD++[⟨nu,ceQ one.1⟩]) tk' (nu+1) iq eq (Bool.or t1.fl one.2) (-1) (by unfold i64; omega) hRD.T.fa
      rw [← hneg,Gg hfD] at hw1
      obtain ⟨SE,hSE⟩:∃ SE,SE=flS SD iq eq neg.2:=⟨_,rfl⟩
      have hlE:SE.length=L+2:=by rw [hSE,Bo]; exact hlD
      have hRE:=hRD.flag (S':=flS (SD++[⟨nu,ceQ one.1⟩]) iq eq neg.2) (fun j hj=>Bg hj) Bo hRD.T.fa.fS
      rw [Gg hfD,← hSE] at hRE
      rw [← hSE] at hw1
      have hRF:=hRE.unit neg.1
      have hEm:∀ cs,Ak (SE++[⟨nu,cs⟩]) (L+2) nu=some cs:=fun cs=>Be hlE
      have hPm:=fun e e'=>Ez (e:=e) (e':=e') hlE
      rw [hPm] at hRF
      have hE15F:=hRF.E15
      simp only [rowC] at hE15F
      simp (maxSteps:=1000000) +contextual (disch:=first|with_reducible assumption|exact ⟨rfl⟩|exact ⟨rfl,rfl⟩|exact ⟨rfl,rfl,rfl⟩|(refine _root_.id ?_; kernel_rfl)|omega) only [evs,Ad,nth,put,putT,getT,Ai,Aj,Ab,aUn,outA,resA,mapO,Aq,Ar,w1,w2,w3,bots,cond_true,cond_false,if_true,if_false,ite_true,ite_false,reduceIte,reduceCtorEq,implies_true,Nat.reduceAdd,Nat.reduceSub,AV.int,AV.bool,AV.str,Nat.reduceBEq,Nat.reduceEqDiff,Nat.reduceMul,Nat.reduceLT,Nat.reduceLeDiff,Int.reduceNeg,BEq.rfl,beq_self_eq_true,tabl,cellsOf,fldA,ldA,stA,Bd,Bc,A2,A1,Ae,Af,Ac,List.take_left,List.take_length,Ao,Am,over,Ag,Value.oneCell',idxA,nilA,Aa,Ap,Ah,pure1,pure2,reps,chkA,tys,Tryz.results81,evt,Av,Au,Al,e0,e1,e2,e7,e10,e11,e12,e14,e15,e16,e83,e84,e85,e93,e94,c2,c3,hE15,rowC,Bn,hwo,hE15D,hEn,hPn,hlD,hw1,hEm,hPm,hE15F,Dx,xfs,puQ,Ba,Bq,ovQ,ovQ2]
      clear e0 e1 e2 e7 e10 e11 e12 e14 e15 e16 e83 e84 e85 e93 e94 c2 c3 IH hPn hEn hPm hEm
      obtain ⟨SX,hSX⟩:∃ SX,SX=SE++[(⟨nu,ceQ neg.1⟩:Ent)]:=⟨_,rfl⟩
      obtain ⟨nx,hnx⟩:∃ nx,nx=nu+1+1:=⟨_,rfl⟩
      rw [← hSX,← hnx]
      rw [← hSX] at hRF
      obtain ⟨u,hu⟩:∃ u:Q × Bool,u=(neg.1,Bool.or one.2 neg.2):=⟨_,rfl⟩
      rw [← hu] at hU
      have ou:qF.ok u.1:=by rw [hu]; exact on
      have hRX:Ga S SX iq eq I { t1 with fl:=Bool.or t1.fl u.2 } cp L nz m0 (m0+1) nu z.1 r (List.replicate W z.1) u.1:=by
       rw [hu]
       simp only [← Bool.or_assoc]
       exact hRF
      clear hRD hE15D hE19D hlE hLD hnu hTD hLd hfD hnD hlD hwo hSD hSX hnx hE16 hE15 hZC hfC hTC hlC hu o1 hone on hneg hw1 hSE hRE hRF hE15F
      have h18:AV.prim (.bool true)=.prim (.bool (Ki r)):=by rw [hfl]
      exact X0 rfl (Agi S l vars fl k iq eq c W nz z.1 ⟨hl,hv0,hv,hc,hfew,hiq,hcr,hWe⟩ oz Φ i hil r hr sl hsn t1 I cp tk' hrq hcl hre hva hok hIt hIf L m0 nu u hU ou SX nx _ hRX hR back _ rfl rfl rfl rfl rfl rfl rfl rfl rfl rfl rfl h18 rfl rfl rfl rfl rfl rfl rfl)
   ·have c1:decide ((i:Int)<(l.length:Int))=false:=by simpa using hil
    have h0:l.drop i=[]:=List.drop_eq_nil_of_le (by omega)
    rw [h0] at hR
    simp only [begS] at hR
    simp (maxSteps:=1000000) +contextual (disch:=first|with_reducible assumption|exact ⟨rfl⟩|exact ⟨rfl,rfl⟩|exact ⟨rfl,rfl,rfl⟩|(refine _root_.id ?_; kernel_rfl)|omega) only [evs,Ad,nth,put,putT,getT,Ai,Aj,Ab,aUn,outA,resA,mapO,Aq,Ar,w1,w2,w3,bots,cond_true,cond_false,if_true,if_false,ite_true,ite_false,reduceIte,reduceCtorEq,implies_true,Nat.reduceAdd,Nat.reduceSub,AV.int,AV.bool,AV.str,Nat.reduceBEq,Nat.reduceEqDiff,Nat.reduceMul,Nat.reduceLT,Nat.reduceLeDiff,Int.reduceNeg,BEq.rfl,beq_self_eq_true,tabl,cellsOf,fldA,ldA,stA,Bd,Bc,A2,A1,Ae,Af,Ac,List.take_left,List.take_length,Ao,Am,over,Ag,Value.oneCell',idxA,nilA,Aa,Ap,Ah,pure1,pure2,reps,chkA,tys,Tryz.results81,evt,Av,Au,Al,e0,e1,e2,e7,e10,e11,e12,e83,e84,e85,c1]
    rw [hΦ,hR]
    exact ⟨SA,m0,tkA,I,cp,by rw [hIt.1,hIt.2.1],by omega,hT,hfr,fun j h1 h2=>⟨h2,by omega,by omega,fun p hp=>by have:=hIf.2.2 p hp; omega⟩⟩
end
end Go.Proofs.YtcjffhadclngmaaGreat
namespace Go.Proofs.YtcjffhadclngmaaGreat
open Go
theorem Pd {t:Tb} {i:Nat} : (Gy qF t i).cost.length=t.cost.length∧(Gy qF t i).real=t.real∧(Gy qF t i).vars=t.vars∧(Gy qF t i).rows.length=t.rows.length:=by
 unfold Gy
 split
 ·exact ⟨rfl,rfl,rfl,rfl⟩
 ·split
  ·exact ⟨Hy,rfl,rfl,P1⟩
  ·exact ⟨rfl,rfl,rfl,rfl⟩
theorem Kl:∀ {n i:Nat} {t:Tb},(E3 qF n i t).cost.length=t.cost.length∧(E3 qF n i t).real=t.real∧(E3 qF n i t).vars=t.vars∧(E3 qF n i t).rows.length=t.rows.length
 | 0,_,_=>⟨rfl,rfl,rfl,rfl⟩
 | n+1,i,t=>by
  have h1:=Kl (n:=n) (i:=i+1) (t:=Gy qF t i)
  have h2:=Pd (t:=t) (i:=i)
  unfold E3
  exact ⟨h1.1.trans h2.1,h1.2.1.trans h2.2.1,h1.2.2.1.trans h2.2.2.1,h1.2.2.2.trans h2.2.2.2⟩
def Vo:List AV:=[.prim (.bool false),.frz [] .nilc,.prim (.bool false),.frz [] .nilc]
def Ae5 (S:List Ent) (tk:List Nat) (iq eq:Nat) (I:TI) (cc:Cap) (n:Int) (b:Bool) (t':Tb) (r:Rs):Prop :=
 Nb S tk iq eq I (if b=true then { t' with fl:=Bool.or t'.fl (Mc qF t' n).2 } else t') cc (.tup [.agg (ceW (if b=true then qF.rat (Mc qF t' n).1 else (0,1))),.bool b]) r
structure M9 (S SS:List Ent) (iq eq:Nat) (I:TI) (t:Tb) (cc:Cap) (k n8:Nat) (z:Q) (cf:AV) (n:Int):Prop where
 T:Bi SS iq eq I t cc
 E4:Ak SS S.length k=some [cf,.prim (.int .i64 n)]
 E6:Ak SS (S.length+1) (k+1)=some Vo
 E8:Ak SS (S.length+2) n8=some (ceQ z)
 len:SS.length=S.length+3
 fr:∀ j,j<S.length→OutQ I iq j→nth SS j=nth S j
theorem Vv {S:List Ent} {iq eq:Nat} {I:TI} {t:Tb} {cc:Cap} (hT:Bi S iq eq I t cc) (hiq:iq<S.length) (hib:I.ib<S.length∨S.length+10<I.ib) (d:Nat) (hd:d≤10):OutQ I iq (S.length+d):=by
 have h:=hT.low
 have:=h.ic
 exact ⟨by omega,by omega,by omega,fun p hp=>by have:=h.row p hp; omega⟩
theorem M9.step {S SS S':List Ent} {iq eq:Nat} {I:TI} {t t':Tb} {cc:Cap} {k n8:Nat} {z:Q} {cf:AV} {n:Int} (h:M9 S SS iq eq I t cc k n8 z cf n) (ho:∀ d,d≤10→OutQ I iq (S.length+d)) (hT:Bi S' iq eq I t' cc) (hS:∀ j,OutQ I iq j→nth S' j=nth SS j) (hl:S'.length=SS.length):M9 S S' iq eq I t' cc k n8 z cf n :=
 ⟨hT,by rw [Ay (hS S.length (ho 0 (by omega)))]; exact h.E4,by rw [Ay (hS _ (ho 1 (by omega)))]; exact h.E6,by rw [Ay (hS _ (ho 2 (by omega)))]; exact h.E8,by rw [hl]; exact h.len,fun j h1 h2=>by rw [hS j h2]; exact h.fr j h1 h2⟩
section
variable (S:List Ent) (tk:List Nat) (k iq eq:Nat)
set_option maxHeartbeats 20000000 in
set_option maxRecDepth 100000 in
theorem Agm (I:TI) (t t':Tb) (cc:Cap) (K:Nat) (b:Bool) (a:List (ByteArray × Int)) (n:Int) (vars:List ByteArray) (hT0:Bi S iq eq I t cc) (hiq:iq<S.length) (hib:I.ib<S.length∨S.length+10<I.ib) (hvn:vars.length≤1000) (hvl:2*vars.length<t.cost.length) (hv:∀ c ∈ a,c.1 ∈ vars) (hc:∀ c ∈ a,i64 c.2) (hn:i64 n) (hal:a.length≤24)
  (hK:Ku qF K (Te qF t a vars)=some (b,t')) :
  ∃ r,cL Tryz.prog 86 [.ref I.it I.et 0,linA a n,A8 vars] S tk k=some r∧Ae5 S tk iq eq I cc n b t' r:=by
 obtain ⟨Φ,hΦ⟩:∃ Φ,Φ=Ae5 S tk iq eq I cc n b t':=⟨_,rfl⟩
 rw [← hΦ]
 have hlow:=hT0.low
 have hout:=Vv hT0 hiq hib
 have hsh:=Kl (n:=t.rows.length) (i:=0) (t:=t)
 have hTa:=(hT0.app [(⟨k,[Bn a,.prim (.int .i64 n)]⟩:Ent)]).app [(⟨k+1,Vo⟩:Ent)]
 obtain ⟨r0,hset,Sa,ka,rfl,hla,hTs,hfa⟩:=Aew (S++[(⟨k,[Bn a,.prim (.int .i64 n)]⟩:Ent)]++[(⟨k+1,Vo⟩:Ent)]) tk (k+1+1) iq eq I t cc hTa
 simp only [Vo,Bn] at hset
 obtain ⟨t1,ht1⟩:∃ t1,t1=E3 qF t.rows.length 0 t:=⟨_,rfl⟩
 rw [← ht1] at hTs hsh
 have hlS:(S++[(⟨k,[Bn a,.prim (.int .i64 n)]⟩:Ent)]++[(⟨k+1,Vo⟩:Ent)]).length=S.length+2:=by simp
 have hlS1:∀ x:Ent,(S++[x]).length=S.length+1:=fun x=>by simp
 rw [hlS] at hla
 obtain ⟨z,hz⟩:∃ z,z=qF.whole 0:=⟨_,rfl⟩
 have oz:qF.ok z.1:=by rw [hz]; exact Du 0 (by unfold i64; omega)
 have hw0:=Hl Sa tk ka iq eq t1.fl 0 (by unfold i64; omega) hTs.fa
 rw [← hz] at hw0
 obtain ⟨Sb,hSb⟩:∃ Sb,Sb=flS Sa iq eq z.2:=⟨_,rfl⟩
 have hlb:Sb.length=S.length+2:=by rw [hSb,Bo]; exact hla
 have hnb:∀ v,v≠iq→nth Sb v=nth Sa v:=fun v hv=>by rw [hSb]; exact Bg hv
 have hTb:Bi Sb iq eq I { t1 with fl:=Bool.or t1.fl z.2 } cc:=hTs.flag hnb (by rw [hSb]; exact hTs.fa.fS)
 rw [← hSb] at hw0
 obtain ⟨n8,hn8⟩:∃ n8,n8=ka+1:=⟨_,rfl⟩
 rw [← hn8] at hw0
 have htop:=hTs.top
 have hLe:M9 S (Sb++[(⟨n8,ceQ z.1⟩:Ent)]) iq eq I { t1 with fl:=Bool.or t1.fl z.2 } cc k n8 z.1 (Bn a) n:=by
  refine ⟨hTb.app _,?_,?_,Be hlb,by simp [hlb],fun j h1 h2=>?_⟩
  ·have h0:=hout 0 (by omega)
   exact Ax (by rw [Ay (hnb S.length h0.1),Ay (hfa S.length h0)]; exact Ax Ae)
  ·have h0:=hout 1 (by omega)
   exact Ax (by rw [Ay (hnb _ h0.1),Ay (hfa _ h0)]; exact Be (hlS1 _))
  ·rw [Da (by omega),hnb j h2.1,hfa j h2,Da (by simp; omega),Da (by omega)]
 have htop2:=hLe.T.top
 have hEn:∀ cs,Ak (Sb++[⟨n8,cs⟩]) (S.length+2) n8=some cs:=fun cs=>Be hlb
 have hPn:=fun e e'=>Ez (e:=e) (e':=e') hlb
 have hW:=hT0.bigW
 rw [← hsh.1] at hW hvl
 refine Bv Tryz.func86 rfl rfl (by decide +kernel) Tryz.ntmps86 rfl ?_; rw [Bs]
 simp only [linA,A8,Bn]
 simp (maxSteps:=1000000) +contextual (disch:=first|with_reducible assumption|exact ⟨rfl⟩|exact ⟨rfl,rfl⟩|exact ⟨rfl,rfl,rfl⟩|(refine _root_.id ?_; kernel_rfl)|omega) only [evs,Ad,nth,put,putT,getT,Ai,Aj,Ab,aUn,outA,resA,mapO,Aq,Ar,w1,w2,w3,bots,cond_true,cond_false,if_true,if_false,ite_true,ite_false,reduceIte,reduceCtorEq,implies_true,Nat.reduceAdd,Nat.reduceSub,AV.int,AV.bool,AV.str,Nat.reduceBEq,Nat.reduceEqDiff,Nat.reduceMul,Nat.reduceLT,Nat.reduceLeDiff,Int.reduceNeg,BEq.rfl,beq_self_eq_true,tabl,cellsOf,fldA,ldA,stA,Bd,Bc,A2,A1,Ae,Af,Ac,List.take_left,List.take_length,Ao,Am,over,Ag,Value.oneCell',idxA,nilA,Aa,Ap,Ah,pure1,pure2,reps,chkA,tys,Tryz.results86,evt,Av,Au,Al,w2,w1,hset,htop,hw0,htop2,hlb,hlS1,hEn,hPn,Dx,xfs,puQ,Ba,Bq,ovQ]
 refine Hs (P:=Tryz.prog) (fun x st=>st.T.length=150∧(x.2.2.1=List.replicate x.2.2.1.length z.1)∧(x.2.2.1.length+x.2.2.2.length=t1.cost.length)∧(M9 S x.1 iq eq I { t1 with cost:=x.2.2.1++x.2.2.2,fl:=Bool.or t1.fl z.2 } cc k n8 z.1 (Bn a) n)∧getT st.T 0=.ref I.it I.et 0∧getT st.T 2=.frz (vars.map strC) .unk∧getT st.T 4=.ref S.length k 0∧getT st.T 6=.ref (S.length+1) (k+1) 0∧getT st.T 8=.ref (S.length+2) n8 0∧getT st.T 27=.int (t1.cost.length:Nat)∧getT st.T 28=.int (x.2.2.1.length:Nat)∧st.S=x.1∧st.tk=tk∧st.n=x.2.1) (fun x=>x.2.2.2.length) ((Sb++[(⟨n8,ceQ z.1⟩:Ent)]),(n8+1),([]:List Q),t1.cost) ?_ ?_
 case refine_2=>exact ⟨rfl,rfl,by simp,hLe,rfl,rfl,rfl,rfl,rfl,rfl,rfl,rfl,rfl,rfl⟩
 rintro ⟨SS,n1,p,v⟩ ⟨T,S',tk',n'⟩ ⟨hl,hp,hpv,hLX,e0,e2,e4,e6,e8,e27,e28,eS,eT,eN⟩ IH
 simp only at hp hpv hLX e0 e2 e4 e6 e8 e27 e28 eS eT eN
 subst eS eT eN
 obtain ⟨g,hg,hT⟩:=Bp hl
 rw [hg] at e0 e2 e4 e6 e8 e27 e28
 subst hT
 clear hg hl
 have hpvl:(p++v).length=t1.cost.length:=by simpa using hpv
 have htc:=hLX.T.top
 simp only [hpvl,intA] at htc
 by_cases hpW:p.length<t1.cost.length
 ·have c2:decide ((p.length:Int)<(t1.cost.length:Int))=true:=by simpa using hpW
  obtain ⟨a0,v,rfl⟩:∃ a0 v',v=a0 :: v':=by
   cases v with
   | nil=>simp at hpv; omega
   | cons x v=>exact ⟨x,v,rfl⟩
  have hw:IntKind.i64.wrap ((p.length:Int)+1)=(((p++[z.1]).length:Nat):Int):=by rw [A0 (by unfold i64; omega)]; simp
  have hmu:v.length<(a0 :: v).length:=by simp
  have hcE:=hLX.T.costE
  have hzE:=hLX.E8
  have ho:=De (ce:=ceQ) Ba (l:=p++a0 :: v) (k:=p.length) (q':=z.1) (by simp)
  rw [Jv] at ho
  have hT2:=hLX.T.setCost (S':=put S' I.ic ⟨I.ec,flat ceQ (p++z.1 :: v)⟩) (k':=p++z.1 :: v) (fl':=Bool.or t1.fl z.2) (by simp) (fun q hq=>by
   rcases List.mem_append.1 hq with h|h
   ·exact hLX.T.okc q (by simp [h])
   ·rcases List.mem_cons.1 h with rfl|h
    ·exact oz
    ·exact hLX.T.okc q (by simp [h])) (fun j h1 h2=>Aw (Ne.symm h1)) (A4 (B1 hcE)) (hLX.T.fa.put hT0.ap.qc.symm)
  have hL2:=hLX.step hout hT2 (fun j hj=>Aw (Ne.symm hj.2.1)) A7
  have htk:∀ x,List.take S'.length (put S' I.ic x)=put S' I.ic x:=fun x=>List.take_of_length_le (by rw [A7]; exact Nat.le_refl _)
  simp (maxSteps:=1000000) +contextual (disch:=first|with_reducible assumption|exact ⟨rfl⟩|exact ⟨rfl,rfl⟩|exact ⟨rfl,rfl,rfl⟩|(refine _root_.id ?_; kernel_rfl)|omega) only [evs,Ad,nth,put,putT,getT,Ai,Aj,Ab,aUn,outA,resA,mapO,Aq,Ar,w1,w2,w3,bots,cond_true,cond_false,if_true,if_false,ite_true,ite_false,reduceIte,reduceCtorEq,implies_true,Nat.reduceAdd,Nat.reduceSub,AV.int,AV.bool,AV.str,Nat.reduceBEq,Nat.reduceEqDiff,Nat.reduceMul,Nat.reduceLT,Nat.reduceLeDiff,Int.reduceNeg,BEq.rfl,beq_self_eq_true,tabl,cellsOf,fldA,ldA,stA,Bd,Bc,A2,A1,Ae,Af,Ac,List.take_left,List.take_length,Ao,Am,over,Ag,Value.oneCell',idxA,nilA,Aa,Ap,Ah,pure1,pure2,reps,chkA,tys,Tryz.results86,evt,Av,Au,Al,e0,e2,e4,e6,e8,e27,e28,c2,hw,htc,hcE,hzE,hpW,ho,htk,puQ,tkQ,Ba,Bq]
  exact IH (put S' I.ic ⟨I.ec,flat ceQ (p++z.1 :: v)⟩,n',p++[z.1],v) _ (by first|omega|(simp only; omega)) ⟨rfl,by rw [List.length_append,List.length_cons,List.length_nil,List.replicate_succ',← hp],by show (p++[z.1]).length+v.length=_; simp only [List.length_append,List.length_cons,List.length_nil] at hpv ⊢; omega,by simpa using hL2,by and_intros <;> first|rfl|simp only [getT,List.map_append,List.map_cons,List.map_nil]⟩
 ·have c2:decide ((p.length:Int)<(t1.cost.length:Int))=false:=by simpa using hpW
  have hv00:v=[]:=List.length_eq_zero_iff.1 (by omega)
  subst hv00
  have hpl:p.length=t1.cost.length:=by omega
  rw [List.append_nil] at hLX
  rw [hp,hpl] at hLX
  clear hp hpvl htc IH
  have hE4a:=hLX.E4
  simp only [Bn] at hE4a
  simp (maxSteps:=1000000) +contextual (disch:=first|with_reducible assumption|exact ⟨rfl⟩|exact ⟨rfl,rfl⟩|exact ⟨rfl,rfl,rfl⟩|(refine _root_.id ?_; kernel_rfl)|omega) only [evs,Ad,nth,put,putT,getT,Ai,Aj,Ab,aUn,outA,resA,mapO,Aq,Ar,w1,w2,w3,bots,cond_true,cond_false,if_true,if_false,ite_true,ite_false,reduceIte,reduceCtorEq,implies_true,Nat.reduceAdd,Nat.reduceSub,AV.int,AV.bool,AV.str,Nat.reduceBEq,Nat.reduceEqDiff,Nat.reduceMul,Nat.reduceLT,Nat.reduceLeDiff,Int.reduceNeg,BEq.rfl,beq_self_eq_true,tabl,cellsOf,fldA,ldA,stA,Bd,Bc,A2,A1,Ae,Af,Ac,List.take_left,List.take_length,Ao,Am,over,Ag,Value.oneCell',idxA,nilA,Aa,Ap,Ah,pure1,pure2,reps,chkA,tys,Tryz.results86,evt,Av,Au,Al,e0,e2,e4,e6,e8,e27,e28,c2,hE4a]
  obtain ⟨c0,hc0⟩:∃ c0,c0=List.replicate t1.cost.length z.1:=⟨_,rfl⟩
  rw [← hc0] at hLX
  have hc0l:c0.length=t1.cost.length:=by rw [hc0,List.length_replicate]
  clear hpl hpW c2
  refine Hs (P:=Tryz.prog) (fun x st=>st.T.length=150∧(x.2.2.1≤a.length)∧(lcsC qF z.1 vars a c0=((lcsC qF z.1 vars (a.drop x.2.2.1) x.2.2.2.1).1,Bool.or x.2.2.2.2 (lcsC qF z.1 vars (a.drop x.2.2.1) x.2.2.2.1).2))∧(x.2.2.2.1.length=t1.cost.length)∧(M9 S x.1 iq eq I { t1 with cost:=x.2.2.2.1,fl:=Bool.or (Bool.or t1.fl z.2) x.2.2.2.2 } cc k n8 z.1 (Bn a) n)∧getT st.T 0=.ref I.it I.et 0∧getT st.T 2=.frz (vars.map strC) .unk∧getT st.T 4=.ref S.length k 0∧getT st.T 6=.ref (S.length+1) (k+1) 0∧getT st.T 8=.ref (S.length+2) n8 0∧getT st.T 40=.frz (a.map Gc) .unk∧getT st.T 41=.int (a.length:Nat)∧getT st.T 42=.int (x.2.2.1:Nat)∧st.S=x.1∧st.tk=tk'∧st.n=x.2.1) (fun x=>a.length - x.2.2.1) (S',n',0,c0,false) ?_ ?_
  case refine_2=>exact ⟨rfl,Nat.zero_le _,rfl,hc0l,by simp only [Bool.or_false]; exact hLX,rfl,rfl,rfl,rfl,rfl,rfl,rfl,rfl,rfl,rfl,rfl⟩
  rintro ⟨SS,n1,j,cs,f1⟩ ⟨T,S',tk',n'⟩ ⟨hl,hj,hRc,hcl,hLX,e0,e2,e4,e6,e8,e40,e41,e42,eS,eT,eN⟩ IH
  simp only at hj hRc hcl hLX e0 e2 e4 e6 e8 e40 e41 e42 eS eT eN
  subst eS eT eN
  obtain ⟨g,hg,hT⟩:=Bp hl
  rw [hg] at e0 e2 e4 e6 e8 e40 e41 e42
  subst hT
  clear hg hl
  have htc:=hLX.T.top
  simp only [hcl,intA] at htc
  by_cases hja:j<a.length
  ·have c2:decide ((j:Int)<(a.length:Int))=true:=by simpa using hja
   have hw:IntKind.i64.wrap ((j:Int)+1)=((j+1:Nat):Int):=by rw [A0 (by unfold i64; omega)]; rfl
   obtain ⟨ct,hct⟩:=A6 hja
   have hct':nth (a.map Gc) j=some [.prim (.string ct.1),.prim (.int .i64 ct.2)]:=by rw [E2,hct]; rfl
   have hctm:ct ∈ a:=Bj hct
   have hix:=Wt (hv ct hctm)
   obtain ⟨x,hx⟩:∃ x,x=idxV vars ct.1:=⟨_,rfl⟩
   rw [← hx] at hix
   have hfind:=fun S tk k=>Px S tk k vars ct.1 (by omega)
   simp only [hix.1] at hfind
   have hb1:2*x<t1.cost.length:=by omega
   have hb2:2*x+1<t1.cost.length:=by omega
   have hw2x:IntKind.i64.wrap (2*(x:Int))=((2*x:Nat):Int):=by rw [A0 (by unfold i64; omega)]; rfl
   have hw2y:IntKind.i64.wrap (((2*x:Nat):Int)+1)=((2*x+1:Nat):Int):=by rw [A0 (by unfold i64; omega)]; rfl
   have hdc:=Bw hct
   have hlX:=hLX.len
   have hfa:=hLX.T.fa
   have hic2:i64 ct.2:=hc ct hctm
   obtain ⟨w,hwd⟩:∃ w,w=qF.whole ct.2:=⟨_,rfl⟩
   have ow:qF.ok w.1:=by rw [hwd]; exact Du _ hic2
   have hmw:=Hl (S'++[(⟨n',[.prim (.string ct.1),.prim (.int .i64 ct.2)]⟩:Ent)]) tk' (n'+1) iq eq _ ct.2 hic2 hfa.app
   have hg1:=D1 (c:=w.2) (hfa.app (L:=[(⟨n',[.prim (.string ct.1),.prim (.int .i64 ct.2)]⟩:Ent)]))
   rw [← hwd] at hmw
   rw [Gg hfa] at hmw hg1
   obtain ⟨S1a,hS1a⟩:∃ S1a,S1a=flS S' iq eq w.2:=⟨_,rfl⟩
   have hT1:=hLX.T.flag (S':=flS S' iq eq w.2) (fun j hj=>Bg hj) hfa.fS
   have hL1:=hLX.step hout hT1 (fun j hj=>Bg hj.1) Bo
   rw [← hS1a] at hmw hg1 hT1 hL1
   have hcE1:=hT1.costE
   have hl1:=hL1.len
   have hil:I.ic<S1a.length:=B1 hcE1
   have hT2:=hT1.setCost (S':=put S1a I.ic ⟨I.ec,flat ceQ (put cs (2*x) w.1)⟩) (k':=put cs (2*x) w.1) (fl':=_) Bm (fun q hq=>by
    rcases Ek hq with rfl|hq
    ·exact ow
    ·exact hLX.T.okc q hq) (fun j h1 h2=>Aw (Ne.symm h1)) (A4 hil) (hT1.fa.put hT0.ap.qc.symm)
   have hL2:=hL1.step hout hT2 (fun j hj=>Aw (Ne.symm hj.2.1)) A7
   obtain ⟨S2a,hS2a⟩:∃ S2a,S2a=put S1a I.ic ⟨I.ec,flat ceQ (put cs (2*x) w.1)⟩:=⟨_,rfl⟩
   rw [← hS2a] at hT2 hL2
   have hP2:∀ e:Ent,put (S1a++[e]) I.ic ⟨I.ec,flat ceQ (put cs (2*x) w.1)⟩=S2a++[e]:=fun e=>by rw [Em hil,hS2a]
   have hfc:=hT2.fa
   have hcE2:=hT2.costE
   obtain ⟨d,hdd⟩:∃ d,d=qF.minus z.1 w.1:=⟨_,rfl⟩
   have od:qF.ok d.1:=by rw [hdd]; exact B7.minus _ _ oz ow
   have hmm:=Jk (S2a++[(⟨n',[.prim (.string ct.1),.prim (.int .i64 ct.2)]⟩:Ent)]) tk' (n'+1+1) iq eq _ z.1 w.1 oz ow hfc.app
   have hg3:=D1 (c:=d.2) (hfc.app (L:=[(⟨n',[.prim (.string ct.1),.prim (.int .i64 ct.2)]⟩:Ent)]))
   rw [← hdd] at hmm
   rw [Gg hfc] at hmm hg3
   obtain ⟨S3a,hS3a⟩:∃ S3a,S3a=flS S2a iq eq d.2:=⟨_,rfl⟩
   have hT3:=hT2.flag (S':=flS S2a iq eq d.2) (fun j hj=>Bg hj) hfc.fS
   have hL3:=hL2.step hout hT3 (fun j hj=>Bg hj.1) Bo
   rw [← hS3a] at hmm hg3 hT3 hL3
   have hcE3:=hT3.costE
   have hil3:I.ic<S3a.length:=B1 hcE3
   have hT4:=hT3.setCost (S':=put S3a I.ic ⟨I.ec,flat ceQ (put (put cs (2*x) w.1) (2*x+1) d.1)⟩) (k':=put (put cs (2*x) w.1) (2*x+1) d.1) (fl':=_) Bm (fun q hq=>by
    rcases Ek hq with rfl|hq
    ·exact od
    ·rcases Ek hq with rfl|hq
     ·exact ow
     ·exact hLX.T.okc q hq) (fun j h1 h2=>Aw (Ne.symm h1)) (A4 hil3) (hT3.fa.put hT0.ap.qc.symm)
   have hL4:=hL3.step hout hT4 (fun j hj=>Aw (Ne.symm hj.2.1)) A7
   obtain ⟨S4a,hS4a⟩:∃ S4a,S4a=put S3a I.ic ⟨I.ec,flat ceQ (put (put cs (2*x) w.1) (2*x+1) d.1)⟩:=⟨_,rfl⟩
   rw [← hS4a] at hT4 hL4
   have hP4:∀ e:Ent,put (S3a++[e]) I.ic ⟨I.ec,flat ceQ (put (put cs (2*x) w.1) (2*x+1) d.1)⟩=S4a++[e]:=fun e=>by rw [Em hil3,hS4a]
   have hl4:=hL4.len
   have hcut:∀ e:Ent,List.take S'.length (S4a++[e])=S4a:=fun e=>by rw [hlX,← hl4]; simp
   have hE0:∀ e:Ent,Ak (S'++[e]) I.it I.et=_:=fun e=>Ax htc
   have hE1:∀ e:Ent,Ak (S1a++[e]) I.ic I.ec=some (flat ceQ cs):=fun e=>Ax hcE1
   have htc2:=hT2.top
   simp only [Bm,hcl,intA] at htc2
   have hE2:∀ e:Ent,Ak (S2a++[e]) I.it I.et=_:=fun e=>Ax htc2
   have hE3:∀ e:Ent,Ak (S2a++[e]) (S.length+2) n8=some (ceQ z.1):=fun e=>Ax hL2.E8
   have hE4:∀ e:Ent,Ak (S2a++[e]) I.ic I.ec=some (flat ceQ (put cs (2*x) w.1)):=fun e=>Ax hcE2
   have hE5:∀ e:Ent,Ak (S3a++[e]) I.ic I.ec=some (flat ceQ (put cs (2*x) w.1)):=fun e=>Ax hcE3
   have ho1:=De (ce:=ceQ) Ba (l:=cs) (k:=2*x) (q':=w.1) (by omega)
   have ho2:=De (ce:=ceQ) Ba (l:=put cs (2*x) w.1) (k:=2*x+1) (q':=d.1) (by rw [Bm]; omega)
   have htx:=Bu (ce:=ceQ) Ba (l:=put cs (2*x) w.1) (k:=2*x) (q:=w.1) (E9 (by omega))
   simp (maxSteps:=1000000) +contextual (disch:=first|with_reducible assumption|exact ⟨rfl⟩|exact ⟨rfl,rfl⟩|exact ⟨rfl,rfl,rfl⟩|(refine _root_.id ?_; kernel_rfl)|omega) only [evs,Ad,nth,put,putT,getT,Ai,Aj,Ab,aUn,outA,resA,mapO,Aq,Ar,w1,w2,w3,bots,cond_true,cond_false,if_true,if_false,ite_true,ite_false,reduceIte,reduceCtorEq,implies_true,Nat.reduceAdd,Nat.reduceSub,AV.int,AV.bool,AV.str,Nat.reduceBEq,Nat.reduceEqDiff,Nat.reduceMul,Nat.reduceLT,Nat.reduceLeDiff,Int.reduceNeg,BEq.rfl,beq_self_eq_true,tabl,cellsOf,fldA,ldA,stA,Bd,Bc,A2,A1,Ae,Af,Ac,List.take_left,List.take_length,Ao,Am,over,Ag,Value.oneCell',idxA,nilA,Aa,Ap,Ah,pure1,pure2,reps,chkA,tys,Tryz.results86,evt,Av,Au,Al,e0,e2,e4,e6,e8,e40,e41,e42,c2,hw,hct',hfind,hw2x,hw2y,hb1,hb2,hmw,hg1,hP2,hmm,hg3,hP4,hcut,hE0,hE1,hE2,hE3,hE4,hE5,ho1,ho2,htx,Dx,xfs,puQ,tkQ,Ba,Bq]
   have hsc:lcC qF z.1 (idxV vars ct.1) cs ct.2=(put (put cs (2*x) w.1) (2*x+1) d.1,Bool.or w.2 d.2):=by unfold lcC; rw [← hx,← hwd,← hdd]
   rw [hdc] at hRc
   simp only [lcsC,hsc] at hRc
   exact IH (S4a,n'+1+1+4,j+1,put (put cs (2*x) w.1) (2*x+1) d.1,Bool.or f1 (Bool.or w.2 d.2)) _ (by first|omega|(simp only; omega)) ⟨rfl,by first|omega|(dsimp only; omega),by rw [hRc]; simp only [Bool.or_assoc],by rw [Bm,Bm]; exact hcl,by simpa only [Bool.or_assoc] using hL4,by and_intros <;> first|rfl|simp only [getT,List.map_append,List.map_cons,List.map_nil]⟩
  ·have c2:decide ((j:Int)<(a.length:Int))=false:=by simpa using hja
   have hj0:a.drop j=[]:=List.drop_eq_nil_of_le (by omega)
   rw [hj0] at hRc
   simp only [lcsC,Bool.or_false] at hRc
   clear IH hj0 hja hj
   obtain ⟨h,hh⟩:∃ h,h=hd0 I.ib I.eb 1 t1.rows.length:=⟨_,rfl⟩
   have hlen:lenV false true h=some (.int (t1.rows.length:Nat)):=by
    rw [hh]
    cases t1.rows.length with
    | zero=>rfl
    | succ n=>rfl
   rw [← hh] at htc
   simp (maxSteps:=1000000) +contextual (disch:=first|with_reducible assumption|exact ⟨rfl⟩|exact ⟨rfl,rfl⟩|exact ⟨rfl,rfl,rfl⟩|(refine _root_.id ?_; kernel_rfl)|omega) only [evs,Ad,nth,put,putT,getT,Ai,Aj,Ab,aUn,outA,resA,mapO,Aq,Ar,w1,w2,w3,bots,cond_true,cond_false,if_true,if_false,ite_true,ite_false,reduceIte,reduceCtorEq,implies_true,Nat.reduceAdd,Nat.reduceSub,AV.int,AV.bool,AV.str,Nat.reduceBEq,Nat.reduceEqDiff,Nat.reduceMul,Nat.reduceLT,Nat.reduceLeDiff,Int.reduceNeg,BEq.rfl,beq_self_eq_true,tabl,cellsOf,fldA,ldA,stA,Bd,Bc,A2,A1,Ae,Af,Ac,List.take_left,List.take_length,Ao,Am,over,Ag,Value.oneCell',idxA,nilA,Aa,Ap,Ah,pure1,pure2,reps,chkA,tys,Tryz.results86,evt,Av,Au,Al,e0,e2,e4,e6,e8,e40,e41,e42,c2,htc,hlen]
   obtain ⟨ck,hck⟩:∃ ck,ck=cs:=⟨_,rfl⟩
   subst hck
   obtain ⟨fa,hfad⟩:∃ fa,fa=Bool.or (Bool.or t1.fl z.2) f1:=⟨_,rfl⟩
   rw [← hfad] at hLX
   have hckl:=hcl
   clear hcl htc c2
   refine Hs (P:=Tryz.prog) (fun x st=>st.T.length=150∧(x.2.2.1≤t1.rows.length)∧(K7 qF t1.basis t1.rows ck=((K7 qF (t1.basis.drop x.2.2.1) (t1.rows.drop x.2.2.1) x.2.2.2.1).1,Bool.or x.2.2.2.2 (K7 qF (t1.basis.drop x.2.2.1) (t1.rows.drop x.2.2.1) x.2.2.2.1).2))∧(x.2.2.2.1.length=t1.cost.length)∧(M9 S x.1 iq eq I { t1 with cost:=x.2.2.2.1,fl:=Bool.or fa x.2.2.2.2 } cc k n8 z.1 (Bn a) n)∧getT st.T 0=.ref I.it I.et 0∧getT st.T 4=.ref S.length k 0∧getT st.T 6=.ref (S.length+1) (k+1) 0∧getT st.T 92=h∧getT st.T 93=.int (t1.rows.length:Nat)∧getT st.T 94=.int (x.2.2.1:Nat)∧st.S=x.1∧st.tk=tk'∧st.n=x.2.1) (fun x=>t1.rows.length - x.2.2.1) (S',n',0,ck,false) ?_ ?_
   case refine_2=>exact ⟨rfl,Nat.zero_le _,rfl,hckl,by simp only [Bool.or_false]; exact hLX,rfl,rfl,rfl,rfl,rfl,rfl,rfl,rfl,rfl⟩
   rintro ⟨SS,n1,j,cs,f2⟩ ⟨T,S',tk',n'⟩ ⟨hl,hj,hRb,hcl,hLX,e0,e4,e6,e92,e93,e94,eS,eT,eN⟩ IH
   simp only at hj hRb hcl hLX e0 e4 e6 e92 e93 e94 eS eT eN
   subst eS eT eN
   obtain ⟨g,hg,hT⟩:=Bp hl
   rw [hg] at e0 e4 e6 e92 e93 e94
   subst hT
   clear hg hl
   have htc:=hLX.T.top
   simp only [hcl,intA] at htc
   by_cases hjm:j<t1.rows.length
   ·have c2:decide ((j:Int)<(t1.rows.length:Int))=true:=by simpa using hjm
    have hw:IntKind.i64.wrap ((j:Int)+1)=((j+1:Nat):Int):=by rw [A0 (by unfold i64; have:=hTs.bigM; omega)]; rfl
    have hm0:0<t1.rows.length:=by omega
    have hr0:t1.rows≠[]:=fun h0=>by rw [h0] at hm0; simp at hm0
    rw [Dj hm0] at hh
    subst hh
    rw [Dj hm0,Dj hm0] at htc
    have hbE:=hLX.T.basisE hr0
    have hrE:=hLX.T.rowsE hr0
    simp only [hcl] at hrE
    obtain ⟨bk,hbk⟩:=A6 (show j<t1.basis.length by rw [hTs.nb]; exact hjm)
    have hbk2:nth (List.drop j (t1.basis.map intA)) 0=some (.prim (.int .i64 (bk:Int))):=Ev (by rw [Az] at hbk ⊢; rw [List.getElem?_map,hbk]; rfl)
    obtain ⟨pk,hpk⟩:=A6 (show j<I.ids.length by rw [hTs.nids]; exact hjm)
    have hixk:nth (List.drop j (I.ids.map (hdr t1.cost.length 2))) 0=some (.sref pk.1 pk.2 0 t1.cost.length 2):=Ev (by rw [Az] at hpk ⊢; rw [List.getElem?_map,hpk]; rfl)
    obtain ⟨r0,hrk⟩:=A6 hjm
    have hrw:=hTs.rowW r0 (Bj hrk)
    have hro:=hTs.okr r0 (Bj hrk)
    have hrk1:=hLX.T.rowE j pk r0 hpk hrk
    have hkm:=hT0.ap.row pk (Bj hpk)
    have hbW:=hTs.bB bk (Bj hbk)
    obtain ⟨rr,hcall,S3,k3,rfl,hl3,he3,hf3,hn3⟩:=Ae4 S' tk' n' iq eq _ I.it I.et I.ic I.ec pk.1 pk.2 t1.cost.length bk _ cs r0 hLX.T.top hLX.T.fa hLX.T.costE hrk1 hcl hrw hbW hW hLX.T.okc hro hkm.2.2.1.symm hT0.ap.tc.symm hT0.ap.qc.symm hT0.ap.qt hkm.2.2.2.2.symm
    obtain ⟨y,hy⟩:∃ y,y=Gz qF cs r0 bk:=⟨_,rfl⟩
    have hyl:y.1.length=t1.cost.length:=by rw [hy,Hy]; exact hcl
    have hyo:okL qF y.1:=by rw [hy]; exact Nq B7 hLX.T.okc hro
    rw [← hy] at he3 hf3
    have hT3:=hLX.T.setCost (S':=S3) (k':=y.1) (fl':=Bool.or (Bool.or fa f2) y.2) (by simp only [hcl]; exact hyl) hyo hn3 he3 hf3
    have hL3:=hLX.step hout hT3 (fun j hj=>hn3 j hj.2.1 hj.1) hl3
    have htk:List.take S'.length S3=S3:=List.take_of_length_le (by omega)
    have hle3:S'.length≤S3.length:=by omega
    have ht3:=hT3.top
    have hrE3:=hT3.rowsE hr0
    simp only [hyl,intA] at ht3 hrE3
    rw [Dj hm0,Dj hm0] at ht3
    simp (maxSteps:=1000000) +contextual (disch:=first|with_reducible assumption|exact ⟨rfl⟩|exact ⟨rfl,rfl⟩|exact ⟨rfl,rfl,rfl⟩|(refine _root_.id ?_; kernel_rfl)|omega) only [evs,Ad,nth,put,putT,getT,Ai,Aj,Ab,aUn,outA,resA,mapO,Aq,Ar,w1,w2,w3,bots,cond_true,cond_false,if_true,if_false,ite_true,ite_false,reduceIte,reduceCtorEq,implies_true,Nat.reduceAdd,Nat.reduceSub,AV.int,AV.bool,AV.str,Nat.reduceBEq,Nat.reduceEqDiff,Nat.reduceMul,Nat.reduceLT,Nat.reduceLeDiff,Int.reduceNeg,BEq.rfl,beq_self_eq_true,tabl,cellsOf,fldA,ldA,stA,Bd,Bc,A2,A1,Ae,Af,Ac,List.take_left,List.take_length,Ao,Am,over,Ag,Value.oneCell',idxA,nilA,Aa,Ap,Ah,pure1,pure2,reps,chkA,tys,Tryz.results86,evt,Av,Au,Al,e0,e4,e6,e92,e93,e94,c2,hw,htc,hbE,hbk2,hrE,hixk,hjm,hcall,htk,hle3,Aen,Dx,xfs,Nat.mul_one]
    have hdb:=Bw hbk
    have hdr:=Bw hrk
    rw [hdb,hdr] at hRb
    simp only [K7,← hy] at hRb
    exact IH (S3,k3,j+1,y.1,Bool.or f2 y.2) _ (by first|omega|(simp only; omega)) ⟨rfl,by first|omega|(dsimp only; omega),by rw [hRb]; simp only [Bool.or_assoc],hyl,by simpa only [Bool.or_assoc] using hL3,by and_intros <;> first|rfl|simp only [getT,List.map_append,List.map_cons,List.map_nil]⟩
   ·have c2:decide ((j:Int)<(t1.rows.length:Int))=false:=by simpa using hjm
    have hj0:t1.rows.drop j=[]:=List.drop_eq_nil_of_le (by omega)
    have hRb2:K7 qF t1.basis t1.rows ck=(cs,f2):=by
     rw [hRb,hj0]
     cases t1.basis.drop j <;> simp [K7]
    have hlt:Te qF t a vars={ t1 with cost:=cs,fl:=Bool.or fa f2 }:=by
     unfold Te
     simp only
     rw [← ht1,← hz,← hc0,hRc,hRb2,hfad]
    rw [hlt] at hK
    obtain ⟨rd,hdsc,S4,k4,rfl,hl4,hT4,hn4⟩:=Qs S' tk' n' iq eq I _ t' cc K b hLX.T hK
    have hL4:=hLX.step hout hT4 hn4 hl4
    have hE6:=hL4.E6
    have hlen4:=hL4.len
    have hfr4:=hL4.fr
    clear IH
    have hE4a:=hL4.E4
    simp only [Bn] at hE4a
    simp only [Vo] at hE6
    have hlowt:LowQ I iq S.length t':=⟨hlow.it,hlow.ic,fun hr=>by
     by_cases h0:t.rows=[]
     ·have h1:=hT4.nids
      have h2:=hT0.nids
      rw [h0] at h2
      exact absurd (List.length_eq_zero_iff.1 (by rw [← h1,h2]; rfl)) hr
     ·exact hlow.ir h0,fun hr=>by
     by_cases h0:t.rows=[]
     ·have h1:=hT4.nids
      have h2:=hT0.nids
      rw [h0] at h2
      exact absurd (List.length_eq_zero_iff.1 (by rw [← h1,h2]; rfl)) hr
     ·exact hlow.ib h0,hlow.row,hlow.iq⟩
    cases b with
    | false =>
     have hI:∀ S tk k,cL Tryz.prog 34 [.int 0] S tk k=some (.agg (ceW (0,1)),S,tk,k):=fun S tk k=>Z2 S tk k 0 (by unfold i64; omega)
     have hE7:∀ cs,Ak (put S4 (S.length+1) ⟨k+1,cs⟩) (S.length+1) (k+1)=some cs:=fun cs=>A4 (by omega)
     simp (maxSteps:=1000000) +contextual (disch:=first|with_reducible assumption|exact ⟨rfl⟩|exact ⟨rfl,rfl⟩|exact ⟨rfl,rfl,rfl⟩|(refine _root_.id ?_; kernel_rfl)|omega) only [evs,Ad,nth,put,putT,getT,Ai,Aj,Ab,aUn,outA,resA,mapO,Aq,Ar,w1,w2,w3,bots,cond_true,cond_false,if_true,if_false,ite_true,ite_false,reduceIte,reduceCtorEq,implies_true,Nat.reduceAdd,Nat.reduceSub,AV.int,AV.bool,AV.str,Nat.reduceBEq,Nat.reduceEqDiff,Nat.reduceMul,Nat.reduceLT,Nat.reduceLeDiff,Int.reduceNeg,BEq.rfl,beq_self_eq_true,tabl,cellsOf,fldA,ldA,stA,Bd,Bc,A2,A1,Ae,Af,Ac,List.take_left,List.take_length,Ao,Am,over,Ag,Value.oneCell',idxA,nilA,Aa,Ap,Ah,pure1,pure2,reps,chkA,tys,Tryz.results86,evt,Av,Au,Al,e0,e4,e6,e92,e93,e94,c2,hdsc,hI,hE6,hE7,ovW,L0,J5,tkW,puW]
     rw [hΦ]
     refine ⟨_,_,rfl,by rw [List.length_take,A7]; omega,?_,fun j hj=>?_⟩
     ·have hT5:=hT4.frame (S':=put S4 (S.length+1) ⟨k+1,ceW (0,1)⟩) (fl':=t'.fl) hlowt (fun j h1 h2=>Aw (by omega)) (hT4.fa.put (by omega))
      exact hT5.take hlowt
     ·by_cases hjl:j<S.length
      ·rw [Ew hjl,Aw (by omega)]; exact hfr4 j hjl hj
      ·rw [Az,Az,List.getElem?_eq_none (by rw [List.length_take]; omega),List.getElem?_eq_none (by omega)]
    | true =>
     have ht4:=hT4.top
     simp only [intA] at ht4
     have hcE4:=hT4.costE
     have hW4:=hT4.bigW
     have hr4:=hT4.real
     have hw4:IntKind.i64.wrap ((t'.cost.length:Int) - 1)=((t'.cost.length - 1:Nat):Int):=by rw [A0 (by unfold i64; omega)]; omega
     have hlt4:t'.cost.length - 1<t'.cost.length:=by omega
     obtain ⟨x,hx⟩:=A6 hlt4
     have ox:=hT4.okc x (Bj hx)
     obtain ⟨w,hwd⟩:∃ w,w=qF.whole n:=⟨_,rfl⟩
     have ow:qF.ok w.1:=by rw [hwd]; exact Du _ hn
     obtain ⟨d,hdd⟩:∃ d,d=qF.minus w.1 x:=⟨_,rfl⟩
     have od:qF.ok d.1:=by rw [hdd]; exact B7.minus _ _ ow ox
     have hlv:Mc qF t' n=(d.1,Bool.or w.2 d.2):=by unfold Mc; rw [Db hx,← hwd,← hdd]
     have hmw:=Hl S4 tk' k4 iq eq t'.fl n hn hT4.fa
     have hg1:=D1 (c:=w.2) hT4.fa
     rw [← hwd] at hmw
     obtain ⟨S5,hS5⟩:∃ S5,S5=flS S4 iq eq w.2:=⟨_,rfl⟩
     have hT5:=hT4.flag (S':=flS S4 iq eq w.2) (fun j hj=>Bg hj) hT4.fa.fS
     have hL5:=hL4.step hout hT5 (fun j hj=>Bg hj.1) Bo
     rw [← hS5] at hmw hg1 hT5 hL5
     obtain ⟨n5,hn5⟩:∃ n5,n5=k4+1:=⟨_,rfl⟩
     rw [← hn5] at hmw
     have ht5:=hT5.top
     simp only [intA] at ht5
     have hcE5:=hT5.costE
     have hxt:=Bu (ce:=ceQ) Ba hx
     have hmm:=Jk S5 tk' n5 iq eq _ w.1 x ow ox hT5.fa
     have hg2:=D1 (c:=d.2) hT5.fa
     rw [← hdd] at hmm
     obtain ⟨S6,hS6⟩:∃ S6,S6=flS S5 iq eq d.2:=⟨_,rfl⟩
     have hT6:=hT5.flag (S':=flS S5 iq eq d.2) (fun j hj=>Bg hj) hT5.fa.fS
     have hL6:=hL5.step hout hT6 (fun j hj=>Bg hj.1) Bo
     rw [← hS6] at hmm hg2 hT6 hL6
     obtain ⟨n9,hn9⟩:∃ n9,n9=n5+4:=⟨_,rfl⟩
     rw [← hn9] at hmm
     have hl6:=hL6.len
     have hEv:Ak (S6++[⟨n9,ceQ d.1⟩]) S6.length n9=some (ceQ d.1):=Ae
     have ht6:Ak (S6++[⟨n9,ceQ d.1⟩]) I.it I.et=_:=Ax hT6.top
     simp only [intA] at ht6
     have hr:=Lb (S6++[⟨n9,ceQ d.1⟩]) tk' (n9+1) iq eq _ d.1 od (hT6.fa.app)
     have hE66:=hL6.E6
     simp only [Vo] at hE66
     have hE6b:Ak (S6++[⟨n9,ceQ d.1⟩]) (S.length+1) (k+1)=_:=Ax hE66
     have hP6:∀ e x:Ent,put (S6++[e]) (S.length+1) x=put S6 (S.length+1) x++[e]:=fun e x=>Em (by omega)
     have hE7:∀ cs e,Ak (put S6 (S.length+1) ⟨k+1,cs⟩++[e]) (S.length+1) (k+1)=some cs:=fun cs e=>Ax (A4 (by omega))
     simp (maxSteps:=1000000) +contextual (disch:=first|with_reducible assumption|exact ⟨rfl⟩|exact ⟨rfl,rfl⟩|exact ⟨rfl,rfl,rfl⟩|(refine _root_.id ?_; kernel_rfl)|omega) only [evs,Ad,nth,put,putT,getT,Ai,Aj,Ab,aUn,outA,resA,mapO,Aq,Ar,w1,w2,w3,bots,cond_true,cond_false,if_true,if_false,ite_true,ite_false,reduceIte,reduceCtorEq,implies_true,Nat.reduceAdd,Nat.reduceSub,AV.int,AV.bool,AV.str,Nat.reduceBEq,Nat.reduceEqDiff,Nat.reduceMul,Nat.reduceLT,Nat.reduceLeDiff,Int.reduceNeg,BEq.rfl,beq_self_eq_true,tabl,cellsOf,fldA,ldA,stA,Bd,Bc,A2,A1,Ae,Af,Ac,List.take_left,List.take_length,Ao,Am,over,Ag,Value.oneCell',idxA,nilA,Aa,Ap,Ah,pure1,pure2,reps,chkA,tys,Tryz.results86,evt,Av,Au,Al,e0,e4,e6,e92,e93,e94,c2,hdsc,ht4,hE4a,hw4,hmw,hg1,ht5,hcE5,hxt,hlt4,hmm,hg2,hEv,ht6,hr,hE6b,hP6,hE7,Dx,xfs,puQ,tkQ,Ba,Bq,ovQ,ovW,L0,J5,V9,tkW,puW]
     rw [hΦ,Af8]
     unfold Ae5
     rw [if_pos rfl,if_pos rfl,hlv]
     refine ⟨_,_,rfl,by rw [List.length_take,List.length_append,A7]; omega,?_,fun j hj=>?_⟩
     ·have hT7:=(hT6.app [(⟨n9,ceQ d.1⟩:Ent)]).frame (S':=put S6 (S.length+1) ⟨k+1,ceW (qF.rat d.1)⟩++[(⟨n9,ceQ d.1⟩:Ent)]) (fl':=Bool.or (Bool.or t'.fl w.2) d.2) (hlowt.of fun h=>h) (fun j h1 h2=>by rw [Da (by rw [A7]; omega),Aw (by omega),Da (by omega)]) ((hT6.fa.put (by omega)).app)
      have hT8:=hT7.take (n:=S.length) (hlowt.of fun h=>h)
      simpa only [Bool.or_assoc] using hT8
     ·by_cases hjl:j<S.length
      ·rw [Ew hjl,Da (by rw [A7]; omega),Aw (by omega)]; exact hL6.fr j hjl hj
      ·rw [Az,Az,List.getElem?_eq_none (by rw [List.length_take]; omega),List.getElem?_eq_none (by omega)]
end
end Go.Proofs.YtcjffhadclngmaaGreat
namespace Go.Proofs.YtcjffhadclngmaaGreat
open Go
theorem Bi.junk {S:List Ent} {iq eq:Nat} {I:TI} {t:Tb} {c:Cap} (h:Bi S iq eq I t c) (h0:t.rows=[]) (hiq:iq<S.length) {x y:Nat} (hx:S.length≤x) (hy:S.length≤y) (hxy:x≠y) :
  Bi S iq eq ⟨I.it,I.et,x,0,I.ic,I.ec,y,0,I.ids⟩ t c:=by
 have hl:=h.low
 have h1:=hl.it
 have h2:=hl.ic
 have hids:I.ids=[]:=List.length_eq_zero_iff.1 (by rw [h.nids,h0]; rfl)
 refine ⟨?_,h.nids,fun hn=>absurd h0 hn,h.rowE,h.rowW,h.costE,fun hn=>absurd h0 hn,h.nb,h.nf,h.fa,?_,h.okr,h.okc,h.bigW,h.bigM,h.real,h.bB⟩
 ·have h3:=h.top
  rw [h0] at h3 ⊢
  exact h3
 ·have ha:=h.ap
  refine ⟨by simp only; omega,ha.tc,by simp only; omega,by simp only; omega,hxy,by simp only; omega,ha.qt,by simp only; omega,ha.qc,by simp only; omega,fun p hp=>?_,ha.rows⟩
  rw [hids] at hp; simp at hp
def BegRQ (S:List Ent) (iq eq:Nat) (t':Tb) (r:Rs):Prop :=
 ∃ S' k' tk' I cc,r=(.ref I.it I.et 0,S',tk',k')∧S.length≤S'.length∧Bi S' iq eq I t' cc∧(∀ j,j<S.length→j≠iq→nth S' j=nth S j)∧(∀ j,j<S.length→j≠iq→OutQ I iq j)∧(I.ib<S'.length∨S'.length+15<I.ib)
theorem Abq.far {S:List Ent} {iq eq:Nat} {t':Tb} {r:Rs} (hiq:iq<S.length) (h:Abq S iq eq t' r):BegRQ S iq eq t' r:=by
 obtain ⟨S',k',tk',I,cc,hr,h1,h2,h3,h4⟩:=h
 by_cases h0:t'.rows=[]
 ·refine ⟨S',k',tk',⟨I.it,I.et,S'.length+20,0,I.ic,I.ec,S'.length+21,0,I.ids⟩,cc,hr,h1,h2.junk h0 (by omega) (by omega) (by omega) (by omega),h3,fun j a b=>?_,.inr (by simp only; omega)⟩
  have h5:=h4 j a b
  exact ⟨h5.1,h5.2.1,by simp only; omega,h5.2.2.2⟩
 ·exact ⟨S',k',tk',I,cc,hr,h1,h2,h3,h4,.inl (h2.low.ib h0)⟩
end Go.Proofs.YtcjffhadclngmaaGreat
namespace Go.Proofs.YtcjffhadclngmaaGreat
open Go
def Ac2 (S:List Ent) (iq:Nat) (a:Ans) (ok:Bool) (r:Rs):Prop :=
 ∃ S' tk' k' c1 c2 q b,r=(.tup [.agg (ansC a.f a.pt a.nu c1 c2 q b),.bool ok],S',tk',k')∧S'.length=S.length∧(∀ j,j<S.length→j≠iq→nth S' j=nth S j)∧(∀ v,a.least=some v→q=some v.1∧b=v.2)∧(a.least=none→q=none∧b=false)
section
variable (S:List Ent) (tk:List Nat) (k iq eq:Nat)
set_option maxHeartbeats 20000000 in
set_option maxRecDepth 100000 in
theorem Aec (l:List RowT) (fl:Bool) (hl:l.length≤1000) (hn:(Dr l).length≤1000) (vars:List ByteArray) (hv0:vars.length≤1000) (hv:∀ r ∈ l,∀ c ∈ r.1,c.1 ∈ vars) (hc:∀ r ∈ l,i64 r.2.1∧∀ c ∈ r.1,i64 c.2) (hfew:fewC l) (hiq:iq<S.length) (hf:FAq S iq eq fl) (K:Nat) (a:Ans) (ok:Bool) (hS:L9 qF K l vars fl=some (a,ok)) :
  ∃ r,cL Tryz.prog 58 [.ifc 95 (.ref iq eq 0),Bh l,A8 vars,.prim (.pointer none)] S tk k=some r∧Ac2 S iq a ok r:=by
 obtain ⟨Φ,hΦ⟩:∃ Φ,Φ=Ac2 S iq a ok:=⟨_,rfl⟩
 rw [← hΦ]
 obtain ⟨rb,hbc,hbP⟩:=Adx (S++[(⟨k,ans0⟩:Ent)]) tk (k+1) iq eq l fl hl hn vars hv0 hv hc hfew (by simp; omega) hf.app
 obtain ⟨Sb,kb,tkb,I,cc,rfl,hlb,hTb,hnb,hob,hib⟩:=hbP.far (by simp; omega)
 simp only [ans0,Bh,A8] at hbc
 cases hd:Ku qF K (Gv qF l vars fl) with
 | none=>unfold L9 at hS; rw [hd] at hS; simp at hS
 | some bt =>
  obtain ⟨b,t⟩:=bt
  obtain ⟨rd,hdc,Sd,kd,rfl,hld,hTd,hnd⟩:=Qs Sb tkb kb iq eq I _ t cc K b hTb hd
  have hex:=Nh Sd tkb kd iq eq t.fl hTd.fa
  unfold L9 at hS
  rw [hd] at hS
  simp only at hS
  have hoS:∀ j,j<S.length+1→j≠iq→OutQ I iq j:=fun j h1 h2=>hob j (by simp; omega) h2
  have hSb:S.length+1≤Sb.length:=by simpa using hlb
  have hE0:Ak Sd S.length k=some ans0:=by
   rw [Ay (hnd _ (hoS _ (by omega) (by omega))),Ay (hnb _ (by simp) (by omega))]
   exact Ae
  have hfr:∀ j,j<S.length→j≠iq→nth Sd j=nth S j:=fun j h1 h2=>by
   rw [hnd _ (hoS _ (by omega) h2),hnb _ (by simp; omega) h2,Da h1]
  have hP0:∀ cs,Ak (put Sd S.length ⟨k,cs⟩) S.length k=some cs:=fun cs=>A4 (by omega)
  have hov0:over ans0 0 ans0=some ans0:=rfl
  have hE00:=hE0
  simp only [ans0] at hov0 hE0
  refine Bv Tryz.func58 rfl rfl (by decide +kernel) Tryz.ntmps58 rfl ?_; rw [Bs]
  cases hst:(qF.stop && t.fl) with
  | true =>
   rw [hst] at hex hS
   simp (maxSteps:=1000000) +contextual (disch:=first|with_reducible assumption|exact ⟨rfl⟩|exact ⟨rfl,rfl⟩|exact ⟨rfl,rfl,rfl⟩|(refine _root_.id ?_; kernel_rfl)|omega) only [evs,Ad,nth,put,putT,getT,Ai,Aj,Ab,aUn,outA,resA,mapO,Aq,Ar,w1,w2,w3,bots,cond_true,cond_false,if_true,if_false,ite_true,ite_false,reduceIte,reduceCtorEq,implies_true,Nat.reduceAdd,Nat.reduceSub,AV.int,AV.bool,AV.str,Nat.reduceBEq,Nat.reduceEqDiff,Nat.reduceMul,Nat.reduceLT,Nat.reduceLeDiff,Int.reduceNeg,BEq.rfl,beq_self_eq_true,tabl,cellsOf,fldA,ldA,stA,Bd,Bc,A2,A1,Ae,Af,Ac,List.take_left,List.take_length,Ao,Am,over,Ag,Value.oneCell',idxA,nilA,Aa,Ap,Ah,pure1,pure2,reps,chkA,tys,Tryz.results58,evt,Av,Au,Al,w2,w1,Bh,A8,hbc,hdc,hex,hE0,hov0,hP0,Dx,xfs]
   rw [if_pos rfl] at hS
   simp only [Option.some.injEq,Prod.mk.injEq] at hS
   obtain ⟨rfl,rfl⟩:=hS
   rw [hΦ]
   refine ⟨_,_,_,.nilc,.nilc,none,false,rfl,by rw [List.length_take,A7]; omega,fun j h1 h2=>?_,fun v hv=>by simp at hv,fun _=>⟨rfl,rfl⟩⟩
   rw [Ew h1,Aw (by omega)]; exact hfr j h1 h2
  | false =>
   rw [hst] at hex hS
   rw [if_neg Bool.false_ne_true] at hS
   obtain ⟨rf,hfc,Sf,kf,rfl,hlf,hTf,hnf⟩:=T9 Sd tkb kd iq eq I t cc hTd
   have hsz:=Qy hd
   have hbs:=Uc (F:=qF) (l:=l) (vars:=vars) (fl:=fl)
   have hoN:∀ d,d≤10→OutQ I iq (Sf.length+d):=fun d hd=>by
    rw [hlf,hld]; exact Vv hTb (by omega) (by omega) d hd
   have hEf:Ak Sf S.length k=some ans0:=by rw [Ay (hnf _ (hoS _ (by omega) (by omega)))]; exact hE00
   cases hfe:Vq t with
   | false =>
    rw [hfe] at hfc hS
    rw [if_neg Bool.false_ne_true] at hS
    simp only [Option.some.injEq,Prod.mk.injEq] at hS
    obtain ⟨rfl,rfl⟩:=hS
    obtain ⟨rm,hmc,Sm,km,tkm,cm,rfl,hlm,hTm,hnm⟩:=Ma (Sf++[(⟨kf,ans0⟩:Ent)]) tkb (kf+1) iq eq I t cc (hTf.app _) (by rw [hsz.1,hsz.2.2.1,hsz.2.2.2,hbs.1,hbs.2.2.1,hbs.2.2.2]; omega)
    have hlm2:Sm.length=Sf.length+1:=by rw [hlm]; simp
    have hEm:Ak Sm Sf.length kf=some ans0:=by rw [Ay (hnm Sf.length (hoN 0 (by omega)))]; exact Ae
    have hEm0:Ak Sm S.length k=some ans0:=by rw [Ay (hnm _ (hoS _ (by omega) (by omega)))]; exact Ax hEf
    have hR:Hf (Kg qF t).1=(Kg qF t).1.map fun q=>ceW (qF.rat q):=rfl
    have hPm:∀ cs,Ak (put Sm Sf.length ⟨kf,cs⟩) Sf.length kf=some cs:=fun cs=>A4 (by omega)
    have hPm0:∀ x,Ak (put Sm Sf.length x) S.length k=some ans0:=fun x=>by rw [Bf (by omega)]; exact hEm0
    have hfam:∀ x,FAq (put Sm Sf.length x) iq eq (Bool.or t.fl (Kg qF t).2):=fun x=>hTm.fa.put (by omega)
    have hex2:=fun x=>Nh (put Sm Sf.length x) tkm km iq eq _ (hfam x)
    have hPP:∀ x cs,Ak (put (put Sm Sf.length x) S.length ⟨k,cs⟩) S.length k=some cs:=fun x cs=>A4 (by rw [A7]; omega)
    simp only [ans0] at hEm hEm0 hPm0 hmc
    simp (maxSteps:=1000000) +contextual (disch:=first|with_reducible assumption|exact ⟨rfl⟩|exact ⟨rfl,rfl⟩|exact ⟨rfl,rfl,rfl⟩|(refine _root_.id ?_; kernel_rfl)|omega) only [evs,Ad,nth,put,putT,getT,Ai,Aj,Ab,aUn,outA,resA,mapO,Aq,Ar,w1,w2,w3,bots,cond_true,cond_false,if_true,if_false,ite_true,ite_false,reduceIte,reduceCtorEq,implies_true,Nat.reduceAdd,Nat.reduceSub,AV.int,AV.bool,AV.str,Nat.reduceBEq,Nat.reduceEqDiff,Nat.reduceMul,Nat.reduceLT,Nat.reduceLeDiff,Int.reduceNeg,BEq.rfl,beq_self_eq_true,tabl,cellsOf,fldA,ldA,stA,Bd,Bc,A2,A1,Ae,Af,Ac,List.take_left,List.take_length,Ao,Am,over,Ag,Value.oneCell',idxA,nilA,Aa,Ap,Ah,pure1,pure2,reps,chkA,tys,Tryz.results58,evt,Av,Au,Al,w2,w1,Bh,A8,hbc,hdc,hex,hfc,hmc,hEm,hPm,hPm0,hex2,hPP,Dx,xfs]
    rw [hΦ]
    refine ⟨_,_,_,.nilc,cm,none,false,by rw [hR]; unfold ansC; rw [List.map_map]; rfl,by rw [List.length_take,A7,A7]; omega,fun j h1 h2=>?_,fun v hv=>by simp at hv,fun _=>⟨rfl,rfl⟩⟩
    rw [Ew h1,Aw (by omega),Aw (by omega),hnm _ (hoS _ (by omega) h2),Da (by omega),hnf _ (hoS _ (by omega) h2)]
    exact hfr j h1 h2
   | true =>
    rw [hfe] at hfc hS
    rw [if_pos rfl] at hS
    simp only [Option.some.injEq,Prod.mk.injEq] at hS
    obtain ⟨rfl,rfl⟩:=hS
    obtain ⟨ans1,hans1⟩:∃ ans1:List AV,ans1=[.prim (.bool true),.frz [] .nilc,.frz [] .nilc,.prim (.bool false),.frz [] .nilc,.prim (.bool false),.frz [] .nilc,.prim (.bool false)]:=⟨_,rfl⟩
    obtain ⟨rm,hmc,Sm,km,tkm,cm,rfl,hlm,hTm,hnm⟩:=Adq (Sf++[(⟨kf,ans1⟩:Ent)]) tkb (kf+1) iq eq I t cc (hTf.app _) (by rw [hsz.1,hsz.2.1,hbs.1,hbs.2.1]; omega)
    have hlm2:Sm.length=Sf.length+1:=by rw [hlm]; simp
    have hEm:Ak Sm Sf.length kf=some ans1:=by rw [Ay (hnm Sf.length (hoN 0 (by omega)))]; exact Ae
    have hEm0:Ak Sm S.length k=some ans0:=by rw [Ay (hnm _ (hoS _ (by omega) (by omega)))]; exact Ax hEf
    have hR:Hf (Eb qF t).1=(Eb qF t).1.map fun q=>ceW (qF.rat q):=rfl
    have hPm:∀ cs,Ak (put Sm Sf.length ⟨kf,cs⟩) Sf.length kf=some cs:=fun cs=>A4 (by omega)
    have hPm0:∀ x,Ak (put Sm Sf.length x) S.length k=some ans0:=fun x=>by rw [Bf (by omega)]; exact hEm0
    have hfam:∀ x,FAq (put Sm Sf.length x) iq eq (Bool.or t.fl (Eb qF t).2):=fun x=>hTm.fa.put (by omega)
    have hex2:=fun x=>Nh (put Sm Sf.length x) tkm km iq eq _ (hfam x)
    have hPP:∀ x cs,Ak (put (put Sm Sf.length x) S.length ⟨k,cs⟩) S.length k=some cs:=fun x cs=>A4 (by rw [A7]; omega)
    rw [hans1] at hEm hmc
    have hptr:Jf BinOp.neq (Ph Tryz.prog 68) true=some (.prim (.bool false)):=by kernel_rfl
    simp only [ans0] at hEm0 hPm0
    simp (maxSteps:=1000000) +contextual (disch:=first|with_reducible assumption|exact ⟨rfl⟩|exact ⟨rfl,rfl⟩|exact ⟨rfl,rfl,rfl⟩|(refine _root_.id ?_; kernel_rfl)|omega) only [evs,Ad,nth,put,putT,getT,Ai,Aj,Ab,aUn,outA,resA,mapO,Aq,Ar,w1,w2,w3,bots,cond_true,cond_false,if_true,if_false,ite_true,ite_false,reduceIte,reduceCtorEq,implies_true,Nat.reduceAdd,Nat.reduceSub,AV.int,AV.bool,AV.str,Nat.reduceBEq,Nat.reduceEqDiff,Nat.reduceMul,Nat.reduceLT,Nat.reduceLeDiff,Int.reduceNeg,BEq.rfl,beq_self_eq_true,tabl,cellsOf,fldA,ldA,stA,Bd,Bc,A2,A1,Ae,Af,Ac,List.take_left,List.take_length,Ao,Am,over,Ag,Value.oneCell',idxA,nilA,Aa,Ap,Ah,pure1,pure2,reps,chkA,tys,Tryz.results58,evt,Av,Au,Al,w2,w1,Bh,A8,hbc,hdc,hex,hfc,hmc,hEm,hPm,hPm0,hex2,hPP,hptr,Dx,xfs]
    rw [hΦ]
    refine ⟨_,_,_,cm,.nilc,none,false,by rw [hR]; unfold ansC; rw [List.map_map]; rfl,by rw [List.length_take,A7,A7]; omega,fun j h1 h2=>?_,fun v hv=>by simp at hv,fun _=>⟨rfl,rfl⟩⟩
    rw [Ew h1,Aw (by omega),Aw (by omega),hnm _ (hoS _ (by omega) h2),Da (by omega),hnf _ (hoS _ (by omega) h2)]
    exact hfr j h1 h2
end
end Go.Proofs.YtcjffhadclngmaaGreat
namespace Go.Proofs.YtcjffhadclngmaaGreat
open Go
theorem Mp {f b:Bool} {p n:List Q} {c1 c2:Cap} {q:Option Q} : (ansC f p n c1 c2 q b).length=8:=by cases q <;> rfl
theorem Tv {f b:Bool} {p n:List Q} {c1 c2:Cap} {q:Option Q} : (ansC f p n c1 c2 q b).all Ag=true:=by cases q <;> rfl
theorem R6 {e e':List AV} (h:e.length=e'.length):over e 0 e'=some e':=by
 have:=Re (r:=[]) h
 simpa using this
section
variable (S:List Ent) (tk:List Nat) (k:Nat)
set_option maxHeartbeats 4000000 in
set_option maxRecDepth 100000 in
theorem R3 (l:List RowT) (hl:l.length≤1000) (hn:(Dr l).length≤1000) (vars:List ByteArray) (hv0:vars.length≤1000) (hv:∀ r ∈ l,∀ c ∈ r.1,c.1 ∈ vars) (hc:∀ r ∈ l,i64 r.2.1∧∀ c ∈ r.1,i64 c.2) (hfew:fewC l) (K:Nat) (a:Ans) (hS:L9 qF K l vars false=some (a,true)) (ha:a.least=none) :
  cL Tryz.prog 31 [Bh l,A8 vars,.prim (.pointer none)] S tk k=some (.agg (ansC a.f a.pt a.nu .unk .unk (some (0,0)) false),S,tk,k):=by
 obtain ⟨r1,hc1,S1,tk1,k1,c1,c2,q1,b1,rfl,hl1,hn1,hs1,hs2⟩:=Aec [(⟨0,ans0⟩:Ent),(⟨1,[.prim (.bool false)]⟩:Ent)] [] 2 1 1 l false hl hn vars hv0 hv hc hfew (by simp) rfl K a true hS
 simp only [ans0,Bh,A8] at hc1
 have hi1:Tu Tryz.prog 95=false:=by kernel_rfl
 have hi2:Tu Tryz.prog 100=false:=by kernel_rfl
 have hN1:∀ e:Ent,nth (S1++[e]) S1.length=some e:=fun e=>by rw [Az,List.getElem?_append_right (Nat.le_refl _),Nat.sub_self]; rfl
 have ho1:over [AV.prim (.bool false),.frz [] .nilc,.frz [] .nilc,.prim (.bool false),.frz [] .nilc,.prim (.bool false),.frz [] .nilc,.prim (.bool false)] 0 (ansC a.f a.pt a.nu c1 c2 q1 b1)=some (ansC a.f a.pt a.nu c1 c2 q1 b1):=R6 (by rw [Mp]; rfl)
 have htk:∀ f p n c1 c2 q b,Am 8 (ansC f p n c1 c2 q b)=some (ansC f p n c1 c2 q b):=fun f p n c1 c2 q b=>by
  have:=N0 (r:=[]) (Mp (f:=f) (p:=p) (n:=n) (c1:=c1) (c2:=c2) (q:=q) (b:=b))
  simpa using this
 have h10:nth S1 0=some ⟨0,ans0⟩:=by rw [hn1 0 (by simp) (by omega)]; rfl
 have hl12:S1.length=2:=by rw [hl1]; rfl
 have hN0:∀ e:Ent,nth (S1++[e]) 0=some ⟨0,ans0⟩:=fun e=>by rw [Da (by omega)]; exact h10
 have hNP:∀ e x:Ent,nth (put (S1++[e]) 0 x) 0=some x:=fun e x=>E9 (by simp)
 simp only [ans0] at hN0
 obtain ⟨rfl,rfl⟩:=hs2 ha
 refine A9 Tryz.func31 rfl rfl (by decide +kernel) (by decide +kernel) Tryz.ntmps31 rfl rfl _ _ _ (rfl) ?_; rw [Bs]
 simp (maxSteps:=1000000) +contextual (disch:=first|with_reducible assumption|exact ⟨rfl⟩|exact ⟨rfl,rfl⟩|exact ⟨rfl,rfl,rfl⟩|(refine _root_.id ?_; kernel_rfl)|omega) only [evs,Ad,nth,put,putT,getT,Ai,Aj,Ab,aUn,outA,resA,mapO,Aq,Ar,w1,w2,w3,bots,cond_true,cond_false,if_true,if_false,ite_true,ite_false,reduceIte,reduceCtorEq,implies_true,Nat.reduceAdd,Nat.reduceSub,AV.int,AV.bool,AV.str,Nat.reduceBEq,Nat.reduceEqDiff,Nat.reduceMul,Nat.reduceLT,Nat.reduceLeDiff,Int.reduceNeg,BEq.rfl,beq_self_eq_true,tabl,cellsOf,fldA,ldA,stA,Ak,Ao,Am,over,Ag,Value.oneCell',idxA,nilA,Aa,Ap,Ah,pure1,pure2,reps,chkA,tys,Tryz.results31,evt,Av,Au,Al,Bh,A8,hc1,hi1,hi2,ifcA,hN1,ho1,Mp,Tv,htk,hN0,hNP]
 rfl
end
end Go.Proofs.YtcjffhadclngmaaGreat
namespace Go.Proofs.YtcjffhadclngmaaGreat
open Go
section
variable (S:List Ent) (tk:List Nat) (k iq eq:Nat)
set_option maxHeartbeats 20000000 in
set_option maxRecDepth 100000 in
theorem Aee (cs:List (ByteArray × Int)) (nn:Int) (pi pe:Nat) (hpE:Ak S pi pe=some [Bn cs,.prim (.int .i64 nn)]) (hpq:pi≠iq) (hcc:∀ c ∈ cs,i64 c.2) (hnn:i64 nn) (hcl:cs.length≤24) (l:List RowT) (fl:Bool) (hl:l.length≤1000) (hn:(Dr l).length≤1000) (vars:List ByteArray) (hv0:vars.length≤1000) (hcv:∀ c ∈ cs,c.1 ∈ vars) (hv:∀ r ∈ l,∀ c ∈ r.1,c.1 ∈ vars) (hc:∀ r ∈ l,i64 r.2.1∧∀ c ∈ r.1,i64 c.2) (hfew:fewC l) (hiq:iq<S.length) (hf:FAq S iq eq fl) (K:Nat) (a:Ans) (ok:Bool) (hS:N6 qF K l vars fl cs nn=some (a,ok)) :
  ∃ r,cL Tryz.prog 58 [.ifc 95 (.ref iq eq 0),Bh l,A8 vars,.ref pi pe 0] S tk k=some r∧Ac2 S iq a ok r:=by
 obtain ⟨Φ,hΦ⟩:∃ Φ,Φ=Ac2 S iq a ok:=⟨_,rfl⟩
 rw [← hΦ]
 obtain ⟨rb,hbc,hbP⟩:=Adx (S++[(⟨k,ans0⟩:Ent)]) tk (k+1) iq eq l fl hl hn vars hv0 hv hc hfew (by simp; omega) hf.app
 obtain ⟨Sb,kb,tkb,I,cc,rfl,hlb,hTb,hnb,hob,hib⟩:=hbP.far (by simp; omega)
 simp only [ans0,Bh,A8] at hbc
 cases hd:Ku qF K (Gv qF l vars fl) with
 | none=>unfold N6 at hS; rw [hd] at hS; simp at hS
 | some bt =>
  obtain ⟨b,t⟩:=bt
  obtain ⟨rd,hdc,Sd,kd,rfl,hld,hTd,hnd⟩:=Qs Sb tkb kb iq eq I _ t cc K b hTb hd
  have hex:=Nh Sd tkb kd iq eq t.fl hTd.fa
  unfold N6 at hS
  rw [hd] at hS
  simp only at hS
  have hoS:∀ j,j<S.length+1→j≠iq→OutQ I iq j:=fun j h1 h2=>hob j (by simp; omega) h2
  have hSb:S.length+1≤Sb.length:=by simpa using hlb
  have hE0:Ak Sd S.length k=some ans0:=by
   rw [Ay (hnd _ (hoS _ (by omega) (by omega))),Ay (hnb _ (by simp) (by omega))]
   exact Ae
  have hfr:∀ j,j<S.length→j≠iq→nth Sd j=nth S j:=fun j h1 h2=>by
   rw [hnd _ (hoS _ (by omega) h2),hnb _ (by simp; omega) h2,Da h1]
  have hP0:∀ cs,Ak (put Sd S.length ⟨k,cs⟩) S.length k=some cs:=fun cs=>A4 (by omega)
  have hov0:over ans0 0 ans0=some ans0:=rfl
  have hE00:=hE0
  simp only [ans0] at hov0 hE0
  refine Bv Tryz.func58 rfl rfl (by decide +kernel) Tryz.ntmps58 rfl ?_; rw [Bs]
  cases hst:(qF.stop && t.fl) with
  | true =>
   rw [hst] at hex hS
   simp (maxSteps:=1000000) +contextual (disch:=first|with_reducible assumption|exact ⟨rfl⟩|exact ⟨rfl,rfl⟩|exact ⟨rfl,rfl,rfl⟩|(refine _root_.id ?_; kernel_rfl)|omega) only [evs,Ad,nth,put,putT,getT,Ai,Aj,Ab,aUn,outA,resA,mapO,Aq,Ar,w1,w2,w3,bots,cond_true,cond_false,if_true,if_false,ite_true,ite_false,reduceIte,reduceCtorEq,implies_true,Nat.reduceAdd,Nat.reduceSub,AV.int,AV.bool,AV.str,Nat.reduceBEq,Nat.reduceEqDiff,Nat.reduceMul,Nat.reduceLT,Nat.reduceLeDiff,Int.reduceNeg,BEq.rfl,beq_self_eq_true,tabl,cellsOf,fldA,ldA,stA,Bd,Bc,A2,A1,Ae,Af,Ac,List.take_left,List.take_length,Ao,Am,over,Ag,Value.oneCell',idxA,nilA,Aa,Ap,Ah,pure1,pure2,reps,chkA,tys,Tryz.results58,evt,Av,Au,Al,w2,w1,Bh,A8,hbc,hdc,hex,hE0,hov0,hP0,Dx,xfs]
   rw [if_pos rfl] at hS
   simp only [Option.some.injEq,Prod.mk.injEq] at hS
   obtain ⟨rfl,rfl⟩:=hS
   rw [hΦ]
   refine ⟨_,_,_,.nilc,.nilc,none,false,rfl,by rw [List.length_take,A7]; omega,fun j h1 h2=>?_,fun v hv=>by simp at hv,fun _=>⟨rfl,rfl⟩⟩
   rw [Ew h1,Aw (by omega)]; exact hfr j h1 h2
  | false =>
   rw [hst] at hex hS
   rw [if_neg Bool.false_ne_true] at hS
   obtain ⟨rf,hfc,Sf,kf,rfl,hlf,hTf,hnf⟩:=T9 Sd tkb kd iq eq I t cc hTd
   have hsz:=Qy hd
   have hbs:=Uc (F:=qF) (l:=l) (vars:=vars) (fl:=fl)
   have hoN:∀ d,d≤10→OutQ I iq (Sf.length+d):=fun d hd=>by
    rw [hlf,hld]; exact Vv hTb (by omega) (by omega) d hd
   have hEf:Ak Sf S.length k=some ans0:=by rw [Ay (hnf _ (hoS _ (by omega) (by omega)))]; exact hE00
   cases hfe:Vq t with
   | false =>
    rw [hfe] at hfc hS
    rw [if_neg Bool.false_ne_true] at hS
    simp only [Option.some.injEq,Prod.mk.injEq] at hS
    obtain ⟨rfl,rfl⟩:=hS
    obtain ⟨rm,hmc,Sm,km,tkm,cm,rfl,hlm,hTm,hnm⟩:=Ma (Sf++[(⟨kf,ans0⟩:Ent)]) tkb (kf+1) iq eq I t cc (hTf.app _) (by rw [hsz.1,hsz.2.2.1,hsz.2.2.2,hbs.1,hbs.2.2.1,hbs.2.2.2]; omega)
    have hlm2:Sm.length=Sf.length+1:=by rw [hlm]; simp
    have hEm:Ak Sm Sf.length kf=some ans0:=by rw [Ay (hnm Sf.length (hoN 0 (by omega)))]; exact Ae
    have hEm0:Ak Sm S.length k=some ans0:=by rw [Ay (hnm _ (hoS _ (by omega) (by omega)))]; exact Ax hEf
    have hR:Hf (Kg qF t).1=(Kg qF t).1.map fun q=>ceW (qF.rat q):=rfl
    have hPm:∀ cs,Ak (put Sm Sf.length ⟨kf,cs⟩) Sf.length kf=some cs:=fun cs=>A4 (by omega)
    have hPm0:∀ x,Ak (put Sm Sf.length x) S.length k=some ans0:=fun x=>by rw [Bf (by omega)]; exact hEm0
    have hfam:∀ x,FAq (put Sm Sf.length x) iq eq (Bool.or t.fl (Kg qF t).2):=fun x=>hTm.fa.put (by omega)
    have hex2:=fun x=>Nh (put Sm Sf.length x) tkm km iq eq _ (hfam x)
    have hPP:∀ x cs,Ak (put (put Sm Sf.length x) S.length ⟨k,cs⟩) S.length k=some cs:=fun x cs=>A4 (by rw [A7]; omega)
    simp only [ans0] at hEm hEm0 hPm0 hmc
    simp (maxSteps:=1000000) +contextual (disch:=first|with_reducible assumption|exact ⟨rfl⟩|exact ⟨rfl,rfl⟩|exact ⟨rfl,rfl,rfl⟩|(refine _root_.id ?_; kernel_rfl)|omega) only [evs,Ad,nth,put,putT,getT,Ai,Aj,Ab,aUn,outA,resA,mapO,Aq,Ar,w1,w2,w3,bots,cond_true,cond_false,if_true,if_false,ite_true,ite_false,reduceIte,reduceCtorEq,implies_true,Nat.reduceAdd,Nat.reduceSub,AV.int,AV.bool,AV.str,Nat.reduceBEq,Nat.reduceEqDiff,Nat.reduceMul,Nat.reduceLT,Nat.reduceLeDiff,Int.reduceNeg,BEq.rfl,beq_self_eq_true,tabl,cellsOf,fldA,ldA,stA,Bd,Bc,A2,A1,Ae,Af,Ac,List.take_left,List.take_length,Ao,Am,over,Ag,Value.oneCell',idxA,nilA,Aa,Ap,Ah,pure1,pure2,reps,chkA,tys,Tryz.results58,evt,Av,Au,Al,w2,w1,Bh,A8,hbc,hdc,hex,hfc,hmc,hEm,hPm,hPm0,hex2,hPP,Dx,xfs]
    rw [hΦ]
    refine ⟨_,_,_,.nilc,cm,none,false,by rw [hR]; unfold ansC; rw [List.map_map]; rfl,by rw [List.length_take,A7,A7]; omega,fun j h1 h2=>?_,fun v hv=>by simp at hv,fun _=>⟨rfl,rfl⟩⟩
    rw [Ew h1,Aw (by omega),Aw (by omega),hnm _ (hoS _ (by omega) h2),Da (by omega),hnf _ (hoS _ (by omega) h2)]
    exact hfr j h1 h2
   | true =>
    rw [hfe] at hfc hS
    rw [if_pos rfl] at hS
    obtain ⟨ans1,hans1⟩:∃ ans1:List AV,ans1=[.prim (.bool true),.frz [] .nilc,.frz [] .nilc,.prim (.bool false),.frz [] .nilc,.prim (.bool false),.frz [] .nilc,.prim (.bool false)]:=⟨_,rfl⟩
    obtain ⟨rm,hmc,Sm,km,tkm,cm,rfl,hlm,hTm,hnm⟩:=Adq (Sf++[(⟨kf,ans1⟩:Ent)]) tkb (kf+1) iq eq I t cc (hTf.app _) (by rw [hsz.1,hsz.2.1,hbs.1,hbs.2.1]; omega)
    have hlm2:Sm.length=Sf.length+1:=by rw [hlm]; simp
    have hEm:Ak Sm Sf.length kf=some ans1:=by rw [Ay (hnm Sf.length (hoN 0 (by omega)))]; exact Ae
    have hEm0:Ak Sm S.length k=some ans0:=by rw [Ay (hnm _ (hoS _ (by omega) (by omega)))]; exact Ax hEf
    have hR:Hf (Eb qF t).1=(Eb qF t).1.map fun q=>ceW (qF.rat q):=rfl
    obtain ⟨S1,hS1⟩:∃ S1,S1=put Sm Sf.length ⟨kf,[.prim (.bool true),.frz (Hf (Eb qF t).1) cm,.frz [] .nilc,.prim (.bool false),.frz [] .nilc,.prim (.bool false),.frz [] .nilc,.prim (.bool false)]⟩:=⟨_,rfl⟩
    have hl1:S1.length=Sf.length+1:=by rw [hS1,A7]; exact hlm2
    have hn1:∀ j,j≠Sf.length→nth S1 j=nth Sm j:=fun j hj=>by rw [hS1,Aw (Ne.symm hj)]
    have hT1:Bi S1 iq eq I { t with fl:=Bool.or t.fl (Eb qF t).2 } cc:=hTm.frame (n:=Sf.length) (hTf.low.of fun h=>h) (fun j h1 h2=>hn1 j (by omega)) (hTm.fa.of (hn1 _ (by omega)))
    have hE1:Ak S1 Sf.length kf=some [.prim (.bool true),.frz (Hf (Eb qF t).1) cm,.frz [] .nilc,.prim (.bool false),.frz [] .nilc,.prim (.bool false),.frz [] .nilc,.prim (.bool false)]:=by rw [hS1]; exact A4 (by omega)
    have hp1:Ak S1 pi pe=some [Bn cs,.prim (.int .i64 nn)]:=by
     have hpl:=B1 hpE
     rw [Ay (hn1 _ (by omega)),Ay (hnm _ (hoS _ (by omega) hpq)),Ax (by rw [Ay (hnf _ (hoS _ (by omega) hpq)),Ay (hfr _ hpl hpq)]; exact hpE)]
    have hE0S:Ak S1 S.length k=some ans0:=by rw [Ay (hn1 _ (by omega))]; exact hEm0
    have hl:=hTf.low
    cases hd2:Ku qF K (Te qF { t with fl:=Bool.or t.fl (Eb qF t).2 } cs vars) with
    | none=>rw [show (t.fl || (Eb qF t).2)=Bool.or t.fl (Eb qF t).2 from rfl,hd2] at hS; simp at hS
    | some bu =>
     obtain ⟨bb,u⟩:=bu
     rw [show (t.fl || (Eb qF t).2)=Bool.or t.fl (Eb qF t).2 from rfl,hd2] at hS
     obtain ⟨rl,hlc,hlp⟩:=Agm S1 tkm km iq eq I _ u cc K bb cs nn vars hT1 (by omega) (by omega) hv0 (by simp only; rw [hsz.2.2.1,hbs.2.2.1]; omega) hcv hcc hnn hcl hd2
     obtain ⟨Sg,kg,rfl,hlg,hTg,hng⟩:=hlp
     obtain ⟨pt,hpt⟩:∃ pt,pt=Hf (Eb qF t).1:=⟨_,rfl⟩
     rw [← hpt] at hE1 hS1
     obtain ⟨v,hv⟩:∃ v:Q,v=(if bb=true then qF.rat (Mc qF u nn).1 else (0,1)):=⟨_,rfl⟩
     rw [← hv] at hlc
     obtain ⟨fg,hfg⟩:∃ fg:Bool,fg=(if bb=true then Bool.or u.fl (Mc qF u nn).2 else u.fl):=⟨_,rfl⟩
     have hfaG:FAq Sg iq eq fg:=by
      have h:=hTg.fa
      rw [hfg]
      cases bb <;> exact h
     have hEg:Ak Sg Sf.length kf=some [.prim (.bool true),.frz pt cm,.frz [] .nilc,.prim (.bool false),.frz [] .nilc,.prim (.bool false),.frz [] .nilc,.prim (.bool false)]:=by rw [Ay (hng Sf.length (hoN 0 (by omega)))]; exact hE1
     have hEg0:Ak Sg S.length k=some ans0:=by rw [Ay (hng _ (hoS _ (by omega) (by omega)))]; exact hE0S
     have ho1:over [.prim (.bool false),.frz [] .nilc,.prim (.bool false),.frz [] .nilc,.prim (.bool false)] 0 (ceW v)=some (ceW v++[AV.prim (.bool false)]):=rfl
     have ho2:over (ceW v++[AV.prim (.bool false)]) 4 [.prim (.bool bb)]=some (ceW v++[AV.prim (.bool bb)]):=rfl
     have ho3:over [.prim (.bool false),.frz [] .nilc,.prim (.bool false),.frz [] .nilc,.prim (.bool false)] 0 (ceW v++[AV.prim (.bool bb)])=some (ceW v++[AV.prim (.bool bb)]):=rfl
     have htk2:Am 5 (ceW v++[AV.prim (.bool bb)])=some (ceW v++[AV.prim (.bool bb)]):=rfl
     have hlf2:(ceW v++[AV.prim (.bool bb)]).all Ag=true:=rfl
     have hx2l:(ceW v++[AV.prim (.bool bb)]).length=5:=rfl
     have hfz2:∀ m S,(ceW v++[AV.prim (.bool bb)]).map (fz1 m S)=ceW v++[.prim (.bool bb)]:=fun _ _=>rfl
     have hP1:∀ cs,Ak (put Sg Sf.length ⟨kf,cs⟩) Sf.length kf=some cs:=fun cs=>A4 (by omega)
     have hP2:∀ x cs,Ak (put (put Sg Sf.length x) Sf.length ⟨kf,cs⟩) Sf.length kf=some cs:=fun x cs=>A4 (by rw [A7]; omega)
     have hP3:∀ x y,Ak (put (put Sg Sf.length x) Sf.length y) S.length k=some ans0:=fun x y=>by rw [Bf (by omega),Bf (by omega)]; exact hEg0
     have hP4:∀ x y cs,Ak (put (put (put Sg Sf.length x) Sf.length y) S.length ⟨k,cs⟩) S.length k=some cs:=fun x y cs=>A4 (by rw [A7,A7]; omega)
     have hex3:=fun x y=>Nh (put (put Sg Sf.length x) Sf.length y) tkm kg iq eq fg ((hfaG.put (by omega)).put (by omega))
     have hptr:Jf BinOp.neq (Ph Tryz.prog 68) false=some (.prim (.bool true)):=by kernel_rfl
     rw [hans1] at hEm hmc
     simp only [ans0] at hEm0 hP3
     simp only [linA,A8,Bn] at hlc
     simp only [Bn] at hp1
     simp (maxSteps:=1000000) +contextual (disch:=first|with_reducible assumption|exact ⟨rfl⟩|exact ⟨rfl,rfl⟩|exact ⟨rfl,rfl,rfl⟩|(refine _root_.id ?_; kernel_rfl)|omega) only [evs,Ad,nth,put,putT,getT,Ai,Aj,Ab,aUn,outA,resA,mapO,Aq,Ar,w1,w2,w3,bots,cond_true,cond_false,if_true,if_false,ite_true,ite_false,reduceIte,reduceCtorEq,implies_true,Nat.reduceAdd,Nat.reduceSub,AV.int,AV.bool,AV.str,Nat.reduceBEq,Nat.reduceEqDiff,Nat.reduceMul,Nat.reduceLT,Nat.reduceLeDiff,Int.reduceNeg,BEq.rfl,beq_self_eq_true,tabl,cellsOf,fldA,ldA,stA,Bd,Bc,A2,A1,Ae,Af,Ac,List.take_left,List.take_length,Ao,Am,over,Ag,Value.oneCell',idxA,nilA,Aa,Ap,Ah,pure1,pure2,reps,chkA,tys,Tryz.results58,evt,Av,Au,Al,w2,w1,Bh,A8,hbc,hdc,hex,hfc,hmc,hEm,← hpt,← hS1,hptr,hp1,hlc,hEg,ho1,hP1,ho2,hP2,hP3,ho3,htk2,hlf2,hx2l,hfz2,hex3,hP4,L0,J5,Dx,xfs]
     rw [hΦ]
     have hfrz:∀ (e1 e2 e3:Ent) j,j<S.length→j≠iq→nth (List.take S.length (put (put (put Sg Sf.length e1) Sf.length e2) S.length e3)) j=nth S j:=fun e1 e2 e3 j h1 h2=>by
      rw [Ew h1,Aw (by omega),Aw (by omega),Aw (by omega),hng _ (hoS _ (by omega) h2),hn1 _ (by omega),hnm _ (hoS _ (by omega) h2),Da (by omega),hnf _ (hoS _ (by omega) h2)]
      exact hfr j h1 h2
     have hlz:∀ (e1 e2 e3:Ent),(List.take S.length (put (put (put Sg Sf.length e1) Sf.length e2) S.length e3)).length=S.length:=fun e1 e2 e3=>by rw [List.length_take,A7,A7,A7]; omega
     cases bb with
     | true =>
      simp only [Option.some.injEq,Prod.mk.injEq] at hS
      obtain ⟨rfl,rfl⟩:=hS
      rw [if_pos rfl] at hv hfg
      refine ⟨_,_,_,cm,.nilc,some v,true,by rw [hpt,hR,hfg]; unfold ansC; rw [List.map_map]; rfl,by exact hlz _ _ _,by exact hfrz _ _ _,fun w hw=>?_,fun hw=>by simp at hw⟩
      ·simp only [Option.some.injEq] at hw
       subst hw
       exact ⟨by rw [hv],rfl⟩
     | false =>
      simp only [Option.some.injEq,Prod.mk.injEq] at hS
      obtain ⟨rfl,rfl⟩:=hS
      rw [if_neg Bool.false_ne_true] at hv hfg
      refine ⟨_,_,_,cm,.nilc,some v,false,by rw [hpt,hR,hfg]; unfold ansC; rw [List.map_map]; rfl,by exact hlz _ _ _,by exact hfrz _ _ _,fun w hw=>?_,fun hw=>by simp at hw⟩
      ·simp only [Option.some.injEq] at hw
       subst hw
       exact ⟨by rw [hv],rfl⟩
end
end Go.Proofs.YtcjffhadclngmaaGreat
namespace Go.Proofs.YtcjffhadclngmaaGreat
open Go
theorem Aem {m:Nat} {S:List Ent} {f b:Bool} {p n:List Q} {c1 c2:Cap} {q:Option Q} : (ansC f p n c1 c2 q b).map (fz1 m S)=ansC f p n c1 c2 q b:=by cases q <;> rfl
theorem Aek {α:Type} {l r:List α} (hl:l.length=r.length) (h:∀ j,j<r.length→nth l j=nth r j):l=r:=by
 refine List.ext_getElem? fun i=>?_
 by_cases hi:i<r.length
 ·have:=h i hi; rwa [Az,Az] at this
 ·rw [List.getElem?_eq_none (by omega),List.getElem?_eq_none (by omega)]
def AskP (S:List Ent) (a:Ans) (r:Rs):Prop :=
 ∃ tk' k' c1 c2 q b,r=(.agg (ansC a.f a.pt a.nu c1 c2 q b),S,tk',k')∧(∀ v,a.least=some v→q=some v.1∧b=v.2)∧(a.least=none→q=none∧b=false)
section
variable (S:List Ent) (tk:List Nat) (k:Nat)
set_option maxHeartbeats 4000000 in
set_option maxRecDepth 100000 in
theorem Qk (cs:List (ByteArray × Int)) (nn:Int) (pi pe:Nat) (hpE:Ak S pi pe=some [Bn cs,.prim (.int .i64 nn)]) (hcc:∀ c ∈ cs,i64 c.2) (hnn:i64 nn) (hcl:cs.length≤24) (l:List RowT) (hl:l.length≤1000) (hn:(Dr l).length≤1000) (vars:List ByteArray) (hv0:vars.length≤1000) (hcv:∀ c ∈ cs,c.1 ∈ vars) (hv:∀ r ∈ l,∀ c ∈ r.1,c.1 ∈ vars) (hc:∀ r ∈ l,i64 r.2.1∧∀ c ∈ r.1,i64 c.2) (hfew:fewC l) (K:Nat) (a:Ans) (hS:N6 qF K l vars false cs nn=some (a,true)) :
  ∃ r,cL Tryz.prog 31 [Bh l,A8 vars,.ref pi pe 0] S tk k=some r∧AskP S a r:=by
 obtain ⟨Φ,hΦ⟩:∃ Φ,Φ=AskP S a:=⟨_,rfl⟩
 rw [← hΦ]
 have hpl:=B1 hpE
 obtain ⟨r1,hc1,S1,tk1,k1,c1,c2,q1,b1,rfl,hl1,hn1,hs1,hs2⟩:=Aee (S++[(⟨k,ans0⟩:Ent)]++[(⟨k+1,[.prim (.bool false)]⟩:Ent)]) tk (k+1+1) (S.length+1) (k+1) cs nn pi pe (Ax (Ax hpE)) (by omega) hcc hnn hcl l false hl hn vars hv0 hcv hv hc hfew (by simp) (by show Ak _ _ _=_; exact Be (by simp)) K a true hS
 simp only [ans0,Bh,A8] at hc1
 have hi1:Tu Tryz.prog 95=false:=by kernel_rfl
 have hi2:Tu Tryz.prog 100=false:=by kernel_rfl
 have hl12:S1.length=S.length+2:=by rw [hl1]; simp
 have hS1:∀ x:Ent,(S++[x]).length=S.length+1:=fun x=>by simp
 have hS2:∀ x y:Ent,(S++[x]++[y]).length=S.length+2:=fun x y=>by simp
 have hfr1:∀ j,j<S.length→nth S1 j=nth S j:=fun j hj=>by
  rw [hn1 j (by rw [hS2]; omega) (by omega),Da (by rw [hS1]; omega),Da hj]
 have h10:Ak S1 S.length k=some ans0:=by
  rw [Ay (hn1 S.length (by rw [hS2]; omega) (by omega))]
  exact Ax Ae
 obtain ⟨x1,hx1⟩:∃ x1,x1=ansC a.f a.pt a.nu c1 c2 q1 b1:=⟨_,rfl⟩
 rw [← hx1] at hc1
 have hx1l:x1.length=8:=by rw [hx1]; exact Mp
 have hx1f:x1.all Ag=true:=by rw [hx1]; exact Tv
 have hx1z:∀ m S,x1.map (fz1 m S)=x1:=fun m S=>by rw [hx1]; exact Aem
 have hx1t:Am 8 x1=some x1:=by
  have:=N0 (r:=[]) hx1l
  simpa using this
 have ho1:over ans0 0 x1=some x1:=R6 (by rw [hx1l]; rfl)
 have hE1:∀ cs,Ak (S1++[⟨k1,cs⟩]) S1.length k1=some cs:=fun cs=>Ae
 have hE0:∀ e:Ent,Ak (S1++[e]) S.length k=some ans0:=fun e=>Ax h10
 have hP1:∀ (e:Ent) cs,Ak (put (S1++[e]) S.length ⟨k,cs⟩) S.length k=some cs:=fun e cs=>A4 (by simp; omega)
 have hback:∀ x e:Ent,List.take S.length (put (S1++[x]) S.length e)=S:=fun x e=>Aek (by rw [List.length_take,A7]; simp; omega) fun j hj=>by
  rw [Ew hj,Aw (by omega),Da (by omega)]
  exact hfr1 j hj
 simp only [ans0] at ho1 hE0
 refine Bv Tryz.func31 rfl rfl (by decide +kernel) Tryz.ntmps31 rfl ?_; rw [Bs]
 simp (maxSteps:=1000000) +contextual (disch:=first|with_reducible assumption|exact ⟨rfl⟩|exact ⟨rfl,rfl⟩|exact ⟨rfl,rfl,rfl⟩|(refine _root_.id ?_; kernel_rfl)|omega) only [evs,Ad,nth,put,putT,getT,Ai,Aj,Ab,aUn,outA,resA,mapO,Aq,Ar,w1,w2,w3,bots,cond_true,cond_false,if_true,if_false,ite_true,ite_false,reduceIte,reduceCtorEq,implies_true,Nat.reduceAdd,Nat.reduceSub,AV.int,AV.bool,AV.str,Nat.reduceBEq,Nat.reduceEqDiff,Nat.reduceMul,Nat.reduceLT,Nat.reduceLeDiff,Int.reduceNeg,BEq.rfl,beq_self_eq_true,tabl,cellsOf,fldA,ldA,stA,Bd,Bc,A2,A1,Ae,Af,Ac,List.take_left,List.take_length,Ao,Am,over,Ag,Value.oneCell',idxA,nilA,Aa,Ap,Ah,pure1,pure2,reps,chkA,tys,Tryz.results31,evt,Av,Au,Al,w2,w1,Bh,A8,ifcA,hi1,hi2,hS1,hc1,hE1,hE0,hP1,ho1,hx1l,hx1f,hx1t,hx1z,put_new]
 rw [hΦ,hback,hx1]
 exact ⟨_,_,c1,c2,q1,b1,rfl,hs1,hs2⟩
end
end Go.Proofs.YtcjffhadclngmaaGreat
namespace Go.Proofs.YtcjffhadclngmaaGreat
open Go
def Jl (l:List RowT) (cs:List (ByteArray × Int)) (nn:Int):List RowT:=l++[(cs,nn,false)]
def leaA (a:Ans):Q × Int :=
 if a.f=true then (match a.least with|some (q,true)=>(q,1)|_=>((0,1),0)) else ((0,1),-1)
theorem Pv (l:List RowT):D2 3 (l.map rowC)=true:=Hv (f:=rowC) (sz:=3) (fun _=>rfl) l
theorem Vp (l r:List ByteArray):(uniS (l++r)).length≤(uniS l).length+r.length:=by
 induction r generalizing l with
 | nil=>simp
 | cons s r ih =>
  have h:=ih (l++[s])
  rw [V0] at h
  have h2:=Us s (uniS l)
  rw [List.append_assoc,List.singleton_append] at h
  simp only [List.length_cons]
  omega
theorem Y8 (l l':List RowT):B9 (l++l')=B9 l++B9 l':=by simp [B9]
theorem Th {l:List RowT} {cs:List (ByteArray × Int)} {nn:Int} : (∀ r ∈ l,∀ c ∈ r.1,c.1 ∈ Dr (Jl l cs nn))∧∀ c ∈ cs,c.1 ∈ Dr (Jl l cs nn):=by
 refine ⟨fun r hr c hc=>?_,fun c hc=>?_⟩
 ·exact Qt r (List.mem_append.2 (.inl hr)) c hc
 ·exact Qt (cs,nn,false) (List.mem_append.2 (.inr (List.mem_singleton.2 rfl))) c hc
theorem Af4 {S:List Ent} {tk:List Nat} {k:Nat} {A:List (List AV)} {c:Cap} : cL Tryz.prog 28 [.frz A c] S tk k=cL Tryz.prog 28 [.frz A .unk] S tk k:=Ux rfl rfl rfl
def SL (cs:List (ByteArray × Int)) (nn:Int):List Ent:=[(⟨0,[Bn cs,.prim (.int .i64 nn)]⟩:Ent),(⟨1,[.prim (.bool false),.frz [] .nilc,.prim (.bool false),.frz [] .nilc]⟩:Ent)]
def Y2 (l:List RowT) (cs:List (ByteArray × Int)) (nn:Int) (a:Ans):Prop:=∃ X:List Nat→Nat→List Nat × Nat × Cap × Cap,∀ tk k,cL Tryz.prog 31 [Bh l,A8 (Dr (Jl l cs nn)),.ref 0 0 0] (SL cs nn) tk k=some (.agg (ansC a.f a.pt a.nu (X tk k).2.2.1 (X tk k).2.2.2 (a.least.map (·.1)) ((a.least.map (·.2)).getD false)),SL cs nn,(X tk k).1,(X tk k).2.1)
theorem Afw {l:List RowT} {cs:List (ByteArray × Int)} {nn:Int} {a:Ans} (h:∀ tk k,∃ r,cL Tryz.prog 31 [Bh l,A8 (Dr (Jl l cs nn)),.ref 0 0 0] (SL cs nn) tk k=some r∧AskP (SL cs nn) a r):Y2 l cs nn a:=by
 have hA:∀ tk k,∃ x:List Nat × Nat × Cap × Cap,cL Tryz.prog 31 [Bh l,A8 (Dr (Jl l cs nn)),.ref 0 0 0] (SL cs nn) tk k=some (.agg (ansC a.f a.pt a.nu x.2.2.1 x.2.2.2 (a.least.map (·.1)) ((a.least.map (·.2)).getD false)),SL cs nn,x.1,x.2.1):=fun tk k=>by
  obtain ⟨r,e1,tk',k',c1,c2,q,b,rfl,e2,e3⟩:=h tk k
  refine ⟨(tk',k',c1,c2),?_⟩
  rw [e1]
  cases hl:a.least with
  | none=>obtain ⟨rfl,rfl⟩:=e3 hl; rfl
  | some v=>obtain ⟨rfl,rfl⟩:=e2 v hl; rfl
 exact ⟨fun tk k=>Classical.choose (hA tk k),fun tk k=>Classical.choose_spec (hA tk k)⟩
theorem Ye {l:List RowT} {cs:List (ByteArray × Int)} {nn:Int} (h0:sysE l=0) (h1:Eo cs nn=0):(Dr (Jl l cs nn)).length≤48:=by
 have hcl:=K9 h1
 obtain ⟨f1,f2,f3,-⟩:=Hp h0
 have h1:=Vp (B9 l) (B9 [(cs,nn,false)])
 rw [← Y8] at h1
 have h2:(B9 [(cs,nn,false)]).length=cs.length:=by simp [B9]
 have h3:(Dr (Jl l cs nn)).length=(uniS (B9 (l++[(cs,nn,false)]))).length:=rfl
 have h4:(Dr l).length=(uniS (B9 l)).length:=rfl
 omega
section
variable (S:List Ent) (tk:List Nat) (k:Nat)
set_option maxRecDepth 100000 in
set_option maxHeartbeats 2000000 in
theorem Kk (l:List RowT) (hl0:∀ r ∈ l,r.1.length≤1048576) (hll:l.length≤60) (cs:List (ByteArray × Int)) (nn:Int) (a:Ans) (h0:sysE l=0) (h1:Eo cs nn=0) (hA:Y2 l cs nn a) :
  cL Tryz.prog 15 [Bh l,linA cs nn] S tk k=some (.tup [.agg (ceW (leaA a).1),.int (leaA a).2],S,tk,k):=by
 have hC:=fun S tk k=>D9 S tk k l hl0
 have hcl:=K9 h1
 have hL:=fun S tk k=>Mb S tk k cs nn (by omega)
 have hI:=fun S tk k=>Z2 S tk k 0 (by unfold i64; omega)
 obtain ⟨f1,f2,f3,-⟩:=Hp h0
 have fw:fewC (Jl l cs nn):=fun r hr=>by
  rcases List.mem_append.1 hr with h|h
  ·exact f1 r h
  ·rw [List.mem_singleton.1 h]; exact hcl
 have hwl:(Jl l cs nn).length=l.length+1:=by simp [Jl]
 have hV:=fun c S tk k=>(Af4 (S:=S) (tk:=tk) (k:=k) (c:=c)).trans (Dn S tk k (Jl l cs nn) fw (by omega))
 obtain ⟨X,hX⟩:=hA
 obtain ⟨vv,hvv⟩:∃ vv,vv=Dr (Jl l cs nn):=⟨_,rfl⟩
 rw [← hvv] at hX hV
 have c1:(sysE l != 0)=false:=by simpa using h0
 have c2:(Eo cs nn != 0)=false:=by simpa using h1
 have hAr:=fun tk=>apB_all (tk:=tk) (c:=.tight) (es:=[]) (ys:=l.map rowC) (sz:=3) rfl rfl (Pv l) (by simp; omega)
 have hAr2:=fun tk=>apB_one (tk:=Hi tk .tight) (c:=D3 tk .tight 3) (es:=l.map rowC) (y:=[Bn cs,.prim (.int .i64 nn),.prim (.bool false)]) (sz:=3) (Es rfl) (Pv l) rfl (by simp; omega)
 simp only [SL,Bn,Bh,A8] at hX
 simp only [Bh] at hC
 simp only [Bh,A8,Jl,List.map_append,List.map_cons,List.map_nil,rowC,Bn] at hV
 simp only [linA,Bn] at hL
 simp only [qA,ratA,digA] at hI
 simp only [Bn,List.nil_append] at hAr hAr2
 simp only [linA,Bn]
 unfold leaA
 cases hf:a.f with
 | false =>
  rw [if_neg Bool.false_ne_true]
  simp only [ceW,digA]
  rw [hf] at hX
  cases hl:a.least with
  | none =>
   rw [hl] at hX
   simp only [ansC,lsC,Option.map_none,Option.getD_none,List.cons_append,List.nil_append] at hX
   refine A9 Tryz.func15 rfl rfl (by decide +kernel) (by decide +kernel) Tryz.ntmps15 rfl rfl _ _ _ (rfl) ?_; rw [Bs]
   simp (maxSteps:=1000000) +contextual (disch:=first|with_reducible assumption|exact ⟨rfl⟩|exact ⟨rfl,rfl⟩|exact ⟨rfl,rfl,rfl⟩|(refine _root_.id ?_; kernel_rfl)|omega) only [evs,Ad,nth,put,putT,getT,Ai,Aj,Ab,aUn,outA,resA,mapO,Aq,Ar,w1,w2,w3,bots,cond_true,cond_false,if_true,if_false,ite_true,ite_false,reduceIte,reduceCtorEq,implies_true,Nat.reduceAdd,Nat.reduceSub,AV.int,AV.bool,AV.str,Nat.reduceBEq,Nat.reduceEqDiff,Nat.reduceMul,Nat.reduceLT,Nat.reduceLeDiff,Int.reduceNeg,BEq.rfl,beq_self_eq_true,tabl,cellsOf,fldA,ldA,stA,Ak,Ao,Am,over,Ag,Value.oneCell',idxA,nilA,Aa,Ap,Ah,pure1,pure2,reps,chkA,tys,Tryz.results15,evt,Av,Au,Al,Bh,A8,hC,hL,hI,c1,c2,hAr,hAr2,hV,hX]
  | some v =>
   obtain ⟨q,b⟩:=v
   rw [hl] at hX
   simp only [ansC,lsC,Option.map_some,Option.getD_some,ceW,digA,List.cons_append,List.nil_append] at hX
   refine A9 Tryz.func15 rfl rfl (by decide +kernel) (by decide +kernel) Tryz.ntmps15 rfl rfl _ _ _ (rfl) ?_; rw [Bs]
   simp (maxSteps:=1000000) +contextual (disch:=first|with_reducible assumption|exact ⟨rfl⟩|exact ⟨rfl,rfl⟩|exact ⟨rfl,rfl,rfl⟩|(refine _root_.id ?_; kernel_rfl)|omega) only [evs,Ad,nth,put,putT,getT,Ai,Aj,Ab,aUn,outA,resA,mapO,Aq,Ar,w1,w2,w3,bots,cond_true,cond_false,if_true,if_false,ite_true,ite_false,reduceIte,reduceCtorEq,implies_true,Nat.reduceAdd,Nat.reduceSub,AV.int,AV.bool,AV.str,Nat.reduceBEq,Nat.reduceEqDiff,Nat.reduceMul,Nat.reduceLT,Nat.reduceLeDiff,Int.reduceNeg,BEq.rfl,beq_self_eq_true,tabl,cellsOf,fldA,ldA,stA,Ak,Ao,Am,over,Ag,Value.oneCell',idxA,nilA,Aa,Ap,Ah,pure1,pure2,reps,chkA,tys,Tryz.results15,evt,Av,Au,Al,Bh,A8,hC,hL,hI,c1,c2,hAr,hAr2,hV,hX]
 | true =>
  rw [if_pos rfl]
  rw [hf] at hX
  cases hl:a.least with
  | none =>
   rw [hl] at hX
   simp only [ansC,lsC,Option.map_none,Option.getD_none,List.cons_append,List.nil_append] at hX
   simp only [ceW,digA]
   refine A9 Tryz.func15 rfl rfl (by decide +kernel) (by decide +kernel) Tryz.ntmps15 rfl rfl _ _ _ (rfl) ?_; rw [Bs]
   simp (maxSteps:=1000000) +contextual (disch:=first|with_reducible assumption|exact ⟨rfl⟩|exact ⟨rfl,rfl⟩|exact ⟨rfl,rfl,rfl⟩|(refine _root_.id ?_; kernel_rfl)|omega) only [evs,Ad,nth,put,putT,getT,Ai,Aj,Ab,aUn,outA,resA,mapO,Aq,Ar,w1,w2,w3,bots,cond_true,cond_false,if_true,if_false,ite_true,ite_false,reduceIte,reduceCtorEq,implies_true,Nat.reduceAdd,Nat.reduceSub,AV.int,AV.bool,AV.str,Nat.reduceBEq,Nat.reduceEqDiff,Nat.reduceMul,Nat.reduceLT,Nat.reduceLeDiff,Int.reduceNeg,BEq.rfl,beq_self_eq_true,tabl,cellsOf,fldA,ldA,stA,Ak,Ao,Am,over,Ag,Value.oneCell',idxA,nilA,Aa,Ap,Ah,pure1,pure2,reps,chkA,tys,Tryz.results15,evt,Av,Au,Al,Bh,A8,hC,hL,hI,c1,c2,hAr,hAr2,hV,hX]
  | some v =>
   obtain ⟨q,b⟩:=v
   rw [hl] at hX
   simp only [ansC,lsC,Option.map_some,Option.getD_some,ceW,digA,List.cons_append,List.nil_append] at hX
   cases b with
   | false =>
    simp only [ceW,digA]
    refine A9 Tryz.func15 rfl rfl (by decide +kernel) (by decide +kernel) Tryz.ntmps15 rfl rfl _ _ _ (rfl) ?_; rw [Bs]
    simp (maxSteps:=1000000) +contextual (disch:=first|with_reducible assumption|exact ⟨rfl⟩|exact ⟨rfl,rfl⟩|exact ⟨rfl,rfl,rfl⟩|(refine _root_.id ?_; kernel_rfl)|omega) only [evs,Ad,nth,put,putT,getT,Ai,Aj,Ab,aUn,outA,resA,mapO,Aq,Ar,w1,w2,w3,bots,cond_true,cond_false,if_true,if_false,ite_true,ite_false,reduceIte,reduceCtorEq,implies_true,Nat.reduceAdd,Nat.reduceSub,AV.int,AV.bool,AV.str,Nat.reduceBEq,Nat.reduceEqDiff,Nat.reduceMul,Nat.reduceLT,Nat.reduceLeDiff,Int.reduceNeg,BEq.rfl,beq_self_eq_true,tabl,cellsOf,fldA,ldA,stA,Ak,Ao,Am,over,Ag,Value.oneCell',idxA,nilA,Aa,Ap,Ah,pure1,pure2,reps,chkA,tys,Tryz.results15,evt,Av,Au,Al,Bh,A8,hC,hL,hI,c1,c2,hAr,hAr2,hV,hX]
   | true =>
    simp only [ceW,digA]
    refine A9 Tryz.func15 rfl rfl (by decide +kernel) (by decide +kernel) Tryz.ntmps15 rfl rfl _ _ _ (rfl) ?_; rw [Bs]
    simp (maxSteps:=1000000) +contextual (disch:=first|with_reducible assumption|exact ⟨rfl⟩|exact ⟨rfl,rfl⟩|exact ⟨rfl,rfl,rfl⟩|(refine _root_.id ?_; kernel_rfl)|omega) only [evs,Ad,nth,put,putT,getT,Ai,Aj,Ab,aUn,outA,resA,mapO,Aq,Ar,w1,w2,w3,bots,cond_true,cond_false,if_true,if_false,ite_true,ite_false,reduceIte,reduceCtorEq,implies_true,Nat.reduceAdd,Nat.reduceSub,AV.int,AV.bool,AV.str,Nat.reduceBEq,Nat.reduceEqDiff,Nat.reduceMul,Nat.reduceLT,Nat.reduceLeDiff,Int.reduceNeg,BEq.rfl,beq_self_eq_true,tabl,cellsOf,fldA,ldA,stA,Ak,Ao,Am,over,Ag,Value.oneCell',idxA,nilA,Aa,Ap,Ah,pure1,pure2,reps,chkA,tys,Tryz.results15,evt,Av,Au,Al,Bh,A8,hC,hL,hI,c1,c2,hAr,hAr2,hV,hX]
end
end Go.Proofs.YtcjffhadclngmaaGreat
namespace Go.Proofs.YtcjffhadclngmaaGreat
open Go
theorem Jn [Globs] {P : Program} [Ext P] {fn : Func} {f : FuncId} {c : Code} (hf : P.funcs[f]? = some fn) (hx : Ext.on P f = false) (hv : Ext.mv P f = false) (hb : fn.body = some c) (hname : (fn.name == "runtime.NumGoroutine") = false) {args : List AV} (hp : (args.map w2).all pure2 = true) {r : AV} (m : Nat) (h : evF P B0 m f args [] [] 0 = some (r, [], [], 0)) (S : List Ent) (tk : List Nat) (n : Nat) : cL P f args S tk n = some (r, S, tk, n) := by
 refine Hw.2 ⟨m,?_⟩
 cases m with
 | zero=>simp [evF] at h
 | succ m =>
  have hn : ¬ fn.name = "runtime.NumGoroutine" := by simpa using hname
  simp only [evF,hf,hb] at h ⊢
  rw [if_neg (by rw [hx]; simp),if_neg hn,if_neg (by rw [hv]; simp),if_pos hp] at h ⊢
  generalize (if Hm c=true then runN (runP P B0 (evF P B0 m) m fn c) (args.map w2) else runP P B0 (evF P B0 m) m fn c (args.map w2))=o at h ⊢
  cases o with
  | none=>simp at h
  | some r'=>simp only [Option.some.injEq,Prod.mk.injEq,and_true] at h ⊢; exact h
end Go.Proofs.YtcjffhadclngmaaGreat
namespace Go.Proofs.YtcjffhadclngmaaGreat
open Go
def zC (z:Int):List AV:=[.prim (.bool (decide (z<0))),digA (dig z.natAbs)]
section
variable (S:List Ent) (tk:List Nat) (k:Nat)
theorem Ac7:cL Tryz.prog 25 [.int 1] S tk k=some (zA 1,S,tk,k):=Jn Tryz.func25 rfl rfl rfl rfl rfl 40 (by kernel_rfl) S tk k
theorem Acf:cL Tryz.prog 25 [.int 2] S tk k=some (zA 2,S,tk,k):=Jn Tryz.func25 rfl rfl rfl rfl rfl 40 (by kernel_rfl) S tk k
theorem Acb:cL Tryz.prog 23 [zA 1,zA 1] S tk k=some (.int 0,S,tk,k):=Jn Tryz.func23 rfl rfl rfl rfl rfl 60 (by kernel_rfl) S tk k
theorem Abt:cL Tryz.prog 26 [.int (-5)] S tk k=some (.agg (ceW (-5,1)),S,tk,k):=Jn Tryz.func26 rfl rfl rfl rfl rfl 40 (by kernel_rfl) S tk k
theorem zInts:cL Tryz.prog 49 [.frz [ceW (1,1),ceW (1,1)] .unk] S tk k=some (.frz [zC 1,zC 1] .unk,S,tk,k):=Jn Tryz.func49 rfl rfl rfl rfl rfl 60 (by kernel_rfl) S tk k
end
end Go.Proofs.YtcjffhadclngmaaGreat
