/- QV12 QV13 QV14 V15a QV16 V20a V21a C00 C0a -/
import Derived.Test.YtcjffhadclngmaaGreatZC17
import Derived.Test.YtcjffhadclngmaaGreatZC16
import Derived.Test.YtcjffhadclngmaaGreatZC15
namespace Go.Proofs.YtcjffhadclngmaaGreat
section
open Go Tryz
theorem R8 {t:Tb} {i:Nat} : (G9 qF t i).cost.length=t.cost.length/\(G9 qF t i).real=t.real/\(G9 qF t i).vars=t.vars/\(G9 qF t i).rows.length=t.rows.length:=by
 unfold G9
 split
 ·exact ⟨rfl,rfl,rfl,rfl⟩
 ·split
  ·exact ⟨Jn,rfl,rfl,Tw⟩
  ·exact ⟨rfl,rfl,rfl,rfl⟩
theorem Ls:∀ {n i:Nat} {t:Tb},(Gc qF n i t).cost.length=t.cost.length/\(Gc qF n i t).real=t.real/\(Gc qF n i t).vars=t.vars/\(Gc qF n i t).rows.length=t.rows.length
 | 0,_,_=>⟨rfl,rfl,rfl,rfl⟩
 | n+1,i,t=>by
  have h1:=Ls (n:=n) (i:=i+1) (t:=G9 qF t i)
  have h2:=R8 (t:=t) (i:=i)
  unfold Gc
  exact ⟨h1.1.trans h2.1,h1.2.1.trans h2.2.1,h1.2.2.1.trans h2.2.2.1,h1.2.2.2.trans h2.2.2.2⟩
def Zs:List AV:=[.prim (.bool false),.frz [] .nilc,.prim (.bool false),.frz [] .nilc]
def Al9 (S:List Ent) (tk:List Nat) (iq eq:Nat) (I:TI) (cc:Cap) (n:Int) (b:Bool) (t':Tb) (r:Rs):Prop :=
 Rr S tk iq eq I (if b=true then { t' with fl:=Bool.or t'.fl (Ny qF t' n).2 } else t') cc (.tup [.agg (ceW (if b=true then qF.rat (Ny qF t' n).1 else (0,1))),.bool b]) r
structure Q1 (S SS:List Ent) (iq eq:Nat) (I:TI) (t:Tb) (cc:Cap) (k n8:Nat) (z:Q) (cf:AV) (n:Int):Prop where
 T:Ay SS iq eq I t cc
 E4:entAt SS S.length k=some [cf,.prim (.int .i64 n)]
 E6:entAt SS (S.length+1) (k+1)=some Zs
 E8:entAt SS (S.length+2) n8=some (ceQ z)
 len:SS.length=S.length+3
 fr:∀ j,j<S.length->OutQ I iq j->nth SS j=nth S j
theorem Zu {S:List Ent} {iq eq:Nat} {I:TI} {t:Tb} {cc:Cap} (hT:Ay S iq eq I t cc) (k8:iq<S.length) (hib:I.ib<S.length\/S.length+10<I.ib) (d:Nat) (hd:d<=10):OutQ I iq (S.length+d):=by
 have h:=hT.low
 have:=h.ic
 exact ⟨by omega,by omega,by omega,fun p hp=>by have:=h.row p hp; omega⟩
theorem Q1.step {S SS S':List Ent} {iq eq:Nat} {I:TI} {t t':Tb} {cc:Cap} {k n8:Nat} {z:Q} {cf:AV} {n:Int} (h:Q1 S SS iq eq I t cc k n8 z cf n) (ho:∀ d,d<=10->OutQ I iq (S.length+d)) (hT:Ay S' iq eq I t' cc) (hS:∀ j,OutQ I iq j->nth S' j=nth SS j) (hl:S'.length=SS.length):Q1 S S' iq eq I t' cc k n8 z cf n :=
 ⟨hT,by rw [Ab (hS S.length (ho 0 (by omega)))]; exact h.E4,by rw [Ab (hS _ (ho 1 (by omega)))]; exact h.E6,by rw [Ab (hS _ (ho 2 (by omega)))]; exact h.E8,by rw [hl]; exact h.len,fun j h1 h2=>by rw [hS j h2]; exact h.fr j h1 h2⟩
section
variable (S:List Ent) (tk:List Nat) (k iq eq:Nat)
set_option maxHeartbeats 20000000 in
set_option maxRecDepth 100000 in
theorem Aom (I:TI) (t t':Tb) (cc:Cap) (K:Nat) (b:Bool) (a:List (ByteArray × Int)) (n:Int) (vars:List ByteArray) (ag:Ay S iq eq I t cc) (k8:iq<S.length) (hib:I.ib<S.length\/S.length+10<I.ib) (hvn:vars.length<=1000) (yy:2*vars.length<t.cost.length) (hv:∀ c ∈ a,c.1 ∈ vars) (hc:∀ c ∈ a,i64 c.2) (hn:i64 n) (hal:a.length<=24)
  (hK:Gu qF K (Yb qF t a vars)=some (b,t')) :
  ∃ r,cL prog 86 [.ref I.it I.et 0,linA a n,Am vars] S tk k=some r/\Al9 S tk iq eq I cc n b t' r:=by
 obtain ⟨Φ,hΦ⟩:∃ Φ,Φ=Al9 S tk iq eq I cc n b t':=⟨_,rfl⟩
 rw [<- hΦ]
 have az:=ag.low
 have dv:=Zu ag k8 hib
 have qk:=Ls (n:=t.rows.length) (i:=0) (t:=t)
 have hTa:=(ag.app [(⟨k,[An a,.prim (.int .i64 n)]⟩:Ent)]).app [(⟨k+1,Zs⟩:Ent)]
 obtain ⟨r0,ao,Sa,ka,rfl,hla,yf,cz⟩:=Amc (S++[(⟨k,[An a,.prim (.int .i64 n)]⟩:Ent)]++[(⟨k+1,Zs⟩:Ent)]) tk (k+1+1) iq eq I t cc hTa
 simp only [Zs,An] at ao
 obtain ⟨t1,bv⟩:∃ t1,t1=Gc qF t.rows.length 0 t:=⟨_,rfl⟩
 rw [<- bv] at yf qk
 have xq:(S++[(⟨k,[An a,.prim (.int .i64 n)]⟩:Ent)]++[(⟨k+1,Zs⟩:Ent)]).length=S.length+2:=by simp
 have a1q:∀ x:Ent,(S++[x]).length=S.length+1:=fun x=>by simp
 rw [xq] at hla
 obtain ⟨z,hz⟩:∃ z,z=qF.whole 0:=⟨_,rfl⟩
 have oz:qF.ok z.1:=by rw [hz]; exact D1 0 (by unfold i64; omega)
 have np:=Hz Sa tk ka iq eq t1.fl 0 (by unfold i64; omega) yf.fa
 rw [<- hz] at np
 obtain ⟨Sb,hSb⟩:∃ Sb,Sb=flS Sa iq eq z.2:=⟨_,rfl⟩
 have hlb:Sb.length=S.length+2:=by rw [hSb,Bd]; exact hla
 have mq:∀ v,v≠iq->nth Sb v=nth Sa v:=fun v hv=>by rw [hSb]; exact Ax hv
 have hTb:Ay Sb iq eq I { t1 with fl:=Bool.or t1.fl z.2 } cc:=yf.flag mq (by rw [hSb]; exact yf.fa.fS)
 rw [<- hSb] at np
 obtain ⟨n8,hn8⟩:∃ n8,n8=ka+1:=⟨_,rfl⟩
 rw [<- hn8] at np
 have ai:=yf.top
 have hLe:Q1 S (Sb++[(⟨n8,ceQ z.1⟩:Ent)]) iq eq I { t1 with fl:=Bool.or t1.fl z.2 } cc k n8 z.1 (An a) n:=by
  refine ⟨hTb.app _,?_,?_,Ai hlb,by simp [hlb],fun j h1 h2=>?_⟩
  ·have h0:=dv 0 (by omega)
   exact Aa (by rw [Ab (mq S.length h0.1),Ab (cz S.length h0)]; exact Aa Bf)
  ·have h0:=dv 1 (by omega)
   exact Aa (by rw [Ab (mq _ h0.1),Ab (cz _ h0)]; exact Ai (a1q _))
  ·rw [A6 (by omega),mq j h2.1,cz j h2,A6 (by simp; omega),A6 (by omega)]
 have i6:=hLe.T.top
 have yd:∀ cs,entAt (Sb++[⟨n8,cs⟩]) (S.length+2) n8=some cs:=fun cs=>Ai hlb
 have pw:=fun e e'=>De (e:=e) (e':=e') hlb
 have hW:=ag.bigW
 rw [<- qk.1] at hW yy
 refine opG func86 ntmps86 ?_
 simp only [linA,Am,An]
 simp (maxSteps:=10^6)+contextual(disch:=try exact dqd)only[evg1,simprocAttr,AV.int,AV.bool,AV.str,results86,ao,ai,np,i6,hlb,a1q,yd,pw,D3,xfs,puQ,Ao,Bg,ovQ]
 refine Ef (P:=prog) (fun x st=>st.T.length=150/\(x.2.2.1=List.replicate x.2.2.1.length z.1)/\(x.2.2.1.length+x.2.2.2.length=t1.cost.length)/\(Q1 S x.1 iq eq I { t1 with cost:=x.2.2.1++x.2.2.2,fl:=Bool.or t1.fl z.2 } cc k n8 z.1 (An a) n)/\getT st.T 0=.ref I.it I.et 0/\getT st.T 2=.frz (vars.map strC) .unk/\getT st.T 4=.ref S.length k 0/\getT st.T 6=.ref (S.length+1) (k+1) 0/\getT st.T 8=.ref (S.length+2) n8 0/\getT st.T 27=.int (t1.cost.length:Nat)/\getT st.T 28=.int (x.2.2.1.length:Nat)/\st.S=x.1/\st.tk=tk/\st.n=x.2.1) (fun x=>x.2.2.2.length) ((Sb++[(⟨n8,ceQ z.1⟩:Ent)]),(n8+1),([]:List Q),t1.cost) ?_ ?_
 case refine_2=>exact ⟨rfl,rfl,by simp,hLe,rfl,rfl,rfl,rfl,rfl,rfl,rfl,rfl,rfl,rfl⟩
 rintro ⟨SS,n1,p,v⟩ ⟨T,S',tk',n'⟩ ⟨hl,hp,kq,eg,e0,e2,e4,e6,e8,e27,e28,eS,eT,eN⟩ IH
 simp only at hp kq eg e0 e2 e4 e6 e8 e27 e28 eS eT eN
 subst eS eT eN
 obtain ⟨g,hg,hT⟩:=Av hl
 rw [hg] at e0 e2 e4 e6 e8 e27 e28
 subst hT
 clear hg hl
 have ft:(p++v).length=t1.cost.length:=by simpa using kq
 have fc:=eg.T.top
 simp only [ft,intA] at fc
 by_cases tj:p.length<t1.cost.length
 ·have c2:decide ((p.length:Int)<(t1.cost.length:Int))=true:=by simpa using tj
  obtain ⟨a0,v,rfl⟩:∃ a0 v',v=a0 :: v':=by
   cases v with
   | nil=>simp at kq; omega
   | cons x v=>exact ⟨x,v,rfl⟩
  have hw:IntKind.i64.wrap ((p.length:Int)+1)=(((p++[z.1]).length:Nat):Int):=by rw [Ad (by unfold i64; omega)]; simp
  have uz:v.length<(a0 :: v).length:=by simp
  have jg:=eg.T.costE
  have hzE:=eg.E8
  have ho:=A4 (ce:=ceQ) Ao (l:=p++a0 :: v) (k:=p.length) (q':=z.1) (by simp)
  rw [Ge] at ho
  have ar:=eg.T.setCost (S':=put S' I.ic ⟨I.ec,flat ceQ (p++z.1 :: v)⟩) (k':=p++z.1 :: v) (fl':=Bool.or t1.fl z.2) (by simp) (fun q hq=>by
   rcases List.mem_append.1 hq with h|h
   ·exact eg.T.okc q (by simp [h])
   ·rcases List.mem_cons.1 h with rfl|h
    ·exact oz
    ·exact eg.T.okc q (by simp [h])) (fun j h1 h2=>Ac (Ne.symm h1)) (Af (A7 jg)) (eg.T.fa.put ag.ap.qc.symm)
  have yr:=eg.step dv ar (fun j hj=>Ac (Ne.symm hj.2.1)) Ah
  have io:∀ x,List.take S'.length (put S' I.ic x)=put S' I.ic x:=fun x=>List.take_of_length_le (by rw [Ah]; exact Nat.le_refl _)
  simp (maxSteps:=10^6)+contextual(disch:=try exact dqd)only[evg1,simprocAttr,AV.int,AV.bool,AV.str,results86,e0,e2,e4,e6,e8,e27,e28,c2,hw,fc,jg,hzE,tj,ho,io,puQ,tkQ,Ao,Bg]
  exact IH (put S' I.ic ⟨I.ec,flat ceQ (p++z.1 :: v)⟩,n',p++[z.1],v) _ (by first|omega|(simp only; omega)) ⟨rfl,by rw [List.length_append,List.length_cons,List.length_nil,List.replicate_succ',<- hp],by show (p++[z.1]).length+v.length=_; simp only [List.length_append,List.length_cons,List.length_nil] at kq ⊢; omega,by simpa using yr,by and_intros <;> first|rfl|simp only [getT,List.map_append,List.map_cons,List.map_nil]⟩
 ·have c2:decide ((p.length:Int)<(t1.cost.length:Int))=false:=by simpa using tj
  have xo:v=[]:=List.length_eq_zero_iff.1 (by omega)
  subst xo
  have di:p.length=t1.cost.length:=by omega
  rw [List.append_nil] at eg
  rw [hp,di] at eg
  clear hp ft fc IH
  have yg:=eg.E4
  simp only [An] at yg
  simp (maxSteps:=10^6)+contextual(disch:=try exact dqd)only[evg1,simprocAttr,AV.int,AV.bool,AV.str,results86,e0,e2,e4,e6,e8,e27,e28,c2,yg]
  obtain ⟨c0,hc0⟩:∃ c0,c0=List.replicate t1.cost.length z.1:=⟨_,rfl⟩
  rw [<- hc0] at eg
  have a20:c0.length=t1.cost.length:=by rw [hc0,List.length_replicate]
  clear di tj c2
  refine Ef (P:=prog) (fun x st=>st.T.length=150/\(x.2.2.1<=a.length)/\(lcsC qF z.1 vars a c0=((lcsC qF z.1 vars (a.drop x.2.2.1) x.2.2.2.1).1,Bool.or x.2.2.2.2 (lcsC qF z.1 vars (a.drop x.2.2.1) x.2.2.2.1).2))/\(x.2.2.2.1.length=t1.cost.length)/\(Q1 S x.1 iq eq I { t1 with cost:=x.2.2.2.1,fl:=Bool.or (Bool.or t1.fl z.2) x.2.2.2.2 } cc k n8 z.1 (An a) n)/\getT st.T 0=.ref I.it I.et 0/\getT st.T 2=.frz (vars.map strC) .unk/\getT st.T 4=.ref S.length k 0/\getT st.T 6=.ref (S.length+1) (k+1) 0/\getT st.T 8=.ref (S.length+2) n8 0/\getT st.T 40=.frz (a.map Dv) .unk/\getT st.T 41=.int (a.length:Nat)/\getT st.T 42=.int (x.2.2.1:Nat)/\st.S=x.1/\st.tk=tk'/\st.n=x.2.1) (fun x=>a.length - x.2.2.1) (S',n',0,c0,false) ?_ ?_
  case refine_2=>exact ⟨rfl,Nat.zero_le _,rfl,a20,by simp only [Bool.or_false]; exact eg,rfl,rfl,rfl,rfl,rfl,rfl,rfl,rfl,rfl,rfl,rfl⟩
  rintro ⟨SS,n1,j,cs,f1⟩ ⟨T,S',tk',n'⟩ ⟨hl,hj,ke,hcl,eg,e0,e2,e4,e6,e8,e40,e41,e42,eS,eT,eN⟩ IH
  simp only at hj ke hcl eg e0 e2 e4 e6 e8 e40 e41 e42 eS eT eN
  subst eS eT eN
  obtain ⟨g,hg,hT⟩:=Av hl
  rw [hg] at e0 e2 e4 e6 e8 e40 e41 e42
  subst hT
  clear hg hl
  have fc:=eg.T.top
  simp only [hcl,intA] at fc
  by_cases hja:j<a.length
  ·have c2:decide ((j:Int)<(a.length:Int))=true:=by simpa using hja
   have hw:IntKind.i64.wrap ((j:Int)+1)=((j+1:Nat):Int):=by rw [Ad (by unfold i64; omega)]; rfl
   obtain ⟨ct,xr⟩:=Ag hja
   have xt:nth (a.map Dv) j=some [.prim (.string ct.1),.prim (.int .i64 ct.2)]:=by rw [El,xr]; rfl
   have p6:ct ∈ a:=Al xr
   have nh:=Lk (hv ct p6)
   obtain ⟨x,hx⟩:∃ x,x=idxV vars ct.1:=⟨_,rfl⟩
   rw [<- hx] at nh
   have j1:=fun S tk k=>Nv S tk k vars ct.1 (by omega)
   simp only [nh.1] at j1
   have hb1:2*x<t1.cost.length:=by omega
   have hb2:2*x+1<t1.cost.length:=by omega
   have xu:IntKind.i64.wrap (2*(x:Int))=((2*x:Nat):Int):=by rw [Ad (by unfold i64; omega)]; rfl
   have xv:IntKind.i64.wrap (((2*x:Nat):Int)+1)=((2*x+1:Nat):Int):=by rw [Ad (by unfold i64; omega)]; rfl
   have k7:=Bc xr
   have hlX:=eg.len
   have cz:=eg.T.fa
   have p7:i64 ct.2:=hc ct p6
   obtain ⟨w,gh⟩:∃ w,w=qF.whole ct.2:=⟨_,rfl⟩
   have ow:qF.ok w.1:=by rw [gh]; exact D1 _ p7
   have fj:=Hz (S'++[(⟨n',[.prim (.string ct.1),.prim (.int .i64 ct.2)]⟩:Ent)]) tk' (n'+1) iq eq _ ct.2 p7 cz.app
   have hg1:=D4 (c:=w.2) (cz.app (L:=[(⟨n',[.prim (.string ct.1),.prim (.int .i64 ct.2)]⟩:Ent)]))
   rw [<- gh] at fj
   rw [Gp cz] at fj hg1
   obtain ⟨S1a,ju⟩:∃ S1a,S1a=flS S' iq eq w.2:=⟨_,rfl⟩
   have dy:=eg.T.flag (S':=flS S' iq eq w.2) (fun j hj=>Ax hj) cz.fS
   have hL1:=eg.step dv dy (fun j hj=>Ax hj.1) Bd
   rw [<- ju] at fj hg1 dy hL1
   have m9:=dy.costE
   have hl1:=hL1.len
   have bg:I.ic<S1a.length:=A7 m9
   have ar:=dy.setCost (S':=put S1a I.ic ⟨I.ec,flat ceQ (put cs (2*x) w.1)⟩) (k':=put cs (2*x) w.1) (fl':=_) Ak (fun q hq=>by
    rcases Bw hq with rfl|hq
    ·exact ow
    ·exact eg.T.okc q hq) (fun j h1 h2=>Ac (Ne.symm h1)) (Af bg) (dy.fa.put ag.ap.qc.symm)
   have yr:=hL1.step dv ar (fun j hj=>Ac (Ne.symm hj.2.1)) Ah
   obtain ⟨S2a,uj⟩:∃ S2a,S2a=put S1a I.ic ⟨I.ec,flat ceQ (put cs (2*x) w.1)⟩:=⟨_,rfl⟩
   rw [<- uj] at ar yr
   have zt:∀ e:Ent,put (S1a++[e]) I.ic ⟨I.ec,flat ceQ (put cs (2*x) w.1)⟩=S2a++[e]:=fun e=>by rw [Dd bg,uj]
   have dq:=ar.fa
   have o4:=ar.costE
   obtain ⟨d,fe⟩:∃ d,d=qF.minus z.1 w.1:=⟨_,rfl⟩
   have od:qF.ok d.1:=by rw [fe]; exact Bz.minus _ _ oz ow
   have cq:=J4 (S2a++[(⟨n',[.prim (.string ct.1),.prim (.int .i64 ct.2)]⟩:Ent)]) tk' (n'+1+1) iq eq _ z.1 w.1 oz ow dq.app
   have hg3:=D4 (c:=d.2) (dq.app (L:=[(⟨n',[.prim (.string ct.1),.prim (.int .i64 ct.2)]⟩:Ent)]))
   rw [<- fe] at cq
   rw [Gp dq] at cq hg3
   obtain ⟨S3a,ry⟩:∃ S3a,S3a=flS S2a iq eq d.2:=⟨_,rfl⟩
   have co:=ar.flag (S':=flS S2a iq eq d.2) (fun j hj=>Ax hj) dq.fS
   have hL3:=yr.step dv co (fun j hj=>Ax hj.1) Bd
   rw [<- ry] at cq hg3 co hL3
   have a1r:=co.costE
   have a1s:I.ic<S3a.length:=A7 a1r
   have i7:=co.setCost (S':=put S3a I.ic ⟨I.ec,flat ceQ (put (put cs (2*x) w.1) (2*x+1) d.1)⟩) (k':=put (put cs (2*x) w.1) (2*x+1) d.1) (fl':=_) Ak (fun q hq=>by
    rcases Bw hq with rfl|hq
    ·exact od
    ·rcases Bw hq with rfl|hq
     ·exact ow
     ·exact eg.T.okc q hq) (fun j h1 h2=>Ac (Ne.symm h1)) (Af a1s) (co.fa.put ag.ap.qc.symm)
   have zx:=hL3.step dv i7 (fun j hj=>Ac (Ne.symm hj.2.1)) Ah
   obtain ⟨S4a,uk⟩:∃ S4a,S4a=put S3a I.ic ⟨I.ec,flat ceQ (put (put cs (2*x) w.1) (2*x+1) d.1)⟩:=⟨_,rfl⟩
   rw [<- uk] at i7 zx
   have hP4:∀ e:Ent,put (S3a++[e]) I.ic ⟨I.ec,flat ceQ (put (put cs (2*x) w.1) (2*x+1) d.1)⟩=S4a++[e]:=fun e=>by rw [Dd a1s,uk]
   have n0:=zx.len
   have il:∀ e:Ent,List.take S'.length (S4a++[e])=S4a:=fun e=>by rw [hlX,<- n0]; simp
   have j0:∀ e:Ent,entAt (S'++[e]) I.it I.et=_:=fun e=>Aa fc
   have pg:∀ e:Ent,entAt (S1a++[e]) I.ic I.ec=some (flat ceQ cs):=fun e=>Aa m9
   have a1t:=ar.top
   simp only [Ak,hcl,intA] at a1t
   have ro:∀ e:Ent,entAt (S2a++[e]) I.it I.et=_:=fun e=>Aa a1t
   have hE3:∀ e:Ent,entAt (S2a++[e]) (S.length+2) n8=some (ceQ z.1):=fun e=>Aa yr.E8
   have py:∀ e:Ent,entAt (S2a++[e]) I.ic I.ec=some (flat ceQ (put cs (2*x) w.1)):=fun e=>Aa o4
   have pz:∀ e:Ent,entAt (S3a++[e]) I.ic I.ec=some (flat ceQ (put cs (2*x) w.1)):=fun e=>Aa a1r
   have dw:=A4 (ce:=ceQ) Ao (l:=cs) (k:=2*x) (q':=w.1) (by omega)
   have gz:=A4 (ce:=ceQ) Ao (l:=put cs (2*x) w.1) (k:=2*x+1) (q':=d.1) (by rw [Ak]; omega)
   have htx:=Ar (ce:=ceQ) Ao (l:=put cs (2*x) w.1) (k:=2*x) (q:=w.1) (B3 (by omega))
   simp (maxSteps:=10^6)+contextual(disch:=try exact dqd)only[evg1,simprocAttr,AV.int,AV.bool,AV.str,results86,e0,e2,e4,e6,e8,e40,e41,e42,c2,hw,xt,j1,xu,xv,hb1,hb2,fj,hg1,zt,cq,hg3,hP4,il,j0,pg,ro,hE3,py,pz,dw,gz,htx,D3,xfs,puQ,tkQ,Ao,Bg]
   have zr:lcC qF z.1 (idxV vars ct.1) cs ct.2=(put (put cs (2*x) w.1) (2*x+1) d.1,Bool.or w.2 d.2):=by unfold lcC; rw [<- hx,<- gh,<- fe]
   rw [k7] at ke
   simp only [lcsC,zr] at ke
   exact IH (S4a,n'+1+1+4,j+1,put (put cs (2*x) w.1) (2*x+1) d.1,Bool.or f1 (Bool.or w.2 d.2)) _ (by first|omega|(simp only; omega)) ⟨rfl,by first|omega|(dsimp only; omega),by rw [ke]; simp only [Bool.or_assoc],by rw [Ak,Ak]; exact hcl,by simpa only [Bool.or_assoc] using zx,by and_intros <;> first|rfl|simp only [getT,List.map_append,List.map_cons,List.map_nil]⟩
  ·have c2:decide ((j:Int)<(a.length:Int))=false:=by simpa using hja
   have ub:a.drop j=[]:=List.drop_eq_nil_of_le (by omega)
   rw [ub] at ke
   simp only [lcsC,Bool.or_false] at ke
   clear IH ub hja hj
   obtain ⟨h,hh⟩:∃ h,h=cw I.ib I.eb 1 t1.rows.length:=⟨_,rfl⟩
   have hlen:lenV false true h=some (.int (t1.rows.length:Nat)):=by
    rw [hh]
    cases t1.rows.length with
    | zero=>rfl
    | succ n=>rfl
   rw [<- hh] at fc
   simp (maxSteps:=10^6)+contextual(disch:=try exact dqd)only[evg1,simprocAttr,AV.int,AV.bool,AV.str,results86,e0,e2,e4,e6,e8,e40,e41,e42,c2,fc,hlen]
   obtain ⟨ck,mi⟩:∃ ck,ck=cs:=⟨_,rfl⟩
   subst mi
   obtain ⟨fa,a1u⟩:∃ fa,fa=Bool.or (Bool.or t1.fl z.2) f1:=⟨_,rfl⟩
   rw [<- a1u] at eg
   have a21:=hcl
   clear hcl fc c2
   refine Ef (P:=prog) (fun x st=>st.T.length=150/\(x.2.2.1<=t1.rows.length)/\(Nc qF t1.basis t1.rows ck=((Nc qF (t1.basis.drop x.2.2.1) (t1.rows.drop x.2.2.1) x.2.2.2.1).1,Bool.or x.2.2.2.2 (Nc qF (t1.basis.drop x.2.2.1) (t1.rows.drop x.2.2.1) x.2.2.2.1).2))/\(x.2.2.2.1.length=t1.cost.length)/\(Q1 S x.1 iq eq I { t1 with cost:=x.2.2.2.1,fl:=Bool.or fa x.2.2.2.2 } cc k n8 z.1 (An a) n)/\getT st.T 0=.ref I.it I.et 0/\getT st.T 4=.ref S.length k 0/\getT st.T 6=.ref (S.length+1) (k+1) 0/\getT st.T 92=h/\getT st.T 93=.int (t1.rows.length:Nat)/\getT st.T 94=.int (x.2.2.1:Nat)/\st.S=x.1/\st.tk=tk'/\st.n=x.2.1) (fun x=>t1.rows.length - x.2.2.1) (S',n',0,ck,false) ?_ ?_
   case refine_2=>exact ⟨rfl,Nat.zero_le _,rfl,a21,by simp only [Bool.or_false]; exact eg,rfl,rfl,rfl,rfl,rfl,rfl,rfl,rfl,rfl⟩
   rintro ⟨SS,n1,j,cs,f2⟩ ⟨T,S',tk',n'⟩ ⟨hl,hj,hRb,hcl,eg,e0,e4,e6,e92,e93,e94,eS,eT,eN⟩ IH
   simp only at hj hRb hcl eg e0 e4 e6 e92 e93 e94 eS eT eN
   subst eS eT eN
   obtain ⟨g,hg,hT⟩:=Av hl
   rw [hg] at e0 e4 e6 e92 e93 e94
   subst hT
   clear hg hl
   have fc:=eg.T.top
   simp only [hcl,intA] at fc
   by_cases hjm:j<t1.rows.length
   ·have c2:decide ((j:Int)<(t1.rows.length:Int))=true:=by simpa using hjm
    have hw:IntKind.i64.wrap ((j:Int)+1)=((j+1:Nat):Int):=by rw [Ad (by unfold i64; have:=yf.bigM; omega)]; rfl
    have bm:0<t1.rows.length:=by omega
    have bo:t1.rows≠[]:=fun h0=>by rw [h0] at bm; simp at bm
    rw [Ba bm] at hh
    subst hh
    rw [Ba bm,Ba bm] at fc
    have pf:=eg.T.basisE bo
    have jn:=eg.T.rowsE bo
    simp only [hcl] at jn
    obtain ⟨bk,jp⟩:=Ag (show j<t1.basis.length by rw [yf.nb]; exact hjm)
    have fo:nth (List.drop j (t1.basis.map intA)) 0=some (.prim (.int .i64 (bk:Int))):=Dj (by rw [Ae] at jp ⊢; rw [List.getElem?_map,jp]; rfl)
    obtain ⟨pk,ef⟩:=Ag (show j<I.ids.length by rw [yf.nids]; exact hjm)
    have cl:nth (List.drop j (I.ids.map (gt t1.cost.length 2))) 0=some (.sref pk.1 pk.2 0 t1.cost.length 2):=Dj (by rw [Ae] at ef ⊢; rw [List.getElem?_map,ef]; rfl)
    obtain ⟨r0,fm⟩:=Ag hjm
    have dn:=yf.rowW r0 (Al fm)
    have kn:=yf.okr r0 (Al fm)
    have c9:=eg.T.rowE j pk r0 ef fm
    have oe:=ag.ap.row pk (Al ef)
    have hbW:=yf.bB bk (Al jp)
    obtain ⟨rr,dm,S3,k3,rfl,dx,nq,df,b6⟩:=Ama S' tk' n' iq eq _ I.it I.et I.ic I.ec pk.1 pk.2 t1.cost.length bk _ cs r0 eg.T.top eg.T.fa eg.T.costE c9 hcl dn hbW hW eg.T.okc kn oe.2.2.1.symm ag.ap.tc.symm ag.ap.qc.symm ag.ap.qt oe.2.2.2.2.symm
    obtain ⟨y,hy⟩:∃ y,y=lessT qF cs r0 bk:=⟨_,rfl⟩
    have hyl:y.1.length=t1.cost.length:=by rw [hy,Jn]; exact hcl
    have hyo:okL qF y.1:=by rw [hy]; exact Rw Bz eg.T.okc kn
    rw [<- hy] at nq df
    have co:=eg.T.setCost (S':=S3) (k':=y.1) (fl':=Bool.or (Bool.or fa f2) y.2) (by simp only [hcl]; exact hyl) hyo b6 nq df
    have hL3:=eg.step dv co (fun j hj=>b6 j hj.2.1 hj.1) dx
    have io:List.take S'.length S3=S3:=List.take_of_length_le (by omega)
    have a23:S'.length<=S3.length:=by omega
    have nk:=co.top
    have a24:=co.rowsE bo
    simp only [hyl,intA] at nk a24
    rw [Ba bm,Ba bm] at nk
    simp (maxSteps:=10^6)+contextual(disch:=try exact dqd)only[evg1,simprocAttr,AV.int,AV.bool,AV.str,results86,e0,e4,e6,e92,e93,e94,c2,hw,fc,pf,fo,jn,cl,hjm,dm,io,a23,Amz,D3,xfs,Nat.mul_one]
    have hdb:=Bc jp
    have gt:=Bc fm
    rw [hdb,gt] at hRb
    simp only [Nc,<- hy] at hRb
    exact IH (S3,k3,j+1,y.1,Bool.or f2 y.2) _ (by first|omega|(simp only; omega)) ⟨rfl,by first|omega|(dsimp only; omega),by rw [hRb]; simp only [Bool.or_assoc],hyl,by simpa only [Bool.or_assoc] using hL3,by and_intros <;> first|rfl|simp only [getT,List.map_append,List.map_cons,List.map_nil]⟩
   ·have c2:decide ((j:Int)<(t1.rows.length:Int))=false:=by simpa using hjm
    have ub:t1.rows.drop j=[]:=List.drop_eq_nil_of_le (by omega)
    have a25:Nc qF t1.basis t1.rows ck=(cs,f2):=by
     rw [hRb,ub]
     cases t1.basis.drop j <;> simp [Nc]
    have hlt:Yb qF t a vars={ t1 with cost:=cs,fl:=Bool.or fa f2 }:=by
     unfold Yb
     simp only
     rw [<- bv,<- hz,<- hc0,ke,a25,a1u]
    rw [hlt] at hK
    obtain ⟨rd,a1v,S4,k4,rfl,n0,i7,hn4⟩:=Vr S' tk' n' iq eq I _ t' cc K b eg.T hK
    have zx:=eg.step dv i7 hn4 n0
    have u5:=zx.E6
    have a3s:=zx.len
    have a26:=zx.fr
    clear IH
    have yg:=zx.E4
    simp only [An] at yg
    simp only [Zs] at u5
    have tl:LowQ I iq S.length t':=⟨az.it,az.ic,fun hr=>by
     by_cases h0:t.rows=[]
     ·have h1:=i7.nids
      have h2:=ag.nids
      rw [h0] at h2
      exact absurd (List.length_eq_zero_iff.1 (by rw [<- h1,h2]; rfl)) hr
     ·exact az.ir h0,fun hr=>by
     by_cases h0:t.rows=[]
     ·have h1:=i7.nids
      have h2:=ag.nids
      rw [h0] at h2
      exact absurd (List.length_eq_zero_iff.1 (by rw [<- h1,h2]; rfl)) hr
     ·exact az.ib h0,az.row,az.iq⟩
    cases b with
    | false =>
     have hI:∀ S tk k,cL prog 34 [.int 0] S tk k=some (.agg (ceW (0,1)),S,tk,k):=fun S tk k=>Rm S tk k 0 (by unfold i64; omega)
     have hE7:∀ cs,entAt (put S4 (S.length+1) ⟨k+1,cs⟩) (S.length+1) (k+1)=some cs:=fun cs=>Af (by omega)
     simp (maxSteps:=10^6)+contextual(disch:=try exact dqd)only[evg1,simprocAttr,AV.int,AV.bool,AV.str,results86,e0,e4,e6,e92,e93,e94,c2,a1v,hI,u5,hE7,ovW,Ap,A9,tkW,puW]
     rw [hΦ]
     refine ⟨_,_,rfl,by rw [List.length_take,Ah]; omega,?_,fun j hj=>?_⟩
     ·have th:=i7.frame (S':=put S4 (S.length+1) ⟨k+1,ceW (0,1)⟩) (fl':=t'.fl) tl (fun j h1 h2=>Ac (by omega)) (i7.fa.put (by omega))
      exact th.take tl
     ·by_cases fu:j<S.length
      ·rw [Du fu,Ac (by omega)]; exact a26 j fu hj
      ·rw [Ae,Ae,List.getElem?_eq_none (by rw [List.length_take]; omega),List.getElem?_eq_none (by omega)]
    | true =>
     have u3:=i7.top
     simp only [intA] at u3
     have hcE4:=i7.costE
     have hW4:=i7.bigW
     have hr4:=i7.real
     have ze:IntKind.i64.wrap ((t'.cost.length:Int) - 1)=((t'.cost.length - 1:Nat):Int):=by rw [Ad (by unfold i64; omega)]; omega
     have a1w:t'.cost.length - 1<t'.cost.length:=by omega
     obtain ⟨x,hx⟩:=Ag a1w
     have ox:=i7.okc x (Al hx)
     obtain ⟨w,gh⟩:∃ w,w=qF.whole n:=⟨_,rfl⟩
     have ow:qF.ok w.1:=by rw [gh]; exact D1 _ hn
     obtain ⟨d,fe⟩:∃ d,d=qF.minus w.1 x:=⟨_,rfl⟩
     have od:qF.ok d.1:=by rw [fe]; exact Bz.minus _ _ ow ox
     have m8:Ny qF t' n=(d.1,Bool.or w.2 d.2):=by unfold Ny; rw [Az hx,<- gh,<- fe]
     have fj:=Hz S4 tk' k4 iq eq t'.fl n hn i7.fa
     have hg1:=D4 (c:=w.2) i7.fa
     rw [<- gh] at fj
     obtain ⟨S5,hS5⟩:∃ S5,S5=flS S4 iq eq w.2:=⟨_,rfl⟩
     have th:=i7.flag (S':=flS S4 iq eq w.2) (fun j hj=>Ax hj) i7.fa.fS
     have hL5:=zx.step dv th (fun j hj=>Ax hj.1) Bd
     rw [<- hS5] at fj hg1 th hL5
     obtain ⟨n5,hn5⟩:∃ n5,n5=k4+1:=⟨_,rfl⟩
     rw [<- hn5] at fj
     have ht5:=th.top
     simp only [intA] at ht5
     have a27:=th.costE
     have gv:=Ar (ce:=ceQ) Ao hx
     have cq:=J4 S5 tk' n5 iq eq _ w.1 x ow ox th.fa
     have hg2:=D4 (c:=d.2) th.fa
     rw [<- fe] at cq
     obtain ⟨S6,hS6⟩:∃ S6,S6=flS S5 iq eq d.2:=⟨_,rfl⟩
     have hT6:=th.flag (S':=flS S5 iq eq d.2) (fun j hj=>Ax hj) th.fa.fS
     have hL6:=hL5.step dv hT6 (fun j hj=>Ax hj.1) Bd
     rw [<- hS6] at cq hg2 hT6 hL6
     obtain ⟨n9,hn9⟩:∃ n9,n9=n5+4:=⟨_,rfl⟩
     rw [<- hn9] at cq
     have hl6:=hL6.len
     have hEv:entAt (S6++[⟨n9,ceQ d.1⟩]) S6.length n9=some (ceQ d.1):=Bf
     have ht6:entAt (S6++[⟨n9,ceQ d.1⟩]) I.it I.et=_:=Aa hT6.top
     simp only [intA] at ht6
     have hr:=Mr (S6++[⟨n9,ceQ d.1⟩]) tk' (n9+1) iq eq _ d.1 od (hT6.fa.app)
     have a1x:=hL6.E6
     simp only [Zs] at a1x
     have a28:entAt (S6++[⟨n9,ceQ d.1⟩]) (S.length+1) (k+1)=_:=Aa a1x
     have x9:∀ e x:Ent,put (S6++[e]) (S.length+1) x=put S6 (S.length+1) x++[e]:=fun e x=>Dd (by omega)
     have hE7:∀ cs e,entAt (put S6 (S.length+1) ⟨k+1,cs⟩++[e]) (S.length+1) (k+1)=some cs:=fun cs e=>Aa (Af (by omega))
     simp (maxSteps:=10^6)+contextual(disch:=try exact dqd)only[evg1,simprocAttr,AV.int,AV.bool,AV.str,results86,e0,e4,e6,e92,e93,e94,c2,a1v,u3,yg,ze,fj,hg1,ht5,a27,gv,a1w,cq,hg2,hEv,ht6,hr,a28,x9,hE7,D3,xfs,puQ,tkQ,Ao,Bg,ovQ,ovW,Ap,A9,Qo,tkW,puW]
     rw [hΦ,Ag2]
     unfold Al9
     rw [if_pos rfl,if_pos rfl,m8]
     refine ⟨_,_,rfl,by rw [List.length_take,List.length_append,Ah]; omega,?_,fun j hj=>?_⟩
     ·have hT7:=(hT6.app [(⟨n9,ceQ d.1⟩:Ent)]).frame (S':=put S6 (S.length+1) ⟨k+1,ceW (qF.rat d.1)⟩++[(⟨n9,ceQ d.1⟩:Ent)]) (fl':=Bool.or (Bool.or t'.fl w.2) d.2) (tl.of fun h=>h) (fun j h1 h2=>by rw [A6 (by rw [Ah]; omega),Ac (by omega),A6 (by omega)]) ((hT6.fa.put (by omega)).app)
      have hT8:=hT7.take (n:=S.length) (tl.of fun h=>h)
      simpa only [Bool.or_assoc] using hT8
     ·by_cases fu:j<S.length
      ·rw [Du fu,A6 (by rw [Ah]; omega),Ac (by omega)]; exact hL6.fr j fu hj
      ·rw [Ae,Ae,List.getElem?_eq_none (by rw [List.length_take]; omega),List.getElem?_eq_none (by omega)]
end
end
section
open Go
theorem Ay.junk {S:List Ent} {iq eq:Nat} {I:TI} {t:Tb} {c:Cap} (h:Ay S iq eq I t c) (h0:t.rows=[]) (k8:iq<S.length) {x y:Nat} (hx:S.length<=x) (hy:S.length<=y) (ji:x≠y) :
  Ay S iq eq ⟨I.it,I.et,x,0,I.ic,I.ec,y,0,I.ids⟩ t c:=by
 have hl:=h.low
 have h1:=hl.it
 have h2:=hl.ic
 have jq:I.ids=[]:=List.length_eq_zero_iff.1 (by rw [h.nids,h0]; rfl)
 refine ⟨?_,h.nids,fun hn=>absurd h0 hn,h.rowE,h.rowW,h.costE,fun hn=>absurd h0 hn,h.nb,h.nf,h.fa,?_,h.okr,h.okc,h.bigW,h.bigM,h.real,h.bB⟩
 ·have h3:=h.top
  rw [h0] at h3 ⊢
  exact h3
 ·have ha:=h.ap
  refine ⟨by simp only; omega,ha.tc,by simp only; omega,by simp only; omega,ji,by simp only; omega,ha.qt,by simp only; omega,ha.qc,by simp only; omega,fun p hp=>?_,ha.rows⟩
  rw [jq] at hp; simp at hp
def BegRQ (S:List Ent) (iq eq:Nat) (t':Tb) (r:Rs):Prop :=
 ∃ S' k' tk' I cc,r=(.ref I.it I.et 0,S',tk',k')/\S.length<=S'.length/\Ay S' iq eq I t' cc/\(∀ j,j<S.length->j≠iq->nth S' j=nth S j)/\(∀ j,j<S.length->j≠iq->OutQ I iq j)/\(I.ib<S'.length\/S'.length+15<I.ib)
theorem Ajl.far {S:List Ent} {iq eq:Nat} {t':Tb} {r:Rs} (k8:iq<S.length) (h:Ajl S iq eq t' r):BegRQ S iq eq t' r:=by
 obtain ⟨S',k',tk',I,cc,hr,h1,h2,h3,h4⟩:=h
 by_cases h0:t'.rows=[]
 ·refine ⟨S',k',tk',⟨I.it,I.et,S'.length+20,0,I.ic,I.ec,S'.length+21,0,I.ids⟩,cc,hr,h1,h2.junk h0 (by omega) (by omega) (by omega) (by omega),h3,fun j a b=>?_,.inr (by simp only; omega)⟩
  have h5:=h4 j a b
  exact ⟨h5.1,h5.2.1,by simp only; omega,h5.2.2.2⟩
 ·exact ⟨S',k',tk',I,cc,hr,h1,h2,h3,h4,.inl (h2.low.ib h0)⟩
end
section
open Go Tryz
def Ajr (S:List Ent) (iq:Nat) (a:Ans) (ok:Bool) (r:Rs):Prop :=
 ∃ S' tk' k' c1 c2 q b,r=(.tup [.agg (ansC a.f a.pt a.nu c1 c2 q b),.bool ok],S',tk',k')/\S'.length=S.length/\(∀ j,j<S.length->j≠iq->nth S' j=nth S j)/\(∀ v,a.least=some v->q=some v.1/\b=v.2)/\(a.least=none->q=none/\b=false)
section
variable (S:List Ent) (tk:List Nat) (k iq eq:Nat)
set_option maxHeartbeats 20000000 in
set_option maxRecDepth 100000 in
theorem Aeb (l:List RowT) (fl:Bool) (hl:l.length<=1000) (hn:(B8 l).length<=1000) (vars:List ByteArray) (jl:vars.length<=1000) (hv:∀ r ∈ l,∀ c ∈ r.1,c.1 ∈ vars) (hc:∀ r ∈ l,i64 r.2.1/\∀ c ∈ r.1,i64 c.2) (dd:fewC l) (k8:iq<S.length) (hf:FAq S iq eq fl) (K:Nat) (a:Ans) (ok:Bool) (hS:G8 qF K l vars fl=some (a,ok)) :
  ∃ r,cL prog 58 [.ifc 95 (.ref iq eq 0),Au l,Am vars,.prim (.pointer none)] S tk k=some r/\Ajr S iq a ok r:=by
 obtain ⟨Φ,hΦ⟩:∃ Φ,Φ=Ajr S iq a ok:=⟨_,rfl⟩
 rw [<- hΦ]
 obtain ⟨rb,tm,hbP⟩:=Alm (S++[(⟨k,ans0⟩:Ent)]) tk (k+1) iq eq l fl hl hn vars jl hv hc dd (by simp; omega) hf.app
 obtain ⟨Sb,kb,tkb,I,cc,rfl,hlb,hTb,mq,hob,hib⟩:=hbP.far (by simp; omega)
 simp only [ans0,Au,Am] at tm
 cases hd:Gu qF K (Bj qF l vars fl) with
 | none=>unfold G8 at hS; rw [hd] at hS; simp at hS
 | some bt =>
  obtain ⟨b,t⟩:=bt
  obtain ⟨rd,k7,Sd,kd,rfl,zg,hTd,sm⟩:=Vr Sb tkb kb iq eq I _ t cc K b hTb hd
  have f8:=Q4 Sd tkb kd iq eq t.fl hTd.fa
  unfold G8 at hS
  rw [hd] at hS
  simp only at hS
  have gj:∀ j,j<S.length+1->j≠iq->OutQ I iq j:=fun j h1 h2=>hob j (by simp; omega) h2
  have hSb:S.length+1<=Sb.length:=by simpa using hlb
  have j0:entAt Sd S.length k=some ans0:=by
   rw [Ab (sm _ (gj _ (by omega) (by omega))),Ab (mq _ (by simp) (by omega))]
   exact Bf
  have aw:∀ j,j<S.length->j≠iq->nth Sd j=nth S j:=fun j h1 h2=>by
   rw [sm _ (gj _ (by omega) h2),mq _ (by simp; omega) h2,A6 h1]
  have hP0:∀ cs,entAt (put Sd S.length ⟨k,cs⟩) S.length k=some cs:=fun cs=>Af (by omega)
  have qf:over ans0 0 ans0=some ans0:=rfl
  have yh:=j0
  simp only [ans0] at qf j0
  refine opG func58 ntmps58 ?_
  cases aj:(qF.stop && t.fl) with
  | true =>
   rw [aj] at f8 hS
   simp (maxSteps:=10^6)+contextual(disch:=try exact dqd)only[evg1,simprocAttr,AV.int,AV.bool,AV.str,results58,Au,Am,tm,k7,f8,j0,qf,hP0,D3,xfs]
   rw [if_pos rfl] at hS
   simp only [Option.some.injEq,Prod.mk.injEq] at hS
   obtain ⟨rfl,rfl⟩:=hS
   rw [hΦ]
   refine ⟨_,_,_,.nilc,.nilc,none,false,rfl,by rw [List.length_take,Ah]; omega,fun j h1 h2=>?_,fun v hv=>by simp at hv,fun _=>⟨rfl,rfl⟩⟩
   rw [Du h1,Ac (by omega)]; exact aw j h1 h2
  | false =>
   rw [aj] at f8 hS
   rw [if_neg Bool.false_ne_true] at hS
   obtain ⟨rf,dq,Sf,kf,rfl,hlf,yt,u6⟩:=X9 Sd tkb kd iq eq I t cc hTd
   have hsz:=Pr hd
   have mh:=Mt (F:=qF) (l:=l) (vars:=vars) (fl:=fl)
   have zy:∀ d,d<=10->OutQ I iq (Sf.length+d):=fun d hd=>by
    rw [hlf,zg]; exact Zu hTb (by omega) (by omega) d hd
   have hEf:entAt Sf S.length k=some ans0:=by rw [Ab (u6 _ (gj _ (by omega) (by omega)))]; exact yh
   cases hfe:H5 t with
   | false =>
    rw [hfe] at dq hS
    rw [if_neg Bool.false_ne_true] at hS
    simp only [Option.some.injEq,Prod.mk.injEq] at hS
    obtain ⟨rfl,rfl⟩:=hS
    obtain ⟨rm,o9,Sm,km,tkm,cm,rfl,uu,u7,du⟩:=N2 (Sf++[(⟨kf,ans0⟩:Ent)]) tkb (kf+1) iq eq I t cc (yt.app _) (by rw [hsz.1,hsz.2.2.1,hsz.2.2.2,mh.1,mh.2.2.1,mh.2.2.2]; omega)
    have uo:Sm.length=Sf.length+1:=by rw [uu]; simp
    have mf:entAt Sm Sf.length kf=some ans0:=by rw [Ab (du Sf.length (zy 0 (by omega)))]; exact Bf
    have gf:entAt Sm S.length k=some ans0:=by rw [Ab (du _ (gj _ (by omega) (by omega)))]; exact Aa hEf
    have hR:Hu (Gw qF t).1=(Gw qF t).1.map fun q=>ceW (qF.rat q):=rfl
    have qe:∀ cs,entAt (put Sm Sf.length ⟨kf,cs⟩) Sf.length kf=some cs:=fun cs=>Af (by omega)
    have jc:∀ x,entAt (put Sm Sf.length x) S.length k=some ans0:=fun x=>by rw [Aj (by omega)]; exact gf
    have o6:∀ x,FAq (put Sm Sf.length x) iq eq (Bool.or t.fl (Gw qF t).2):=fun x=>u7.fa.put (by omega)
    have o7:=fun x=>Q4 (put Sm Sf.length x) tkm km iq eq _ (o6 x)
    have z6:∀ x cs,entAt (put (put Sm Sf.length x) S.length ⟨k,cs⟩) S.length k=some cs:=fun x cs=>Af (by rw [Ah]; omega)
    simp only [ans0] at mf gf jc o9
    simp (maxSteps:=10^6)+contextual(disch:=try exact dqd)only[evg1,simprocAttr,AV.int,AV.bool,AV.str,results58,Au,Am,tm,k7,f8,dq,o9,mf,qe,jc,o7,z6,D3,xfs]
    rw [hΦ]
    refine ⟨_,_,_,.nilc,cm,none,false,by rw [hR]; unfold ansC; rw [List.map_map]; rfl,by rw [List.length_take,Ah,Ah]; omega,fun j h1 h2=>?_,fun v hv=>by simp at hv,fun _=>⟨rfl,rfl⟩⟩
    rw [Du h1,Ac (by omega),Ac (by omega),du _ (gj _ (by omega) h2),A6 (by omega),u6 _ (gj _ (by omega) h2)]
    exact aw j h1 h2
   | true =>
    rw [hfe] at dq hS
    rw [if_pos rfl] at hS
    simp only [Option.some.injEq,Prod.mk.injEq] at hS
    obtain ⟨rfl,rfl⟩:=hS
    obtain ⟨ans1,qg⟩:∃ ans1:List AV,ans1=[.prim (.bool true),.frz [] .nilc,.frz [] .nilc,.prim (.bool false),.frz [] .nilc,.prim (.bool false),.frz [] .nilc,.prim (.bool false)]:=⟨_,rfl⟩
    obtain ⟨rm,o9,Sm,km,tkm,cm,rfl,uu,u7,du⟩:=Akz (Sf++[(⟨kf,ans1⟩:Ent)]) tkb (kf+1) iq eq I t cc (yt.app _) (by rw [hsz.1,hsz.2.1,mh.1,mh.2.1]; omega)
    have uo:Sm.length=Sf.length+1:=by rw [uu]; simp
    have mf:entAt Sm Sf.length kf=some ans1:=by rw [Ab (du Sf.length (zy 0 (by omega)))]; exact Bf
    have gf:entAt Sm S.length k=some ans0:=by rw [Ab (du _ (gj _ (by omega) (by omega)))]; exact Aa hEf
    have hR:Hu (B6 qF t).1=(B6 qF t).1.map fun q=>ceW (qF.rat q):=rfl
    have qe:∀ cs,entAt (put Sm Sf.length ⟨kf,cs⟩) Sf.length kf=some cs:=fun cs=>Af (by omega)
    have jc:∀ x,entAt (put Sm Sf.length x) S.length k=some ans0:=fun x=>by rw [Aj (by omega)]; exact gf
    have o6:∀ x,FAq (put Sm Sf.length x) iq eq (Bool.or t.fl (B6 qF t).2):=fun x=>u7.fa.put (by omega)
    have o7:=fun x=>Q4 (put Sm Sf.length x) tkm km iq eq _ (o6 x)
    have z6:∀ x cs,entAt (put (put Sm Sf.length x) S.length ⟨k,cs⟩) S.length k=some cs:=fun x cs=>Af (by rw [Ah]; omega)
    rw [qg] at mf o9
    have yi:Jf BinOp.neq (R0 prog 68) true=some (.prim (.bool false)):=by kernel_rfl
    simp only [ans0] at gf jc
    simp (maxSteps:=10^6)+contextual(disch:=try exact dqd)only[evg1,simprocAttr,AV.int,AV.bool,AV.str,results58,Au,Am,tm,k7,f8,dq,o9,mf,qe,jc,o7,z6,yi,D3,xfs]
    rw [hΦ]
    refine ⟨_,_,_,cm,.nilc,none,false,by rw [hR]; unfold ansC; rw [List.map_map]; rfl,by rw [List.length_take,Ah,Ah]; omega,fun j h1 h2=>?_,fun v hv=>by simp at hv,fun _=>⟨rfl,rfl⟩⟩
    rw [Du h1,Ac (by omega),Ac (by omega),du _ (gj _ (by omega) h2),A6 (by omega),u6 _ (gj _ (by omega) h2)]
    exact aw j h1 h2
end
end
section
open Go Tryz
theorem Gq {f b:Bool} {p n:List Q} {c1 c2:Cap} {q:Option Q} : (ansC f p n c1 c2 q b).length=8:=by cases q <;> rfl
theorem L7 {f b:Bool} {p n:List Q} {c1 c2:Cap} {q:Option Q} : (ansC f p n c1 c2 q b).all leafOk=true:=by cases q <;> rfl
theorem Ku {e e':List AV} (h:e.length=e'.length):over e 0 e'=some e':=by
 have:=Ps (r:=[]) h
 simpa using this
section
variable (S:List Ent) (tk:List Nat) (k:Nat)
set_option maxHeartbeats 4000000 in
set_option maxRecDepth 100000 in
theorem Xe (l:List RowT) (hl:l.length<=1000) (hn:(B8 l).length<=1000) (vars:List ByteArray) (jl:vars.length<=1000) (hv:∀ r ∈ l,∀ c ∈ r.1,c.1 ∈ vars) (hc:∀ r ∈ l,i64 r.2.1/\∀ c ∈ r.1,i64 c.2) (dd:fewC l) (K:Nat) (a:Ans) (hS:G8 qF K l vars false=some (a,true)) (ha:a.least=none) :
  cL prog 31 [Au l,Am vars,.prim (.pointer none)] S tk k=some (.agg (ansC a.f a.pt a.nu .unk .unk (some (0,0)) false),S,tk,k):=by
 obtain ⟨r1,b7,S1,tk1,k1,c1,c2,q1,b1,rfl,hl1,bl,jz,d6⟩:=Aeb [(⟨0,ans0⟩:Ent),(⟨1,[.prim (.bool false)]⟩:Ent)] [] 2 1 1 l false hl hn vars jl hv hc dd (by simp) rfl K a true hS
 simp only [ans0,Au,Am] at b7
 have hi1:R9 prog 95=false:=by kernel_rfl
 have u4:R9 prog 100=false:=by kernel_rfl
 have hN1:∀ e:Ent,nth (S1++[e]) S1.length=some e:=fun e=>by rw [Ae,List.getElem?_append_right (Nat.le_refl _),Nat.sub_self]; rfl
 have dw:over [AV.prim (.bool false),.frz [] .nilc,.frz [] .nilc,.prim (.bool false),.frz [] .nilc,.prim (.bool false),.frz [] .nilc,.prim (.bool false)] 0 (ansC a.f a.pt a.nu c1 c2 q1 b1)=some (ansC a.f a.pt a.nu c1 c2 q1 b1):=Ku (by rw [Gq]; rfl)
 have io:∀ f p n c1 c2 q b,takeN 8 (ansC f p n c1 c2 q b)=some (ansC f p n c1 c2 q b):=fun f p n c1 c2 q b=>by
  have:=Mj (r:=[]) (Gq (f:=f) (p:=p) (n:=n) (c1:=c1) (c2:=c2) (q:=q) (b:=b))
  simpa using this
 have yq:nth S1 0=some ⟨0,ans0⟩:=by rw [bl 0 (by simp) (by omega)]; rfl
 have a1b:S1.length=2:=by rw [hl1]; rfl
 have hN0:∀ e:Ent,nth (S1++[e]) 0=some ⟨0,ans0⟩:=fun e=>by rw [A6 (by omega)]; exact yq
 have hNP:∀ e x:Ent,nth (put (S1++[e]) 0 x) 0=some x:=fun e x=>B3 (by simp)
 simp only [ans0] at hN0
 obtain ⟨rfl,rfl⟩:=d6 ha
 refine opP func31 ntmps31 (hp3:=rfl) ?_
 simp (maxSteps:=10^6)+contextual(disch:=try exact dqd)only[ev1,simprocAttr,AV.int,AV.bool,AV.str,results31,Au,Am,b7,hi1,u4,ifcA,hN1,dw,Gq,L7,io,hN0,hNP]
 rfl
end
end
section
open Go Tryz
section
variable (S:List Ent) (tk:List Nat) (k iq eq:Nat)
set_option maxHeartbeats 20000000 in
set_option maxRecDepth 100000 in
theorem Alr (cs:List (ByteArray × Int)) (nn:Int) (pi pe:Nat) (hpE:entAt S pi pe=some [An cs,.prim (.int .i64 nn)]) (hpq:pi≠iq) (hcc:∀ c ∈ cs,i64 c.2) (hnn:i64 nn) (hcl:cs.length<=24) (l:List RowT) (fl:Bool) (hl:l.length<=1000) (hn:(B8 l).length<=1000) (vars:List ByteArray) (jl:vars.length<=1000) (hcv:∀ c ∈ cs,c.1 ∈ vars) (hv:∀ r ∈ l,∀ c ∈ r.1,c.1 ∈ vars) (hc:∀ r ∈ l,i64 r.2.1/\∀ c ∈ r.1,i64 c.2) (dd:fewC l) (k8:iq<S.length) (hf:FAq S iq eq fl) (K:Nat) (a:Ans) (ok:Bool) (hS:P8 qF K l vars fl cs nn=some (a,ok)) :
  ∃ r,cL prog 58 [.ifc 95 (.ref iq eq 0),Au l,Am vars,.ref pi pe 0] S tk k=some r/\Ajr S iq a ok r:=by
 obtain ⟨Φ,hΦ⟩:∃ Φ,Φ=Ajr S iq a ok:=⟨_,rfl⟩
 rw [<- hΦ]
 obtain ⟨rb,tm,hbP⟩:=Alm (S++[(⟨k,ans0⟩:Ent)]) tk (k+1) iq eq l fl hl hn vars jl hv hc dd (by simp; omega) hf.app
 obtain ⟨Sb,kb,tkb,I,cc,rfl,hlb,hTb,mq,hob,hib⟩:=hbP.far (by simp; omega)
 simp only [ans0,Au,Am] at tm
 cases hd:Gu qF K (Bj qF l vars fl) with
 | none=>unfold P8 at hS; rw [hd] at hS; simp at hS
 | some bt =>
  obtain ⟨b,t⟩:=bt
  obtain ⟨rd,k7,Sd,kd,rfl,zg,hTd,sm⟩:=Vr Sb tkb kb iq eq I _ t cc K b hTb hd
  have f8:=Q4 Sd tkb kd iq eq t.fl hTd.fa
  unfold P8 at hS
  rw [hd] at hS
  simp only at hS
  have gj:∀ j,j<S.length+1->j≠iq->OutQ I iq j:=fun j h1 h2=>hob j (by simp; omega) h2
  have hSb:S.length+1<=Sb.length:=by simpa using hlb
  have j0:entAt Sd S.length k=some ans0:=by
   rw [Ab (sm _ (gj _ (by omega) (by omega))),Ab (mq _ (by simp) (by omega))]
   exact Bf
  have aw:∀ j,j<S.length->j≠iq->nth Sd j=nth S j:=fun j h1 h2=>by
   rw [sm _ (gj _ (by omega) h2),mq _ (by simp; omega) h2,A6 h1]
  have hP0:∀ cs,entAt (put Sd S.length ⟨k,cs⟩) S.length k=some cs:=fun cs=>Af (by omega)
  have qf:over ans0 0 ans0=some ans0:=rfl
  have yh:=j0
  simp only [ans0] at qf j0
  refine opG func58 ntmps58 ?_
  cases aj:(qF.stop && t.fl) with
  | true =>
   rw [aj] at f8 hS
   simp (maxSteps:=10^6)+contextual(disch:=try exact dqd)only[evg1,simprocAttr,AV.int,AV.bool,AV.str,results58,Au,Am,tm,k7,f8,j0,qf,hP0,D3,xfs]
   rw [if_pos rfl] at hS
   simp only [Option.some.injEq,Prod.mk.injEq] at hS
   obtain ⟨rfl,rfl⟩:=hS
   rw [hΦ]
   refine ⟨_,_,_,.nilc,.nilc,none,false,rfl,by rw [List.length_take,Ah]; omega,fun j h1 h2=>?_,fun v hv=>by simp at hv,fun _=>⟨rfl,rfl⟩⟩
   rw [Du h1,Ac (by omega)]; exact aw j h1 h2
  | false =>
   rw [aj] at f8 hS
   rw [if_neg Bool.false_ne_true] at hS
   obtain ⟨rf,dq,Sf,kf,rfl,hlf,yt,u6⟩:=X9 Sd tkb kd iq eq I t cc hTd
   have hsz:=Pr hd
   have mh:=Mt (F:=qF) (l:=l) (vars:=vars) (fl:=fl)
   have zy:∀ d,d<=10->OutQ I iq (Sf.length+d):=fun d hd=>by
    rw [hlf,zg]; exact Zu hTb (by omega) (by omega) d hd
   have hEf:entAt Sf S.length k=some ans0:=by rw [Ab (u6 _ (gj _ (by omega) (by omega)))]; exact yh
   cases hfe:H5 t with
   | false =>
    rw [hfe] at dq hS
    rw [if_neg Bool.false_ne_true] at hS
    simp only [Option.some.injEq,Prod.mk.injEq] at hS
    obtain ⟨rfl,rfl⟩:=hS
    obtain ⟨rm,o9,Sm,km,tkm,cm,rfl,uu,u7,du⟩:=N2 (Sf++[(⟨kf,ans0⟩:Ent)]) tkb (kf+1) iq eq I t cc (yt.app _) (by rw [hsz.1,hsz.2.2.1,hsz.2.2.2,mh.1,mh.2.2.1,mh.2.2.2]; omega)
    have uo:Sm.length=Sf.length+1:=by rw [uu]; simp
    have mf:entAt Sm Sf.length kf=some ans0:=by rw [Ab (du Sf.length (zy 0 (by omega)))]; exact Bf
    have gf:entAt Sm S.length k=some ans0:=by rw [Ab (du _ (gj _ (by omega) (by omega)))]; exact Aa hEf
    have hR:Hu (Gw qF t).1=(Gw qF t).1.map fun q=>ceW (qF.rat q):=rfl
    have qe:∀ cs,entAt (put Sm Sf.length ⟨kf,cs⟩) Sf.length kf=some cs:=fun cs=>Af (by omega)
    have jc:∀ x,entAt (put Sm Sf.length x) S.length k=some ans0:=fun x=>by rw [Aj (by omega)]; exact gf
    have o6:∀ x,FAq (put Sm Sf.length x) iq eq (Bool.or t.fl (Gw qF t).2):=fun x=>u7.fa.put (by omega)
    have o7:=fun x=>Q4 (put Sm Sf.length x) tkm km iq eq _ (o6 x)
    have z6:∀ x cs,entAt (put (put Sm Sf.length x) S.length ⟨k,cs⟩) S.length k=some cs:=fun x cs=>Af (by rw [Ah]; omega)
    simp only [ans0] at mf gf jc o9
    simp (maxSteps:=10^6)+contextual(disch:=try exact dqd)only[evg1,simprocAttr,AV.int,AV.bool,AV.str,results58,Au,Am,tm,k7,f8,dq,o9,mf,qe,jc,o7,z6,D3,xfs]
    rw [hΦ]
    refine ⟨_,_,_,.nilc,cm,none,false,by rw [hR]; unfold ansC; rw [List.map_map]; rfl,by rw [List.length_take,Ah,Ah]; omega,fun j h1 h2=>?_,fun v hv=>by simp at hv,fun _=>⟨rfl,rfl⟩⟩
    rw [Du h1,Ac (by omega),Ac (by omega),du _ (gj _ (by omega) h2),A6 (by omega),u6 _ (gj _ (by omega) h2)]
    exact aw j h1 h2
   | true =>
    rw [hfe] at dq hS
    rw [if_pos rfl] at hS
    obtain ⟨ans1,qg⟩:∃ ans1:List AV,ans1=[.prim (.bool true),.frz [] .nilc,.frz [] .nilc,.prim (.bool false),.frz [] .nilc,.prim (.bool false),.frz [] .nilc,.prim (.bool false)]:=⟨_,rfl⟩
    obtain ⟨rm,o9,Sm,km,tkm,cm,rfl,uu,u7,du⟩:=Akz (Sf++[(⟨kf,ans1⟩:Ent)]) tkb (kf+1) iq eq I t cc (yt.app _) (by rw [hsz.1,hsz.2.1,mh.1,mh.2.1]; omega)
    have uo:Sm.length=Sf.length+1:=by rw [uu]; simp
    have mf:entAt Sm Sf.length kf=some ans1:=by rw [Ab (du Sf.length (zy 0 (by omega)))]; exact Bf
    have gf:entAt Sm S.length k=some ans0:=by rw [Ab (du _ (gj _ (by omega) (by omega)))]; exact Aa hEf
    have hR:Hu (B6 qF t).1=(B6 qF t).1.map fun q=>ceW (qF.rat q):=rfl
    obtain ⟨S1,cj⟩:∃ S1,S1=put Sm Sf.length ⟨kf,[.prim (.bool true),.frz (Hu (B6 qF t).1) cm,.frz [] .nilc,.prim (.bool false),.frz [] .nilc,.prim (.bool false),.frz [] .nilc,.prim (.bool false)]⟩:=⟨_,rfl⟩
    have hl1:S1.length=Sf.length+1:=by rw [cj,Ah]; exact uo
    have bl:∀ j,j≠Sf.length->nth S1 j=nth Sm j:=fun j hj=>by rw [cj,Ac (Ne.symm hj)]
    have dy:Ay S1 iq eq I { t with fl:=Bool.or t.fl (B6 qF t).2 } cc:=u7.frame (n:=Sf.length) (yt.low.of fun h=>h) (fun j h1 h2=>bl j (by omega)) (u7.fa.of (bl _ (by omega)))
    have pg:entAt S1 Sf.length kf=some [.prim (.bool true),.frz (Hu (B6 qF t).1) cm,.frz [] .nilc,.prim (.bool false),.frz [] .nilc,.prim (.bool false),.frz [] .nilc,.prim (.bool false)]:=by rw [cj]; exact Af (by omega)
    have hp1:entAt S1 pi pe=some [An cs,.prim (.int .i64 nn)]:=by
     have di:=A7 hpE
     rw [Ab (bl _ (by omega)),Ab (du _ (gj _ (by omega) hpq)),Aa (by rw [Ab (u6 _ (gj _ (by omega) hpq)),Ab (aw _ di hpq)]; exact hpE)]
    have a29:entAt S1 S.length k=some ans0:=by rw [Ab (bl _ (by omega))]; exact gf
    have hl:=yt.low
    cases hd2:Gu qF K (Yb qF { t with fl:=Bool.or t.fl (B6 qF t).2 } cs vars) with
    | none=>rw [show (t.fl || (B6 qF t).2)=Bool.or t.fl (B6 qF t).2 from rfl,hd2] at hS; simp at hS
    | some bu =>
     obtain ⟨bb,u⟩:=bu
     rw [show (t.fl || (B6 qF t).2)=Bool.or t.fl (B6 qF t).2 from rfl,hd2] at hS
     obtain ⟨rl,zl,zo⟩:=Aom S1 tkm km iq eq I _ u cc K bb cs nn vars dy (by omega) (by omega) jl (by simp only; rw [hsz.2.2.1,mh.2.2.1]; omega) hcv hcc hnn hcl hd2
     obtain ⟨Sg,kg,rfl,hlg,hTg,hng⟩:=zo
     obtain ⟨pt,hpt⟩:∃ pt,pt=Hu (B6 qF t).1:=⟨_,rfl⟩
     rw [<- hpt] at pg cj
     obtain ⟨v,hv⟩:∃ v:Q,v=(if bb=true then qF.rat (Ny qF u nn).1 else (0,1)):=⟨_,rfl⟩
     rw [<- hv] at zl
     obtain ⟨fg,hfg⟩:∃ fg:Bool,fg=(if bb=true then Bool.or u.fl (Ny qF u nn).2 else u.fl):=⟨_,rfl⟩
     have a3a:FAq Sg iq eq fg:=by
      have h:=hTg.fa
      rw [hfg]
      cases bb <;> exact h
     have hEg:entAt Sg Sf.length kf=some [.prim (.bool true),.frz pt cm,.frz [] .nilc,.prim (.bool false),.frz [] .nilc,.prim (.bool false),.frz [] .nilc,.prim (.bool false)]:=by rw [Ab (hng Sf.length (zy 0 (by omega)))]; exact pg
     have a3b:entAt Sg S.length k=some ans0:=by rw [Ab (hng _ (gj _ (by omega) (by omega)))]; exact a29
     have dw:over [.prim (.bool false),.frz [] .nilc,.prim (.bool false),.frz [] .nilc,.prim (.bool false)] 0 (ceW v)=some (ceW v++[AV.prim (.bool false)]):=rfl
     have gz:over (ceW v++[AV.prim (.bool false)]) 4 [.prim (.bool bb)]=some (ceW v++[AV.prim (.bool bb)]):=rfl
     have vp:over [.prim (.bool false),.frz [] .nilc,.prim (.bool false),.frz [] .nilc,.prim (.bool false)] 0 (ceW v++[AV.prim (.bool bb)])=some (ceW v++[AV.prim (.bool bb)]):=rfl
     have w7:takeN 5 (ceW v++[AV.prim (.bool bb)])=some (ceW v++[AV.prim (.bool bb)]):=rfl
     have a3c:(ceW v++[AV.prim (.bool bb)]).all leafOk=true:=rfl
     have a3d:(ceW v++[AV.prim (.bool bb)]).length=5:=rfl
     have a3e:∀ m S,(ceW v++[AV.prim (.bool bb)]).map (fz1 m S)=ceW v++[.prim (.bool bb)]:=fun _ _=>rfl
     have hP1:∀ cs,entAt (put Sg Sf.length ⟨kf,cs⟩) Sf.length kf=some cs:=fun cs=>Af (by omega)
     have zt:∀ x cs,entAt (put (put Sg Sf.length x) Sf.length ⟨kf,cs⟩) Sf.length kf=some cs:=fun x cs=>Af (by rw [Ah]; omega)
     have hP3:∀ x y,entAt (put (put Sg Sf.length x) Sf.length y) S.length k=some ans0:=fun x y=>by rw [Aj (by omega),Aj (by omega)]; exact a3b
     have hP4:∀ x y cs,entAt (put (put (put Sg Sf.length x) Sf.length y) S.length ⟨k,cs⟩) S.length k=some cs:=fun x y cs=>Af (by rw [Ah,Ah]; omega)
     have a3f:=fun x y=>Q4 (put (put Sg Sf.length x) Sf.length y) tkm kg iq eq fg ((a3a.put (by omega)).put (by omega))
     have yi:Jf BinOp.neq (R0 prog 68) false=some (.prim (.bool true)):=by kernel_rfl
     rw [qg] at mf o9
     simp only [ans0] at gf hP3
     simp only [linA,Am,An] at zl
     simp only [An] at hp1
     simp (maxSteps:=10^6)+contextual(disch:=try exact dqd)only[evg1,simprocAttr,AV.int,AV.bool,AV.str,results58,Au,Am,tm,k7,f8,dq,o9,mf,<- hpt,<- cj,yi,hp1,zl,hEg,dw,hP1,gz,zt,hP3,vp,w7,a3c,a3d,a3e,a3f,hP4,Ap,A9,D3,xfs]
     rw [hΦ]
     have a1y:∀ (e1 e2 e3:Ent) j,j<S.length->j≠iq->nth (List.take S.length (put (put (put Sg Sf.length e1) Sf.length e2) S.length e3)) j=nth S j:=fun e1 e2 e3 j h1 h2=>by
      rw [Du h1,Ac (by omega),Ac (by omega),Ac (by omega),hng _ (gj _ (by omega) h2),bl _ (by omega),du _ (gj _ (by omega) h2),A6 (by omega),u6 _ (gj _ (by omega) h2)]
      exact aw j h1 h2
     have hlz:∀ (e1 e2 e3:Ent),(List.take S.length (put (put (put Sg Sf.length e1) Sf.length e2) S.length e3)).length=S.length:=fun e1 e2 e3=>by rw [List.length_take,Ah,Ah,Ah]; omega
     cases bb with
     | true =>
      simp only [Option.some.injEq,Prod.mk.injEq] at hS
      obtain ⟨rfl,rfl⟩:=hS
      rw [if_pos rfl] at hv hfg
      refine ⟨_,_,_,cm,.nilc,some v,true,by rw [hpt,hR,hfg]; unfold ansC; rw [List.map_map]; rfl,by exact hlz _ _ _,by exact a1y _ _ _,fun w hw=>?_,fun hw=>by simp at hw⟩
      ·simp only [Option.some.injEq] at hw
       subst hw
       exact ⟨by rw [hv],rfl⟩
     | false =>
      simp only [Option.some.injEq,Prod.mk.injEq] at hS
      obtain ⟨rfl,rfl⟩:=hS
      rw [if_neg Bool.false_ne_true] at hv hfg
      refine ⟨_,_,_,cm,.nilc,some v,false,by rw [hpt,hR,hfg]; unfold ansC; rw [List.map_map]; rfl,by exact hlz _ _ _,by exact a1y _ _ _,fun w hw=>?_,fun hw=>by simp at hw⟩
      ·simp only [Option.some.injEq] at hw
       subst hw
       exact ⟨by rw [hv],rfl⟩
end
end
section
open Go Tryz
theorem Ane {m:Nat} {S:List Ent} {f b:Bool} {p n:List Q} {c1 c2:Cap} {q:Option Q} : (ansC f p n c1 c2 q b).map (fz1 m S)=ansC f p n c1 c2 q b:=by cases q <;> rfl
theorem Ann {α:Type} {l r:List α} (hl:l.length=r.length) (h:∀ j,j<r.length->nth l j=nth r j):l=r:=by
 refine List.ext_getElem? fun i=>?_
 by_cases hi:i<r.length
 ·have:=h i hi; rwa [Ae,Ae] at this
 ·rw [List.getElem?_eq_none (by omega),List.getElem?_eq_none (by omega)]
def AskP (S:List Ent) (a:Ans) (r:Rs):Prop :=
 ∃ tk' k' c1 c2 q b,r=(.agg (ansC a.f a.pt a.nu c1 c2 q b),S,tk',k')/\(∀ v,a.least=some v->q=some v.1/\b=v.2)/\(a.least=none->q=none/\b=false)
section
variable (S:List Ent) (tk:List Nat) (k:Nat)
set_option maxHeartbeats 4000000 in
set_option maxRecDepth 100000 in
theorem Vn (cs:List (ByteArray × Int)) (nn:Int) (pi pe:Nat) (hpE:entAt S pi pe=some [An cs,.prim (.int .i64 nn)]) (hcc:∀ c ∈ cs,i64 c.2) (hnn:i64 nn) (hcl:cs.length<=24) (l:List RowT) (hl:l.length<=1000) (hn:(B8 l).length<=1000) (vars:List ByteArray) (jl:vars.length<=1000) (hcv:∀ c ∈ cs,c.1 ∈ vars) (hv:∀ r ∈ l,∀ c ∈ r.1,c.1 ∈ vars) (hc:∀ r ∈ l,i64 r.2.1/\∀ c ∈ r.1,i64 c.2) (dd:fewC l) (K:Nat) (a:Ans) (hS:P8 qF K l vars false cs nn=some (a,true)) :
  ∃ r,cL prog 31 [Au l,Am vars,.ref pi pe 0] S tk k=some r/\AskP S a r:=by
 obtain ⟨Φ,hΦ⟩:∃ Φ,Φ=AskP S a:=⟨_,rfl⟩
 rw [<- hΦ]
 have di:=A7 hpE
 obtain ⟨r1,b7,S1,tk1,k1,c1,c2,q1,b1,rfl,hl1,bl,jz,d6⟩:=Alr (S++[(⟨k,ans0⟩:Ent)]++[(⟨k+1,[.prim (.bool false)]⟩:Ent)]) tk (k+1+1) (S.length+1) (k+1) cs nn pi pe (Aa (Aa hpE)) (by omega) hcc hnn hcl l false hl hn vars jl hcv hv hc dd (by simp) (by show entAt _ _ _=_; exact Ai (by simp)) K a true hS
 simp only [ans0,Au,Am] at b7
 have hi1:R9 prog 95=false:=by kernel_rfl
 have u4:R9 prog 100=false:=by kernel_rfl
 have a1b:S1.length=S.length+2:=by rw [hl1]; simp
 have cj:∀ x:Ent,(S++[x]).length=S.length+1:=fun x=>by simp
 have a8:∀ x y:Ent,(S++[x]++[y]).length=S.length+2:=fun x y=>by simp
 have a3g:∀ j,j<S.length->nth S1 j=nth S j:=fun j hj=>by
  rw [bl j (by rw [a8]; omega) (by omega),A6 (by rw [cj]; omega),A6 hj]
 have yq:entAt S1 S.length k=some ans0:=by
  rw [Ab (bl S.length (by rw [a8]; omega) (by omega))]
  exact Aa Bf
 obtain ⟨x1,mj⟩:∃ x1,x1=ansC a.f a.pt a.nu c1 c2 q1 b1:=⟨_,rfl⟩
 rw [<- mj] at b7
 have a1c:x1.length=8:=by rw [mj]; exact Gq
 have a3h:x1.all leafOk=true:=by rw [mj]; exact L7
 have a3i:∀ m S,x1.map (fz1 m S)=x1:=fun m S=>by rw [mj]; exact Ane
 have a3j:takeN 8 x1=some x1:=by
  have:=Mj (r:=[]) a1c
  simpa using this
 have dw:over ans0 0 x1=some x1:=Ku (by rw [a1c]; rfl)
 have pg:∀ cs,entAt (S1++[⟨k1,cs⟩]) S1.length k1=some cs:=fun cs=>Bf
 have j0:∀ e:Ent,entAt (S1++[e]) S.length k=some ans0:=fun e=>Aa yq
 have hP1:∀ (e:Ent) cs,entAt (put (S1++[e]) S.length ⟨k,cs⟩) S.length k=some cs:=fun e cs=>Af (by simp; omega)
 have nj:∀ x e:Ent,List.take S.length (put (S1++[x]) S.length e)=S:=fun x e=>Ann (by rw [List.length_take,Ah]; simp; omega) fun j hj=>by
  rw [Du hj,Ac (by omega),A6 (by omega)]
  exact a3g j hj
 simp only [ans0] at dw j0
 refine opG func31 ntmps31 ?_
 simp (maxSteps:=10^6)+contextual(disch:=try exact dqd)only[evg1,simprocAttr,AV.int,AV.bool,AV.str,results31,Au,Am,ifcA,hi1,u4,cj,b7,pg,j0,hP1,dw,a1c,a3h,a3j,a3i,put_new]
 rw [hΦ,nj,mj]
 exact ⟨_,_,c1,c2,q1,b1,rfl,jz,d6⟩
end
end
section
open Go Tryz
def Kf (l:List RowT) (cs:List (ByteArray × Int)) (nn:Int):List RowT:=l++[(cs,nn,false)]
def leaA (a:Ans):Q × Int :=
 if a.f=true then (match a.least with|some (q,true)=>(q,1)|_=>((0,1),0)) else ((0,1),-1)
theorem Jb (l:List RowT):Da 3 (l.map rowC)=true:=Gx (f:=rowC) (sz:=3) (fun _=>rfl) l
theorem Y1 (l r:List ByteArray):(uniS (l++r)).length<=(uniS l).length+r.length:=by
 induction r generalizing l with
 | nil=>simp
 | cons s r ih =>
  have h:=ih (l++[s])
  rw [Aat] at h
  have h2:=Yr s (uniS l)
  rw [List.append_assoc,List.singleton_append] at h
  simp only [List.length_cons]
  omega
theorem Aey (l l':List RowT):Bm (l++l')=Bm l++Bm l':=by simp [Bm]
theorem Xr {l:List RowT} {cs:List (ByteArray × Int)} {nn:Int} : (∀ r ∈ l,∀ c ∈ r.1,c.1 ∈ B8 (Kf l cs nn))/\∀ c ∈ cs,c.1 ∈ B8 (Kf l cs nn):=by
 refine ⟨fun r hr c hc=>?_,fun c hc=>?_⟩
 ·exact Ms r (List.mem_append.2 (.inl hr)) c hc
 ·exact Ms (cs,nn,false) (List.mem_append.2 (.inr (List.mem_singleton.2 rfl))) c hc
theorem Apo {S:List Ent} {tk:List Nat} {k:Nat} {A:List (List AV)} {c:Cap} : cL prog 28 [.frz A c] S tk k=cL prog 28 [.frz A .unk] S tk k:=Q0 rfl rfl rfl
def SL (cs:List (ByteArray × Int)) (nn:Int):List Ent:=[(⟨0,[An cs,.prim (.int .i64 nn)]⟩:Ent),(⟨1,[.prim (.bool false),.frz [] .nilc,.prim (.bool false),.frz [] .nilc]⟩:Ent)]
def Aee (l:List RowT) (cs:List (ByteArray × Int)) (nn:Int) (a:Ans):Prop:=∃ X:List Nat->Nat->List Nat × Nat × Cap × Cap,∀ tk k,cL prog 31 [Au l,Am (B8 (Kf l cs nn)),.ref 0 0 0] (SL cs nn) tk k=some (.agg (ansC a.f a.pt a.nu (X tk k).2.2.1 (X tk k).2.2.2 (a.least.map (·.1)) ((a.least.map (·.2)).getD false)),SL cs nn,(X tk k).1,(X tk k).2.1)
theorem Amr {l:List RowT} {cs:List (ByteArray × Int)} {nn:Int} {a:Ans} (h:∀ tk k,∃ r,cL prog 31 [Au l,Am (B8 (Kf l cs nn)),.ref 0 0 0] (SL cs nn) tk k=some r/\AskP (SL cs nn) a r):Aee l cs nn a:=by
 have hA:∀ tk k,∃ x:List Nat × Nat × Cap × Cap,cL prog 31 [Au l,Am (B8 (Kf l cs nn)),.ref 0 0 0] (SL cs nn) tk k=some (.agg (ansC a.f a.pt a.nu x.2.2.1 x.2.2.2 (a.least.map (·.1)) ((a.least.map (·.2)).getD false)),SL cs nn,x.1,x.2.1):=fun tk k=>by
  obtain ⟨r,e1,tk',k',c1,c2,q,b,rfl,e2,e3⟩:=h tk k
  refine ⟨(tk',k',c1,c2),?_⟩
  rw [e1]
  cases hl:a.least with
  | none=>obtain ⟨rfl,rfl⟩:=e3 hl; rfl
  | some v=>obtain ⟨rfl,rfl⟩:=e2 v hl; rfl
 exact ⟨fun tk k=>Classical.choose (hA tk k),fun tk k=>Classical.choose_spec (hA tk k)⟩
theorem Acy {l:List RowT} {cs:List (ByteArray × Int)} {nn:Int} (h0:sysE l=0) (h1:B1 cs nn=0):(B8 (Kf l cs nn)).length<=48:=by
 have hcl:=Ju h1
 obtain ⟨f1,f2,f3,-⟩:=Gr h0
 have h1:=Y1 (Bm l) (Bm [(cs,nn,false)])
 rw [<- Aey] at h1
 have h2:(Bm [(cs,nn,false)]).length=cs.length:=by simp [Bm]
 have h3:(B8 (Kf l cs nn)).length=(uniS (Bm (l++[(cs,nn,false)]))).length:=rfl
 have h4:(B8 l).length=(uniS (Bm l)).length:=rfl
 omega
section
variable (S:List Ent) (tk:List Nat) (k:Nat)
set_option maxRecDepth 100000 in
set_option maxHeartbeats 2000000 in
theorem Lm (l:List RowT) (dt:∀ r ∈ l,r.1.length<=1048576) (pu:l.length<=60) (cs:List (ByteArray × Int)) (nn:Int) (a:Ans) (h0:sysE l=0) (h1:B1 cs nn=0) (hA:Aee l cs nn a) :
  cL prog 15 [Au l,linA cs nn] S tk k=some (.tup [.agg (ceW (leaA a).1),.int (leaA a).2],S,tk,k):=by
 have hC:=fun S tk k=>Es S tk k l dt
 have hcl:=Ju h1
 have hL:=fun S tk k=>N7 S tk k cs nn (by omega)
 have hI:=fun S tk k=>Rm S tk k 0 (by unfold i64; omega)
 obtain ⟨f1,f2,f3,-⟩:=Gr h0
 have fw:fewC (Kf l cs nn):=fun r hr=>by
  rcases List.mem_append.1 hr with h|h
  ·exact f1 r h
  ·rw [List.mem_singleton.1 h]; exact hcl
 have hwl:(Kf l cs nn).length=l.length+1:=by simp [Kf]
 have hV:=fun c S tk k=>(Apo (S:=S) (tk:=tk) (k:=k) (c:=c)).trans (B2 S tk k (Kf l cs nn) fw (by omega))
 obtain ⟨X,hX⟩:=hA
 obtain ⟨vv,hvv⟩:∃ vv,vv=B8 (Kf l cs nn):=⟨_,rfl⟩
 rw [<- hvv] at hX hV
 have c1:(sysE l != 0)=false:=by simpa using h0
 have c2:(B1 cs nn != 0)=false:=by simpa using h1
 have up:=fun tk=>apB_all (tk:=tk) (c:=.tight) (es:=[]) (ys:=l.map rowC) (sz:=3) rfl rfl (Jb l) (by simp; omega)
 have jd:=fun tk=>apB_one (tk:=Ey tk .tight) (c:=Bb tk .tight 3) (es:=l.map rowC) (y:=[An cs,.prim (.int .i64 nn),.prim (.bool false)]) (sz:=3) (Bv rfl) (Jb l) rfl (by simp; omega)
 simp only [SL,An,Au,Am] at hX
 simp only [Au] at hC
 simp only [Au,Am,Kf,List.map_append,List.map_cons,List.map_nil,rowC,An] at hV
 simp only [linA,An] at hL
 simp only [qA,ratA,digA] at hI
 simp only [An,List.nil_append] at up jd
 simp only [linA,An]
 unfold leaA
 cases hf:a.f with
 | false =>
  rw [if_neg Bool.false_ne_true]
  simp only [ceW,digA]
  rw [hf] at hX
  cases hl:a.least with
  | none =>
   rw [hl] at hX
   simp only [ansC,lsC,Option.map_none,Option.getD_none,List.cons_append,List.nil_append] at hX
   refine opP func15 ntmps15 (hp3:=rfl) ?_
   simp (maxSteps:=10^6)+contextual(disch:=try exact dqd)only[ev1,simprocAttr,AV.int,AV.bool,AV.str,results15,Au,Am,hC,hL,hI,c1,c2,up,jd,hV,hX]
  | some v =>
   obtain ⟨q,b⟩:=v
   rw [hl] at hX
   simp only [ansC,lsC,Option.map_some,Option.getD_some,ceW,digA,List.cons_append,List.nil_append] at hX
   refine opP func15 ntmps15 (hp3:=rfl) ?_
   simp (maxSteps:=10^6)+contextual(disch:=try exact dqd)only[ev1,simprocAttr,AV.int,AV.bool,AV.str,results15,Au,Am,hC,hL,hI,c1,c2,up,jd,hV,hX]
 | true =>
  rw [if_pos rfl]
  rw [hf] at hX
  cases hl:a.least with
  | none =>
   rw [hl] at hX
   simp only [ansC,lsC,Option.map_none,Option.getD_none,List.cons_append,List.nil_append] at hX
   simp only [ceW,digA]
   refine opP func15 ntmps15 (hp3:=rfl) ?_
   simp (maxSteps:=10^6)+contextual(disch:=try exact dqd)only[ev1,simprocAttr,AV.int,AV.bool,AV.str,results15,Au,Am,hC,hL,hI,c1,c2,up,jd,hV,hX]
  | some v =>
   obtain ⟨q,b⟩:=v
   rw [hl] at hX
   simp only [ansC,lsC,Option.map_some,Option.getD_some,ceW,digA,List.cons_append,List.nil_append] at hX
   cases b with
   | false =>
    simp only [ceW,digA]
    refine opP func15 ntmps15 (hp3:=rfl) ?_
    simp (maxSteps:=10^6)+contextual(disch:=try exact dqd)only[ev1,simprocAttr,AV.int,AV.bool,AV.str,results15,Au,Am,hC,hL,hI,c1,c2,up,jd,hV,hX]
   | true =>
    simp only [ceW,digA]
    refine opP func15 ntmps15 (hp3:=rfl) ?_
    simp (maxSteps:=10^6)+contextual(disch:=try exact dqd)only[ev1,simprocAttr,AV.int,AV.bool,AV.str,results15,Au,Am,hC,hL,hI,c1,c2,up,jd,hV,hX]
end
end
section
open Go
theorem Kr [Globs] {P : Program} [Ext P] {fn : Func} {f : FuncId} {c : Code} (hf : P.funcs[f]? = some fn) (hx : Ext.on P f = false) (hv : Ext.mv P f = false) (hb : fn.body = some c) (aq : (fn.name == "runtime.NumGoroutine") = false) {args : List AV} (hp : (args.map w2).all pure2 = true) {r : AV} (m : Nat) (h : evF P Bn m f args [] [] 0 = some (r, [], [], 0)) (S : List Ent) (tk : List Nat) (n : Nat) : cL P f args S tk n = some (r, S, tk, n) := by
 refine Jq.2 ⟨m,?_⟩
 cases m with
 | zero=>simp [evF] at h
 | succ m =>
  have hn : ¬ fn.name = "runtime.NumGoroutine" := by simpa using aq
  simp only [evF,hf,hb] at h ⊢
  rw [if_neg (by rw [hx]; simp),if_neg hn,if_neg (by rw [hv]; simp),if_pos hp] at h ⊢
  generalize (if Ht c=true then runN (runP P Bn (evF P Bn m) m fn c) (args.map w2) else runP P Bn (evF P Bn m) m fn c (args.map w2))=o at h ⊢
  cases o with
  | none=>simp at h
  | some r'=>simp only [Option.some.injEq,Prod.mk.injEq,and_true] at h ⊢; exact h
end
section
open Go Tryz
def zC (z:Int):List AV:=[.prim (.bool (decide (z<0))),digA (dig z.natAbs)]
section
variable (S:List Ent) (tk:List Nat) (k:Nat)
theorem Air:cL prog 25 [.int 1] S tk k=some (zA 1,S,tk,k):=Kr func25 rfl rfl rfl rfl rfl 40 (by kernel_rfl) S tk k
theorem Aka:cL prog 25 [.int 2] S tk k=some (zA 2,S,tk,k):=Kr func25 rfl rfl rfl rfl rfl 40 (by kernel_rfl) S tk k
theorem Ajy:cL prog 23 [zA 1,zA 1] S tk k=some (.int 0,S,tk,k):=Kr func23 rfl rfl rfl rfl rfl 60 (by kernel_rfl) S tk k
theorem Aii:cL prog 26 [.int (-5)] S tk k=some (.agg (ceW (-5,1)),S,tk,k):=Kr func26 rfl rfl rfl rfl rfl 40 (by kernel_rfl) S tk k
theorem zInts:cL prog 49 [.frz [ceW (1,1),ceW (1,1)] .unk] S tk k=some (.frz [zC 1,zC 1] .unk,S,tk,k):=Kr func49 rfl rfl rfl rfl rfl 60 (by kernel_rfl) S tk k
end
end
end Go.Proofs.YtcjffhadclngmaaGreat
