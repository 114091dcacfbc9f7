/- QV5 QV6 QV7 QV8 QV9 QV10 QV105 QV106 QV11a QV11b QV11 -/
import Derived.Test.YtcjffhadclngmaaGreatZC16
namespace Go.Proofs.YtcjffhadclngmaaGreat
section
open Go Tryz
theorem Aac {F:Fld} (hF:F.Keeps) {b:Q} (hb:F.ok b):∀ {l:List Q},okL F l->okL F (divL F b l).1
 | [],h=>h
 | x :: l,h=>by
  intro q hq
  simp only [divL,List.mem_cons] at hq
  rcases hq with rfl|hq
  ·unfold dvS
   split
   ·exact h _ (by simp)
   ·exact hF.over _ _ (h _ (by simp)) hb
  ·exact Aac hF hb (fun q hq=>h q (by simp [hq])) q hq
theorem Jn {F:Fld} {l m:List Q} {c:Nat} : (lessT F l m c).1.length=l.length:=by
 unfold lessT
 split
 ·split
  ·rfl
  ·exact Mu
 ·rfl
theorem Rw {F:Fld} (hF:F.Keeps) {l m:List Q} {c:Nat} (h:okL F l) (h':okL F m):okL F (lessT F l m c).1:=by
 unfold lessT
 split
 ·rename_i b hb
  split
  ·exact h
  ·exact Vc hF (h b (Al hb)) h h'
 ·exact h
section
variable (S:List Ent) (tk:List Nat) (k iq eq:Nat)
set_option maxHeartbeats 8000000 in
set_option maxRecDepth 100000 in
theorem Ali (I:TI) (t:Tb) (cc:Cap) (i c:Nat) (ag:Ay S iq eq I t cc) (hi:i<t.rows.length) (hc:c<t.cost.length) :
  ∃ r,cL prog 109 [.ref I.it I.et 0,.int i,.int c] S tk k=some r/\Rr S tk iq eq I (Dq qF t i c) cc (.tup []) r:=by
 obtain ⟨Φ,hΦ⟩:∃ Φ,Φ=Rr S tk iq eq I (Dq qF t i c) cc (.tup []):=⟨_,rfl⟩
 rw [<- hΦ]
 obtain ⟨row,cr⟩:=Ag hi
 obtain ⟨pi,lg⟩:=Ag (show i<I.ids.length by rw [ag.nids]; exact hi)
 have j7:=ag.rowW row (Al cr)
 have kn:=ag.okr row (Al cr)
 obtain ⟨b,hb⟩:=Ag (show c<row.length by omega)
 have ob:qF.ok b:=kn b (Al hb)
 have jk:t.rows≠[]:=fun h=>by rw [h] at hi; simp at hi
 have bm:0<t.rows.length:=by omega
 have ai:=ag.top
 rw [Ba bm,Ba bm] at ai
 have lh:=ag.rowsE jk
 have nh:nth (List.drop i (I.ids.map (gt t.cost.length 2))) 0=some (.sref pi.1 pi.2 0 t.cost.length 2):=Dj (by rw [Ae] at lg ⊢; rw [List.getElem?_map,lg]; rfl)
 have yj:=Ar (ce:=ceQ) Ao hb
 have dk:=ag.rowE i pi row lg cr
 refine opG func109 ntmps109 ?_
 simp (maxSteps:=10^6)+contextual(disch:=try exact dqd)only[evg1,simprocAttr,AV.int,AV.bool,AV.str,results109,ai,lh,nh,yj,dk,hi,hc,Nat.mul_one,intA,Ao,Bg,ovQ]
 have hW:=ag.bigW
 have hM:=ag.bigM
 have az:=ag.low
 have di:=az.row pi (Al lg)
 have m6:=ag.ap.row pi (Al lg)
 have qh:=Wr cr
 have eT:({ t with rows:=t.rows,fl:=t.fl } : Tb)=t:=rfl
 refine Ef (P:=prog) (fun x st=>st.T.length=89/\(divL qF b row=(x.2.2.1++(divL qF b x.2.2.2.1).1,Bool.or x.2.2.2.2 (divL qF b x.2.2.2.1).2))/\(x.2.2.1.length+x.2.2.2.1.length=t.cost.length)/\(Ay x.1 iq eq I { t with rows:=put t.rows i (x.2.2.1++x.2.2.2.1),fl:=Bool.or t.fl x.2.2.2.2 } cc)/\(entAt x.1 S.length k=some (ceQ b))/\(x.1.length=S.length+1)/\(∀ j,j<S.length->OutQ I iq j->nth x.1 j=nth S j)/\(okL qF x.2.2.2.1)/\getT st.T 0=.ref I.it I.et 0/\getT st.T 1=.int (i:Nat)/\getT st.T 2=.int (c:Nat)/\getT st.T 6=.sref pi.1 pi.2 0 t.cost.length 2/\getT st.T 7=.ref S.length k 0/\getT st.T 23=.int (t.cost.length:Nat)/\getT st.T 24=.int (x.2.2.1.length:Nat)/\st.S=x.1/\st.tk=tk/\st.n=x.2.1) (fun x=>x.2.2.2.1.length) ((S++[⟨k,ceQ b⟩]),(k+1),([]:List Q),row,false) ?_ ?_
 case refine_2=>exact ⟨rfl,by simp,by simpa using j7,by simp only [List.nil_append,qh,Bool.or_false]; exact ag.app _,Ai rfl,by simp,fun j hj _=>A6 hj,kn,rfl,rfl,rfl,rfl,rfl,rfl,rfl,rfl,rfl,rfl⟩
 rintro ⟨SS,n1,p,u,fp⟩ ⟨T,S',tk',n'⟩ ⟨hl,hR,kw,hT,zk,ee,aw,ou,e0,e1,e2,e6,e7,e23,e24,eS,eT,eN⟩ IH
 simp only at hR kw hT zk ee aw ou e0 e1 e2 e6 e7 e23 e24 eS eT eN
 subst eS eT eN
 obtain ⟨g,hg,hT⟩:=Av hl
 rw [hg] at e0 e1 e2 e6 e7 e23 e24
 subst hT
 clear hg hl
 by_cases cu:p.length<t.cost.length
 ·have c1:decide ((p.length:Int)<(t.cost.length:Int))=true:=by simpa using cu
  obtain ⟨a0,u,rfl⟩:∃ a0 u',u=a0 :: u':=by
   cases u with
   | nil=>simp at kw; omega
   | cons x u=>exact ⟨x,u,rfl⟩
  have oa0:=ou a0 (by simp)
  have td:=Ar (ce:=ceQ) Ao (Ee (p:=p) (u:=u) (x:=a0))
  have wu:nth (put t.rows i (p++a0 :: u)) i=some (p++a0 :: u):=B3 hi
  have he:=hT.rowE i pi _ lg wu
  have bv:=hT.top
  have hs:=Wk S' tk' n' iq eq (Bool.or t.fl fp) a0 oa0 hT.fa
  have uz:u.length<(a0 :: u).length:=by simp
  have hw:IntKind.i64.wrap ((p.length:Int)+1)=(((p++[a0]).length:Nat):Int):=by rw [Ad (by unfold i64; omega)]; simp
  by_cases hz:sgn a0=0
  ·have c2:(sgn a0 != 0)=false:=by simpa using hz
   have aj:dvS qF b a0=(a0,false):=by unfold dvS; rw [if_pos hz]
   simp (maxSteps:=10^6)+contextual(disch:=try exact dqd)only[evg1,simprocAttr,AV.int,AV.bool,AV.str,results109,e0,e1,e2,e6,e7,e23,e24,c1,c2,hw,bv,he,td,cu,hs,D3,xfs,puQ,tkQ]
   exact IH (S',n'+1,p++[a0],u,fp) _ (by first|omega|(simp only; omega)) ⟨rfl,by rw [hR]; simp only [divL,aj,List.append_assoc,List.cons_append,List.nil_append,Bool.false_or],by show (p++[a0]).length+u.length=t.cost.length; simp only [List.length_append,List.length_cons,List.length_nil] at kw ⊢; omega,by simpa using hT,zk,ee,aw,fun q hq=>ou q (by simp [hq]),by and_intros <;> first|rfl|simp only [getT,List.map_append]⟩
  ·have c2:(sgn a0 != 0)=true:=by simpa using hz
   obtain ⟨y,hy⟩:∃ y,y=qF.over a0 b:=⟨_,rfl⟩
   have oy:qF.ok y.1:=by rw [hy]; exact Bz.over _ _ oa0 ob
   have aj:dvS qF b a0=y:=by unfold dvS; rw [if_neg hz,hy]
   have re:IntKind.i64.wrap ((p.length:Int)+1)=(((p++[y.1]).length:Nat):Int):=by rw [Ad (by unfold i64; omega)]; simp
   have db:=Aog S' tk' (n'+1) iq eq (Bool.or t.fl fp) a0 b oa0 ob hT.fa
   have hg1:=D4 (c:=y.2) hT.fa
   rw [<- hy] at db
   obtain ⟨S2,a8⟩:∃ S2,S2=flS S' iq eq y.2:=⟨_,rfl⟩
   rw [<- a8] at db hg1
   have b8:FAq S2 iq eq (Bool.or (Bool.or t.fl fp) y.2):=by rw [a8]; exact hT.fa.fS
   have hl2:S2.length=S'.length:=by rw [a8,Bd]
   have a7:∀ j,j≠iq->nth S2 j=nth S' j:=fun j hj=>by rw [a8,Ax hj]
   have jm:nth S2 S.length=nth S' S.length:=by rw [a8]; exact Ax (by have:=az.iq; omega)
   have he2:entAt S2 pi.1 pi.2=some (flat ceQ (p++a0 :: u)):=by rw [Ab (a7 _ m6.2.2.2.2)]; exact he
   have ho:=A4 (ce:=ceQ) Ao (l:=p++a0 :: u) (k:=p.length) (q':=y.1) (by simp)
   rw [Ge] at ho
   have io:∀ x,List.take S'.length (put S2 pi.1 x)=put S2 pi.1 x:=fun x=>List.take_of_length_le (by simp [Ah,hl2])
   simp (maxSteps:=10^6)+contextual(disch:=try exact dqd)only[evg1,simprocAttr,AV.int,AV.bool,AV.str,results109,e0,e1,e2,e6,e7,e23,e24,c1,c2,re,io,bv,he,td,zk,cu,hs,db,hg1,he2,ho,D3,xfs,puQ,Ao,Bg,tkQ]
   have ig:Bool.or t.fl (Bool.or fp y.2)=Bool.or (Bool.or t.fl fp) y.2:=(Bool.or_assoc _ _ _).symm
   have co:=hT.row (S':=put S2 pi.1 ⟨pi.2,flat ceQ (p++y.1 :: u)⟩) (r':=p++y.1 :: u) (fl':=Bool.or (Bool.or t.fl fp) y.2) lg wu (by simp only [List.length_append,List.length_cons] at kw ⊢; exact kw) (fun q hq=>by
    rcases List.mem_append.1 hq with h|h
    ·exact hT.okr _ (Al wu) q (by simp [h])
    ·rcases List.mem_cons.1 h with rfl|h
     ·exact oy
     ·exact ou q (by simp [h])) (fun j h1 h2=>by rw [Ac (Ne.symm h1),a7 j h2]) (Af (A7 he2)) (b8.put m6.2.2.2.2)
   simp only [Mw] at co
   exact IH (put S2 pi.1 ⟨pi.2,flat ceQ (p++y.1 :: u)⟩,n'+1+Wg b,p++[y.1],u,Bool.or fp y.2) _ (by first|omega|(simp only; omega)) ⟨rfl,by rw [hR]; simp only [divL,aj,List.append_assoc,List.cons_append,List.nil_append,Bool.or_assoc],by show (p++[y.1]).length+u.length=t.cost.length; simp only [List.length_append,List.length_cons,List.length_nil] at kw ⊢; omega,by simp only [List.append_assoc,List.cons_append,List.nil_append,ig]; exact co,by rw [Aj (by first|omega|(dsimp only; omega)),Ab jm]; exact zk,by rw [Ah,hl2]; exact ee,fun j h1 h2=>by rw [Ac (Ne.symm (h2.2.2.2 pi (Al lg))),a7 j h2.1]; exact aw j h1 h2,fun q hq=>ou q (by simp [hq]),by and_intros <;> first|rfl|simp only [getT,List.map_append]⟩
 ·have c1:decide ((p.length:Int)<(t.cost.length:Int))=false:=by simpa using cu
  have yp:u=[]:=List.length_eq_zero_iff.1 (by omega)
  subst yp
  simp only [divL] at hR
  simp only [List.append_nil,List.length_nil,Nat.add_zero,Bool.or_false] at hR kw hT
  have a0z:Dq qF t i c={ t with rows:=(lessRows qF p c i 0 (put t.rows i p)).1,cost:=(lessT qF t.cost p c).1,basis:=put t.basis i c,fl:=Bool.or (Bool.or (Bool.or t.fl fp) (lessRows qF p c i 0 (put t.rows i p)).2) (lessT qF t.cost p c).2 }:=by
   unfold Dq Bx
   rw [Az cr,Az hb,hR]
  have op:okL qF p:=by have:=Aac Bz ob kn; rw [hR] at this; exact this
  have li:=hT.top
  simp only [Ak] at li
  rw [Ba bm,Ba bm] at li
  simp (maxSteps:=10^6)+contextual(disch:=try exact dqd)only[evg1,simprocAttr,AV.int,AV.bool,AV.str,results109,e0,e1,e2,e6,e7,e23,e24,c1,li]
  refine Ef (P:=prog) (fun x st=>st.T.length=89/\(lessRows qF p c i 0 (put t.rows i p)=(x.2.2.1++(lessRows qF p c i x.2.2.1.length x.2.2.2.1).1,Bool.or x.2.2.2.2 (lessRows qF p c i x.2.2.1.length x.2.2.2.1).2))/\(x.2.2.1.length+x.2.2.2.1.length=t.rows.length)/\(Ay x.1 iq eq I { t with rows:=x.2.2.1++x.2.2.2.1,fl:=Bool.or (Bool.or t.fl fp) x.2.2.2.2 } cc)/\(nth (x.2.2.1++x.2.2.2.1) i=some p)/\(x.1.length=S.length+1)/\(∀ j,j<S.length->OutQ I iq j->nth x.1 j=nth S j)/\getT st.T 0=.ref I.it I.et 0/\getT st.T 1=.int (i:Nat)/\getT st.T 2=.int (c:Nat)/\getT st.T 6=.sref pi.1 pi.2 0 t.cost.length 2/\getT st.T 58=.sref I.ir I.er 0 t.rows.length 1/\getT st.T 59=.int (t.rows.length:Nat)/\getT st.T 60=.int (x.2.2.1.length:Nat)/\st.S=x.1/\st.tk=tk'/\st.n=x.2.1) (fun x=>x.2.2.2.1.length) (S',n',([]:List (List Q)),(put t.rows i p),false) ?_ ?_
  case refine_2=>exact ⟨rfl,by simp,by simp [Ak],by simp only [List.nil_append,Bool.or_false]; exact hT,by simp only [List.nil_append]; exact B3 hi,ee,aw,rfl,rfl,rfl,rfl,rfl,rfl,rfl,rfl,rfl,rfl⟩
  rintro ⟨SS,n1,P,U,fq⟩ ⟨T,S',tk',n'⟩ ⟨hl,fk,ez,ar,dj,rg,lj,e0,e1,e2,e6,e58,e59,e60,eS,eT,eN⟩ IH
  simp only at fk ez ar dj rg lj e0 e1 e2 e6 e58 e59 e60 eS eT eN
  subst eS eT eN
  obtain ⟨g,hg,hT⟩:=Av hl
  rw [hg] at e0 e1 e2 e6 e58 e59 e60
  subst hT
  clear hg hl
  by_cases ci:P.length<t.rows.length
  ·have c2:decide ((P.length:Int)<(t.rows.length:Int))=true:=by simpa using ci
   obtain ⟨r0,U,rfl⟩:∃ r0 U',U=r0 :: U':=by
    cases U with
    | nil=>simp at ez; omega
    | cons x u=>exact ⟨x,u,rfl⟩
   have uz:U.length<(r0 :: U).length:=by simp
   obtain ⟨pk,ef⟩:=Ag (show P.length<I.ids.length by rw [ag.nids]; exact ci)
   have cl:nth (List.drop P.length (I.ids.map (gt t.cost.length 2))) 0=some (.sref pk.1 pk.2 0 t.cost.length 2):=Dj (by rw [Ae] at ef ⊢; rw [List.getElem?_map,ef]; rfl)
   have fm:nth (P++r0 :: U) P.length=some r0:=Ee
   have wt:P++r0 :: U≠[]:=by simp
   have wv:=ar.rowsE wt
   have hw2:∀ z:List Q,IntKind.i64.wrap ((P.length:Int)+1)=(((P++[z]).length:Nat):Int):=fun z=>by rw [Ad (by unfold i64; omega)]; simp
   by_cases qi:P.length=i
   ·have c3:((P.length:Int) != (i:Int))=false:=by rw [qi]; simp
    have s8:lessK qF p c i P.length r0=(r0,false):=by unfold lessK; rw [if_pos qi]
    have hw3:=hw2 r0
    simp (maxSteps:=10^6)+contextual(disch:=try exact dqd)only[evg1,simprocAttr,AV.int,AV.bool,AV.str,results109,e0,e1,e2,e6,e58,e59,e60,c2,c3,wv,cl,ci,hw3,Nat.mul_one]
    exact IH (S',n',P++[r0],U,fq) _ (by first|omega|(simp only; omega)) ⟨rfl,by rw [fk]; simp only [lessRows,s8,List.append_assoc,List.cons_append,List.nil_append,Bool.false_or,List.length_append,List.length_cons,List.length_nil,Nat.zero_add],by show (P++[r0]).length+U.length=t.rows.length; simp only [List.length_append,List.length_cons,List.length_nil] at ez ⊢; omega,by simpa using ar,by simpa using dj,rg,lj,by and_intros <;> first|rfl|simp only [getT,List.map_append]⟩
   ·have c3:((P.length:Int) != (i:Int))=true:=by simp; omega
    have c9:=ar.rowE P.length pk r0 ef fm
    have rh:=ar.rowE i pi p lg dj
    have dn:=ar.rowW r0 (Al fm)
    have oe:=ag.ap.row pk (Al ef)
    obtain ⟨r,dm,S3,k3,rfl,dx,nq,df,b6⟩:=Ama S' tk' n' iq eq _ I.it I.et pk.1 pk.2 pi.1 pi.2 t.cost.length c _ r0 p ar.top ar.fa c9 rh dn kw hc hW (ar.okr r0 (Al fm)) op (ag.ap.rows _ _ pk pi ef lg qi) oe.1 oe.2.2.2.2 ag.ap.qt m6.2.2.2.2.symm
    have s8:lessK qF p c i P.length r0=lessT qF r0 p c:=by unfold lessK; rw [if_neg qi]
    obtain ⟨z,hz⟩:∃ z,z=lessT qF r0 p c:=⟨_,rfl⟩
    rw [<- hz] at nq df s8
    have hw3:=hw2 z.1
    have io:List.take S'.length S3=S3:=List.take_of_length_le (by omega)
    simp (maxSteps:=10^6)+contextual(disch:=try exact dqd)only[evg1,simprocAttr,AV.int,AV.bool,AV.str,results109,e0,e1,e2,e6,e58,e59,e60,c2,c3,wv,cl,ci,hw3,dm,io,Nat.mul_one]
    have co:=ar.row (S':=S3) (r':=z.1) (fl':=Bool.or (Bool.or (Bool.or t.fl fp) fq) z.2) ef fm (by rw [hz,Jn]; exact dn) (by rw [hz]; exact Rw Bz (ar.okr r0 (Al fm)) op) b6 nq df
    simp only [Ge] at co
    exact IH (S3,k3,P++[z.1],U,Bool.or fq z.2) _ (by first|omega|(simp only; omega)) ⟨rfl,by rw [fk]; simp only [lessRows,s8,List.append_assoc,List.cons_append,List.nil_append,Bool.or_assoc,List.length_append,List.length_cons,List.length_nil,Nat.zero_add],by show (P++[z.1]).length+U.length=t.rows.length; simp only [List.length_append,List.length_cons,List.length_nil] at ez ⊢; omega,by simpa [Bool.or_assoc] using co,by rw [List.append_assoc,List.singleton_append,<- Ge (x:=r0),U6 (by simp),if_neg (fun h=>qi h.symm)]; exact dj,by rw [dx]; exact rg,fun j h1 h2=>by rw [b6 j (h2.2.2.2 pk (Al ef)) h2.1]; exact lj j h1 h2,by and_intros <;> first|rfl|simp only [getT,List.map_append]⟩
  ·have c2:decide ((P.length:Int)<(t.rows.length:Int))=false:=by simpa using ci
   have ww:U=[]:=List.length_eq_zero_iff.1 (by omega)
   subst ww
   simp only [lessRows] at fk
   simp only [List.append_nil,List.length_nil,Nat.add_zero,Bool.or_false] at fk ez ar dj
   have pw:P≠[]:=fun h=>by rw [h] at ez; simp at ez; omega
   have i6:=ar.top
   simp only [ez] at i6
   rw [Ba bm,Ba bm] at i6
   have rh:=ar.rowE i pi p lg dj
   obtain ⟨r,dm,S3,k3,rfl,dx,nq,df,b6⟩:=Ama S' tk' n' iq eq _ I.it I.et I.ic I.ec pi.1 pi.2 t.cost.length c _ t.cost p ar.top ar.fa ar.costE rh rfl kw hc hW ag.okc op m6.2.2.1.symm ag.ap.tc.symm ag.ap.qc.symm ag.ap.qt m6.2.2.2.2.symm
   have co:=ar.setCost (S':=S3) (k':=(lessT qF t.cost p c).1) Jn (Rw Bz ag.okc op) b6 nq df
   have ll:=co.top
   simp only [ez] at ll
   rw [Ba bm,Ba bm] at ll
   have pf:=co.basisE pw
   obtain ⟨b0,hb0⟩:=Ag (show i<t.basis.length by rw [ag.nb]; exact hi)
   have kt:over (t.basis.map intA) i [.prim (.int .i64 (c:Int))]=some ((put t.basis i c).map intA):=by
    rw [<- R2]
    exact Uk (w:=intA b0) (by rw [Ae] at hb0 ⊢; rw [List.getElem?_map,hb0]; rfl)
   have i7:=co.setBasis (i:=i) (b:=c) pw (by simp only [Jn]; exact hc)
   simp (maxSteps:=10^6)+contextual(disch:=try exact dqd)only[evg1,simprocAttr,AV.int,AV.bool,AV.str,results109,e0,e1,e2,e6,e58,e59,e60,c2,i6,dm,ll,pf,kt,hi,Nat.mul_one]
   rw [hΦ,a0z,fk]
   have wx:LowQ I iq S.length { t with rows:=P,cost:=(lessT qF t.cost p c).1,basis:=put t.basis i c,fl:=Bool.or (Bool.or (Bool.or t.fl fp) fq) (lessT qF t.cost p c).2 }:=az.of fun _=>jk
   exact ⟨_,_,rfl,by rw [List.length_take,Ah,dx]; omega,i7.take wx,fun j hj=>by
    by_cases fu:j<S.length
    ·rw [Du fu,Ac (Ne.symm hj.2.2.1),b6 j hj.2.1 hj.1]; exact lj j fu hj
    ·rw [Ae,Ae,List.getElem?_eq_none (by rw [List.length_take]; omega),List.getElem?_eq_none (by omega)]⟩
end
end
section
open Go Tryz
def My:Option (Nat × Q)->AV
 | none=>.int (-1)
 | some (i,_)=>.int (i:Nat)
theorem K8 {F:Fld} {basis:List Nat} {c W m:Nat} : ∀ {l:List (List Q)} {k:Nat} {b:Option (Nat × Q)} {i:Nat} {q:Q} {f:Bool},k+l.length<=m->(∀ i q,b=some (i,q)->i<m)->Bs F basis c W k l b=(some (i,q),f)->i<m
 | [],k,b,i,q,f,_,hb,h=>by
  simp only [Bs,Prod.mk.injEq] at h
  exact hb i q h.1
 | r :: l,k,b,i,q,f,hl,hb,h=>by
  simp only [List.length_cons] at hl
  unfold Bs at h
  split at h
  ·exact K8 (by omega) hb h
  ·split at h
   ·simp only [Prod.mk.injEq] at h
    exact K8 (k:=k+1) (l:=l) (by omega) (fun i q e=>by simp only [Option.some.injEq,Prod.mk.injEq] at e; omega) (Prod.ext h.1 rfl)
   ·rename_i bi least
    simp only [Prod.mk.injEq] at h
    refine K8 (k:=k+1) (l:=l) (by omega) (fun i' q' e=>?_) (Prod.ext h.1 rfl)
    split at e
    ·simp only [Option.some.injEq,Prod.mk.injEq] at e
     exact hb i' least (by rw [e.1])
    ·simp only [Option.some.injEq,Prod.mk.injEq] at e; omega
theorem Ahu {F:Fld} {t:Tb} {c i:Nat} {q:Q} {f:Bool} (h:Bl F t c=(some (i,q),f)):i<t.rows.length :=
 K8 (k:=0) (by simp) (fun _ _ e=>by cases e) h
section
variable (S:List Ent) (tk:List Nat) (k iq eq:Nat)
set_option maxHeartbeats 8000000 in
set_option maxRecDepth 100000 in
theorem Ajm (I:TI) (t:Tb) (cc:Cap) (c:Nat) (ag:Ay S iq eq I t cc) (hc:c<t.cost.length) :
  ∃ r,cL prog 108 [.ref I.it I.et 0,.int c] S tk k=some r/\Rr S tk iq eq I { t with fl:=Bool.or t.fl (Bl qF t c).2 } cc (My (Bl qF t c).1) r:=by
 obtain ⟨Φ,hΦ⟩:∃ Φ,Φ=Rr S tk iq eq I { t with fl:=Bool.or t.fl (Bl qF t c).2 } cc (My (Bl qF t c).1):=⟨_,rfl⟩
 rw [<- hΦ]
 have ai:=ag.top
 by_cases bo:t.rows=[]
 ·have dt:t.rows.length=0:=by rw [bo]; rfl
  rw [dt] at ai
  simp only [cw] at ai
  have m8:Bl qF t c=(none,false):=by unfold Bl; rw [bo]; rfl
  refine opG func108 ntmps108 ?_
  have d0:decide ((0:Int)<((0:Nat):Int))=false:=rfl
  simp (maxSteps:=10^6)+contextual(disch:=try exact dqd)only[evg1,simprocAttr,AV.int,AV.bool,AV.str,results108,ai]
  refine Ef (P:=prog) (fun x st=>st.T.length=93/\getT st.T 5=.int (-1)/\getT st.T 15=.int ((0:Nat):Int)/\getT st.T 16=.int 0/\st.S=S++[⟨k,[.int 0,.int 0]⟩]/\st.tk=tk/\st.n=x) (fun x=>0) (k+1) ?_ ?_
  case refine_2=>exact ⟨rfl,rfl,rfl,rfl,rfl,rfl,rfl⟩
  rintro n1 ⟨T,S',tk',n'⟩ ⟨hl,e5,e15,e16,eS,eT,eN⟩ IH
  subst eS eT eN
  obtain ⟨g,hg,hT⟩:=Av hl
  rw [hg] at e5 e15 e16
  subst hT
  clear hg hl
  simp (maxSteps:=10^6)+contextual(disch:=try exact dqd)only[evg1,simprocAttr,AV.int,AV.bool,AV.str,results108,e5,e15,e16,d0,Hb]
  rw [hΦ,m8]
  exact ⟨S,_,rfl,rfl,by simp only [Bool.or_false]; exact ag,fun j _=>rfl⟩
 have bm:0<t.rows.length:=List.length_pos_iff.2 bo
 rw [Ba bm,Ba bm] at ai
 have lh:=ag.rowsE bo
 have hW:=ag.bigW
 have hM:=ag.bigM
 have az:=ag.low
 have cn:=ag.real
 refine opG func108 ntmps108 ?_
 simp (maxSteps:=10^6)+contextual(disch:=try exact dqd)only[evg1,simprocAttr,AV.int,AV.bool,AV.str,results108,ai]
 refine Ef (P:=prog) (fun x st=>st.T.length=93/\(Bl qF t c=((Bs qF t.basis c t.cost.length x.2.2.1.length x.2.2.2.1 x.2.2.2.2.1).1,Bool.or x.2.2.2.2.2 (Bs qF t.basis c t.cost.length x.2.2.1.length x.2.2.2.1 x.2.2.2.2.1).2))/\(t.rows=x.2.2.1++x.2.2.2.1)/\(Ay x.1 iq eq I { t with fl:=Bool.or t.fl x.2.2.2.2.2 } cc)/\(∃ lc,entAt x.1 S.length k=some lc/\lc.length=2/\∀ bi q,x.2.2.2.2.1=some (bi,q)->lc=ceQ q/\bi<x.2.2.1.length/\qF.ok q)/\(x.1.length=S.length+1)/\(∀ j,j<S.length->OutQ I iq j->nth x.1 j=nth S j)/\getT st.T 0=.ref I.it I.et 0/\getT st.T 1=.int (c:Nat)/\getT st.T 5=My x.2.2.2.2.1/\getT st.T 6=.ref S.length k 0/\getT st.T 14=.sref I.ir I.er 0 t.rows.length 1/\getT st.T 15=.int (t.rows.length:Nat)/\getT st.T 16=.int (x.2.2.1.length:Nat)/\st.S=x.1/\st.tk=tk/\st.n=x.2.1) (fun x=>x.2.2.2.1.length) ((S++[⟨k,[.int 0,.int 0]⟩]),(k+1),([]:List (List Q)),t.rows,(none:Option (Nat × Q)),false) ?_ ?_
 case refine_2=>exact ⟨rfl,by simp [Bl],rfl,by simp only [Bool.or_false]; exact ag.app _,⟨_,Ai rfl,rfl,fun _ _ h=>by cases h⟩,by simp,fun j hj _=>A6 hj,rfl,rfl,rfl,rfl,rfl,rfl,rfl,rfl,rfl,rfl⟩
 rintro ⟨SS,n1,P,U,bst,fq⟩ ⟨T,S',tk',n'⟩ ⟨hl,hR,ez,hT,j4,ee,aw,e0,e1,e5,e6,e14,e15,e16,eS,eT,eN⟩ IH
 simp only at hR ez hT j4 ee aw e0 e1 e5 e6 e14 e15 e16 eS eT eN
 subst eS eT eN
 obtain ⟨g,hg,hT⟩:=Av hl
 rw [hg] at e0 e1 e5 e6 e14 e15 e16
 subst hT
 clear hg hl
 have uq:t.rows.length=P.length+U.length:=by rw [ez]; simp
 obtain ⟨lc,zl,wy,hlb⟩:=j4
 by_cases ci:P.length<t.rows.length
 ·have c1:decide ((P.length:Int)<(t.rows.length:Int))=true:=by simpa using ci
  obtain ⟨r0,U,rfl⟩:∃ r0 U',U=r0 :: U':=by
   cases U with
   | nil=>simp at uq; omega
   | cons x u=>exact ⟨x,u,rfl⟩
  have uz:U.length<(r0 :: U).length:=by simp
  obtain ⟨pk,ef⟩:=Ag (show P.length<I.ids.length by rw [ag.nids]; exact ci)
  have cl:nth (List.drop P.length (I.ids.map (gt t.cost.length 2))) 0=some (.sref pk.1 pk.2 0 t.cost.length 2):=Dj (by rw [Ae] at ef ⊢; rw [List.getElem?_map,ef]; rfl)
  have fm:nth t.rows P.length=some r0:=by rw [ez]; exact Ee
  have dn:=ag.rowW r0 (Al fm)
  have kn:=ag.okr r0 (Al fm)
  have jn:=hT.rowsE bo
  have c9:=hT.rowE P.length pk r0 ef fm
  have bv:=hT.top
  simp only at bv
  rw [Ba bm,Ba bm] at bv
  obtain ⟨x,hx⟩:=Ag (show c<r0.length by omega)
  obtain ⟨z,hz⟩:=Ag (show t.cost.length - 1<r0.length by omega)
  have ox:=kn x (Al hx)
  have oz:=kn z (Al hz)
  have gv:=Ar (ce:=ceQ) Ao hx
  have oh:=Ar (ce:=ceQ) Ao hz
  have hs:=Wk S' tk' n' iq eq (Bool.or t.fl fq) x ox hT.fa
  have hw2:IntKind.i64.wrap ((P.length:Int)+1)=(((P++[r0]).length:Nat):Int):=by rw [Ad (by unfold i64; omega)]; simp
  have jo:t.rows=(P++[r0])++U:=by rw [ez]; simp
  have lm:(P++[r0]).length=P.length+1:=by simp
  by_cases mr:sgn x<=0
  ·have c2:decide (sgn x<=0)=true:=by simpa using mr
   simp (maxSteps:=10^6)+contextual(disch:=try exact dqd)only[evg1,simprocAttr,AV.int,AV.bool,AV.str,results108,e0,e1,e5,e6,e14,e15,e16,c1,c2,hw2,bv,jn,cl,c9,gv,ci,hc,hs,D3,xfs,puQ,tkQ,Nat.mul_one]
   exact IH (S',n'+1,P++[r0],U,bst,fq) _ (by first|omega|(simp only; omega)) ⟨rfl,by rw [hR,lm]; simp only [Bs,Az hx]; rw [if_pos mr],jo,hT,⟨lc,zl,wy,fun bi q h=>by obtain ⟨h1,h2,h3⟩:=hlb bi q h; exact ⟨h1,by rw [lm]; omega,h3⟩⟩,ee,aw,by and_intros <;> first|rfl|simp only [getT,List.map_append]⟩
  ·have c2:decide (sgn x<=0)=false:=by simpa using mr
   obtain ⟨y,hy⟩:∃ y,y=qF.over z x:=⟨_,rfl⟩
   have oy:qF.ok y.1:=by rw [hy]; exact Bz.over _ _ oz ox
   have db:=Aog S' tk' (n'+1) iq eq (Bool.or t.fl fq) z x oz ox hT.fa
   have hg1:=D4 (c:=y.2) hT.fa
   rw [<- hy] at db
   obtain ⟨S2,a8⟩:∃ S2,S2=flS S' iq eq y.2:=⟨_,rfl⟩
   rw [<- a8] at db hg1
   have b8:FAq S2 iq eq (Bool.or (Bool.or t.fl fq) y.2):=by rw [a8]; exact hT.fa.fS
   have hl2:S2.length=S'.length:=by rw [a8,Bd]
   have a7:∀ j,j≠iq->nth S2 j=nth S' j:=fun j hj=>by rw [a8,Ax hj]
   have jm:nth S2 S.length=nth S' S.length:=by rw [a8]; exact Ax (by have:=az.iq; omega)
   have oi:entAt S2 S.length k=some lc:=by rw [Ab jm]; exact zl
   have i8:IntKind.i64.wrap ((t.cost.length:Int) - 1)=((t.cost.length - 1:Nat):Int):=by rw [Ad (by unfold i64; omega)]; omega
   have oj:t.cost.length - 1<t.cost.length:=by omega
   obtain ⟨n2,ri⟩:∃ n2,n2=n'+1+Wg x:=⟨_,rfl⟩
   rw [<- ri] at db
   obtain ⟨E,hE⟩:∃ E:Ent,E=⟨n2,ceQ y.1⟩:=⟨_,rfl⟩
   have wz:entAt (S2++[⟨n2,ceQ y.1⟩]) S2.length n2=some (ceQ y.1):=Bf
   have lp:=Aa (L:=[⟨n2,ceQ y.1⟩]) oi
   have a00:over lc 0 (ceQ y.1)=some (ceQ y.1):=by
    have:=Ps (e:=lc) (r:=[]) (e':=ceQ y.1) (by rw [wy]; rfl)
    simpa using this
   have hSl:S.length<S2.length:=by omega
   have w7:∀ v,List.take S'.length (put S2 S.length v++[⟨n2,ceQ y.1⟩])=put S2 S.length v:=fun v=>by rw [<- hl2,<- Ah (l:=S2) (i:=S.length) (v:=v)]; simp
   have a01:=fun v=>Dd (L:=[⟨n2,ceQ y.1⟩]) (x:=v) hSl
   cases bst with
   | none =>
    have c3:decide ((-1:Int) >= 0)=false:=rfl
    simp only [My] at e5
    simp (maxSteps:=10^6)+contextual(disch:=try exact dqd)only[evg1,simprocAttr,AV.int,AV.bool,AV.str,results108,e0,e1,e5,e6,e14,e15,e16,c1,c2,c3,hw2,bv,jn,cl,c9,gv,oh,i8,oj,ci,hc,hs,db,hg1,wz,lp,a00,a01,w7,D3,xfs,puQ,tkQ,Ao,Bg,ovQ,Nat.mul_one]
    have co:=hT.frame (S':=put S2 S.length ⟨k,ceQ y.1⟩) (n:=S.length) (fl':=Bool.or (Bool.or t.fl fq) y.2) (az.of fun h=>h) (fun j h1 h2=>by rw [Ac (by omega),a7 j h2]) (b8.put (fun h=>by have:=az.iq; omega))
    exact IH (put S2 S.length ⟨k,ceQ y.1⟩,n2+1,P++[r0],U,some (P.length,y.1),Bool.or fq y.2) _ (by first|omega|(simp only; omega)) ⟨rfl,by rw [hR,lm]; simp only [Bs,Az hx,Az hz]; rw [if_neg mr,<- hy,<- Bool.or_assoc],jo,by simpa only [Bool.or_assoc] using co,⟨_,Af hSl,Ao _,fun bi q h=>by simp only [Option.some.injEq,Prod.mk.injEq] at h; obtain ⟨rfl,rfl⟩:=h; exact ⟨rfl,by rw [lm]; omega,oy⟩⟩,by rw [Ah,hl2]; exact ee,fun j h1 h2=>by rw [Ac (by first|omega|(dsimp only; omega)),a7 j h2.1]; exact aw j h1 h2,by and_intros <;> first|rfl|simp only [getT,List.map_append]⟩
   | some bq =>
    obtain ⟨bi,least⟩:=bq
    obtain ⟨a02,hbi,ol⟩:=hlb bi least rfl
    subst a02
    have c3:decide ((bi:Int) >= 0)=true:=by simp
    simp only [My] at e5
    obtain ⟨d,hd⟩:∃ d,d=qF.minus y.1 least:=⟨_,rfl⟩
    have fi:=J4 (S2++[⟨n2,ceQ y.1⟩]) tk' (n2+1) iq eq (Bool.or (Bool.or t.fl fq) y.2) y.1 least oy ol (b8.app (L:=[⟨n2,ceQ y.1⟩]))
    have hg2:=D4 (c:=d.2) (b:=Bool.or (Bool.or t.fl fq) y.2) (b8.app (L:=[⟨n2,ceQ y.1⟩]))
    rw [<- hd] at fi
    rw [Gp b8] at fi hg2
    obtain ⟨S3,da⟩:∃ S3,S3=flS S2 iq eq d.2:=⟨_,rfl⟩
    rw [<- da] at fi hg2
    have od:qF.ok d.1:=by rw [hd]; exact Bz.minus _ _ oy ol
    have df:FAq S3 iq eq (Bool.or (Bool.or (Bool.or t.fl fq) y.2) d.2):=by rw [da]; exact b8.fS
    have nv:=Wk (S3++[⟨n2,ceQ y.1⟩]) tk' (n2+1+4) iq eq (Bool.or (Bool.or (Bool.or t.fl fq) y.2) d.2) d.1 od (df.app (L:=[⟨n2,ceQ y.1⟩]))
    have dx:S3.length=S2.length:=by rw [da,Bd]
    have b6:∀ j,j≠iq->nth S3 j=nth S2 j:=fun j hj=>by rw [da,Ax hj]
    have lq:nth S3 S.length=nth S2 S.length:=by rw [da]; exact Ax (by have:=az.iq; omega)
    have ls:entAt (S2++[⟨n2,ceQ y.1⟩]) I.it I.et=some [.ifc 95 (.ref iq eq 0),intA t.vars,intA t.real,.sref I.ir I.er 0 t.rows.length 1,.sref I.ic I.ec 0 t.cost.length 2,.sref I.ib I.eb 0 t.rows.length 1,.frz (t.flip.map D5) cc]:=Aa (by rw [Ab (a7 _ ag.ap.qt.symm)]; exact bv)
    have nk:entAt (S3++[⟨n2,ceQ y.1⟩]) I.it I.et=some [.ifc 95 (.ref iq eq 0),intA t.vars,intA t.real,.sref I.ir I.er 0 t.rows.length 1,.sref I.ic I.ec 0 t.cost.length 2,.sref I.ib I.eb 0 t.rows.length 1,.frz (t.flip.map D5) cc]:=Aa (by rw [Ab (b6 _ ag.ap.qt.symm),Ab (a7 _ ag.ap.qt.symm)]; exact bv)
    have ws:entAt (S3++[⟨n2,ceQ y.1⟩]) I.ib I.eb=some (t.basis.map intA):=Aa (by rw [Ab (b6 _ ag.ap.qb.symm),Ab (a7 _ ag.ap.qb.symm)]; exact hT.basisE bo)
    obtain ⟨bk,jp⟩:=Ag (show P.length<t.basis.length by rw [ag.nb]; exact ci)
    obtain ⟨bb,hbb⟩:=Ag (show bi<t.basis.length by rw [ag.nb]; omega)
    have fo:nth (List.drop P.length (t.basis.map intA)) 0=some (.prim (.int .i64 (bk:Int))):=Dj (by rw [Ae] at jp ⊢; rw [List.getElem?_map,jp]; rfl)
    have rj:nth (List.drop bi (t.basis.map intA)) 0=some (.prim (.int .i64 (bb:Int))):=Dj (by rw [Ae] at hbb ⊢; rw [List.getElem?_map,hbb]; rfl)
    have om:bi<t.rows.length:=by omega
    have xa:entAt (S3++[⟨n2,ceQ y.1⟩]) S2.length n2=some (ceQ y.1):=Ai dx
    have xb:entAt (S3++[⟨n2,ceQ y.1⟩]) S.length k=some (ceQ least):=Aa (by rw [Ab lq]; exact oi)
    have xc:List.take S'.length (S3++[⟨n2,ceQ y.1⟩])=S3:=by rw [<- hl2,<- dx]; simp
    have xd:∀ v,List.take S'.length (put S3 S.length v++[⟨n2,ceQ y.1⟩])=put S3 S.length v:=fun v=>by rw [<- hl2,<- dx,<- Ah (l:=S3) (i:=S.length) (v:=v)]; simp
    have xe:=fun v=>Dd (L:=[⟨n2,ceQ y.1⟩]) (x:=v) (show S.length<S3.length by omega)
    have hw:worse t.basis (sgn d.1) P.length bi=(decide (0<sgn d.1) || (sgn d.1 == 0 && decide (bb<bk))):=by unfold worse; rw [Az jp,Az hbb]
    have rk:Bool.or fq (Bool.or (Bool.or y.2 d.2) (Bs qF t.basis c t.cost.length (P++[r0]).length U (if worse t.basis (sgn d.1) P.length bi=true then some (bi,least) else some (P.length,y.1))).2)=Bool.or (Bool.or fq (Bool.or y.2 d.2)) (Bs qF t.basis c t.cost.length (P++[r0]).length U (if worse t.basis (sgn d.1) P.length bi=true then some (bi,least) else some (P.length,y.1))).2:=(Bool.or_assoc _ _ _).symm
    have ii:Bl qF t c=((Bs qF t.basis c t.cost.length (P++[r0]).length U (if worse t.basis (sgn d.1) P.length bi=true then some (bi,least) else some (P.length,y.1))).1,Bool.or (Bool.or fq (Bool.or y.2 d.2)) (Bs qF t.basis c t.cost.length (P++[r0]).length U (if worse t.basis (sgn d.1) P.length bi=true then some (bi,least) else some (P.length,y.1))).2):=by
     rw [hR,<- rk,lm]; simp only [Bs,Az hx,Az hz]; rw [if_neg mr,<- hy,<- hd]
    have u0:Ay S3 iq eq I { t with fl:=Bool.or t.fl (Bool.or fq (Bool.or y.2 d.2)) } cc:=by
     have:=hT.frame (S':=S3) (n:=S.length) (fl':=Bool.or (Bool.or (Bool.or t.fl fq) y.2) d.2) (az.of fun h=>h) (fun j h1 h2=>by rw [b6 j h2,a7 j h2]) df
     simpa only [Bool.or_assoc] using this
    have hTn:Ay (put S3 S.length ⟨k,ceQ y.1⟩) iq eq I { t with fl:=Bool.or t.fl (Bool.or fq (Bool.or y.2 d.2)) } cc:=u0.frame (n:=S.length) (az.of fun h=>h) (fun j h1 h2=>by rw [Ac (by omega)]) (u0.fa.put (fun h=>by have:=az.iq; omega))
    by_cases h1:0<sgn d.1
    ·have k1:decide (sgn d.1 > 0)=true:=by simpa using h1
     have ik:worse t.basis (sgn d.1) P.length bi=true:=by rw [hw]; simp [h1]
     rw [if_pos ik] at ii
     simp (maxSteps:=10^6)+contextual(disch:=try exact dqd)only[evg1,simprocAttr,AV.int,AV.bool,AV.str,results108,e0,e1,e5,e6,e14,e15,e16,c1,c2,c3,k1,hw2,bv,ls,nk,ws,jn,cl,c9,gv,oh,i8,oj,ci,om,hc,hs,nv,db,fi,hg1,hg2,wz,lp,fo,rj,xc,D3,xfs,puQ,tkQ,Ao,Bg,ovQ,Nat.mul_one]
     exact IH (S3,n2+1+4+1,P++[r0],U,some (bi,least),Bool.or fq (Bool.or y.2 d.2)) _ (by first|omega|(simp only; omega)) ⟨rfl,ii,jo,u0,⟨_,by rw [Ab lq]; exact oi,Ao _,fun bi' q h=>by simp only [Option.some.injEq,Prod.mk.injEq] at h; obtain ⟨rfl,rfl⟩:=h; exact ⟨rfl,by rw [lm]; omega,ol⟩⟩,by first|omega|(dsimp only; omega),fun j h1 h2=>by rw [b6 j h2.1,a7 j h2.1]; exact aw j h1 h2,by and_intros <;> first|rfl|simp only [getT,List.map_append]⟩
    have k1:decide (sgn d.1 > 0)=false:=by simpa using h1
    by_cases h2:sgn d.1=0
    ·have k2:(sgn d.1 == 0)=true:=by simpa using h2
     by_cases h3:bb<bk
     ·have k3:decide ((bk:Int) > (bb:Int))=true:=by simpa using h3
      have ik:worse t.basis (sgn d.1) P.length bi=true:=by rw [hw]; simp [h2,h3]
      rw [if_pos ik] at ii
      simp (maxSteps:=10^6)+contextual(disch:=try exact dqd)only[evg1,simprocAttr,AV.int,AV.bool,AV.str,results108,e0,e1,e5,e6,e14,e15,e16,c1,c2,c3,k1,k2,k3,hw2,bv,ls,nk,ws,jn,cl,c9,gv,oh,i8,oj,ci,om,hc,hs,nv,db,fi,hg1,hg2,wz,lp,fo,rj,xc,D3,xfs,puQ,tkQ,Ao,Bg,ovQ,Nat.mul_one]
      exact IH (S3,n2+1+4+1,P++[r0],U,some (bi,least),Bool.or fq (Bool.or y.2 d.2)) _ (by first|omega|(simp only; omega)) ⟨rfl,ii,jo,u0,⟨_,by rw [Ab lq]; exact oi,Ao _,fun bi' q h=>by simp only [Option.some.injEq,Prod.mk.injEq] at h; obtain ⟨rfl,rfl⟩:=h; exact ⟨rfl,by rw [lm]; omega,ol⟩⟩,by first|omega|(dsimp only; omega),fun j h1 h2=>by rw [b6 j h2.1,a7 j h2.1]; exact aw j h1 h2,by and_intros <;> first|rfl|simp only [getT,List.map_append]⟩
     ·have k3:decide ((bk:Int) > (bb:Int))=false:=by simp; omega
      have ik:worse t.basis (sgn d.1) P.length bi=false:=by rw [hw]; simp [h2,h3]
      rw [ik,if_neg Bool.false_ne_true] at ii
      simp (maxSteps:=10^6)+contextual(disch:=try exact dqd)only[evg1,simprocAttr,AV.int,AV.bool,AV.str,results108,e0,e1,e5,e6,e14,e15,e16,c1,c2,c3,k1,k2,k3,hw2,bv,ls,nk,ws,jn,cl,c9,gv,oh,i8,oj,ci,om,hc,hs,nv,db,fi,hg1,hg2,wz,lp,xa,xb,fo,rj,xd,xe,ovQ2,D3,xfs,puQ,tkQ,Ao,Bg,ovQ,Nat.mul_one]
      exact IH (put S3 S.length ⟨k,ceQ y.1⟩,n2+1+4+1,P++[r0],U,some (P.length,y.1),Bool.or fq (Bool.or y.2 d.2)) _ (by first|omega|(simp only; omega)) ⟨rfl,ii,jo,hTn,⟨_,Af (by first|omega|(dsimp only; omega)),Ao _,fun bi' q h=>by simp only [Option.some.injEq,Prod.mk.injEq] at h; obtain ⟨rfl,rfl⟩:=h; exact ⟨rfl,by rw [lm]; omega,oy⟩⟩,by rw [Ah]; omega,fun j h1 h2=>by rw [Ac (by first|omega|(dsimp only; omega)),b6 j h2.1,a7 j h2.1]; exact aw j h1 h2,by and_intros <;> first|rfl|simp only [getT,List.map_append]⟩
    ·have k2:(sgn d.1 == 0)=false:=by simpa using h2
     have ik:worse t.basis (sgn d.1) P.length bi=false:=by rw [hw]; simp [h1,h2]
     rw [ik,if_neg Bool.false_ne_true] at ii
     simp (maxSteps:=10^6)+contextual(disch:=try exact dqd)only[evg1,simprocAttr,AV.int,AV.bool,AV.str,results108,e0,e1,e5,e6,e14,e15,e16,c1,c2,c3,k1,k2,hw2,bv,ls,nk,ws,jn,cl,c9,gv,oh,i8,oj,ci,om,hc,hs,nv,db,fi,hg1,hg2,wz,lp,xa,xb,xd,xe,ovQ2,D3,xfs,puQ,tkQ,Ao,Bg,ovQ,Nat.mul_one]
     exact IH (put S3 S.length ⟨k,ceQ y.1⟩,n2+1+4+1,P++[r0],U,some (P.length,y.1),Bool.or fq (Bool.or y.2 d.2)) _ (by first|omega|(simp only; omega)) ⟨rfl,ii,jo,hTn,⟨_,Af (by first|omega|(dsimp only; omega)),Ao _,fun bi' q h=>by simp only [Option.some.injEq,Prod.mk.injEq] at h; obtain ⟨rfl,rfl⟩:=h; exact ⟨rfl,by rw [lm]; omega,oy⟩⟩,by rw [Ah]; omega,fun j h1 h2=>by rw [Ac (by first|omega|(dsimp only; omega)),b6 j h2.1,a7 j h2.1]; exact aw j h1 h2,by and_intros <;> first|rfl|simp only [getT,List.map_append]⟩
 ·have c1:decide ((P.length:Int)<(t.rows.length:Int))=false:=by simpa using ci
  have ww:U=[]:=List.length_eq_zero_iff.1 (by omega)
  subst ww
  simp (maxSteps:=10^6)+contextual(disch:=try exact dqd)only[evg1,simprocAttr,AV.int,AV.bool,AV.str,results108,e0,e1,e5,e6,e14,e15,e16,c1]
  simp only [Bs,Bool.or_false] at hR
  have hfz:fz3 S.length S' (My bst)=My bst:=by cases bst <;> rfl
  rw [hΦ,hR,hfz]
  exact ⟨_,_,rfl,by rw [List.length_take]; omega,hT.take (az.of fun h=>h),fun j hj=>by
   by_cases fu:j<S.length
   ·rw [Du fu]; exact aw j fu hj
   ·rw [Ae,Ae,List.getElem?_eq_none (by rw [List.length_take]; omega),List.getElem?_eq_none (by omega)]⟩
end
end
section
open Go Tryz
section
variable (S:List Ent) (tk:List Nat) (k iq eq:Nat)
set_option maxHeartbeats 8000000 in
set_option maxRecDepth 100000 in
theorem Vr (I:TI) (t t':Tb) (cc:Cap) (K:Nat) (b:Bool) (ag:Ay S iq eq I t cc) (hK:Gu qF K t=some (b,t')) :
  ∃ r,cL prog 82 [.ref I.it I.et 0] S tk k=some r/\Rr S tk iq eq I t' cc (.bool b) r:=by
 obtain ⟨Φ,hΦ⟩:∃ Φ,Φ=Rr S tk iq eq I t' cc (.bool b):=⟨_,rfl⟩
 rw [<- hΦ]
 refine opG func82 ntmps82 ?_
 simp (maxSteps:=10^6)+contextual(disch:=try exact dqd)only[evg1,simprocAttr,AV.int,AV.bool,AV.str,results82]
 refine Ef (P:=prog) (fun x st=>st.T.length=46/\(Gu qF x.2.2.1 x.2.2.2=some (b,t'))/\(Ay x.1 iq eq I x.2.2.2 cc)/\(x.1.length=S.length)/\(∀ j,OutQ I iq j->nth x.1 j=nth S j)/\getT st.T 0=.ref I.it I.et 0/\st.S=x.1/\st.tk=tk/\st.n=x.2.1) (fun x=>x.2.2.1) (S,k,K,t) ?_ ?_
 case refine_2=>exact ⟨rfl,hK,ag,rfl,fun j _=>rfl,rfl,rfl,rfl,rfl⟩
 rintro ⟨SS,n1,K1,t1⟩ ⟨T,S',tk',n'⟩ ⟨hl,d8,hT,ee,aw,e0,eS,eT,eN⟩ IH
 simp only at d8 hT ee aw e0 eS eT eN
 subst eS eT eN
 obtain ⟨g,hg,hT⟩:=Av hl
 rw [hg] at e0
 subst hT
 clear hg hl
 have IHA:=IH
 clear IH
 cases K1 with
 | zero=>simp [Gu] at d8
 | succ K1 =>
 have ai:=hT.top
 have cn:=hT.real
 have hW:=hT.bigW
 have f8:=Q4 S' tk' n' iq eq t1.fl hT.fa
 have ig:List.take S.length S'=S':=List.take_of_length_le (by omega)
 unfold Gu at d8
 cases aj:(qF.stop && t1.fl) with
 | true =>
  rw [aj] at d8 f8
  rw [if_pos rfl] at d8
  simp only [Option.some.injEq,Prod.mk.injEq] at d8
  obtain ⟨rfl,rfl⟩:=d8
  simp (maxSteps:=10^6)+contextual(disch:=try exact dqd)only[evg1,simprocAttr,AV.int,AV.bool,AV.str,results82,e0,ai,f8,D3,xfs,puQ]
  rw [hΦ,ig]
  exact ⟨S',n',rfl,ee,hT,aw⟩
 | false =>
 rw [aj] at d8 f8
 rw [if_neg Bool.false_ne_true] at d8
 simp only [intA] at ai
 simp (maxSteps:=10^6)+contextual(disch:=try exact dqd)only[evg1,simprocAttr,AV.int,AV.bool,AV.str,results82,e0,ai,f8,D3,xfs,puQ]
 refine Ef (P:=prog) (fun x st=>st.T.length=46/\(x.2<=t1.real)/\(colF t1.cost t1.real 0=colF t1.cost (t1.real - x.2) x.2)/\getT st.T 0=.ref I.it I.et 0/\getT st.T 3=.int (-1)/\getT st.T 14=.int (t1.real:Nat)/\getT st.T 15=.int (x.2:Nat)/\st.S=S'/\st.tk=tk'/\st.n=x.1) (fun x=>t1.real - x.2) (n',0) ?_ ?_
 case refine_2=>exact ⟨rfl,Nat.zero_le _,rfl,rfl,rfl,rfl,rfl,rfl,rfl,rfl⟩
 rintro ⟨n2,j⟩ ⟨T,S',tk',n'⟩ ⟨hl,hj,hc,e0,e3,e14,e15,eS,eT,eN⟩ IH
 simp only at hj hc e0 e3 e14 e15 eS eT eN
 subst eS eT eN
 obtain ⟨g,hg,hT⟩:=Av hl
 rw [hg] at e0 e3 e14 e15
 subst hT
 clear hg hl
 by_cases rn:j<t1.real
 ·have c1:decide ((j:Int)<(t1.real:Int))=true:=by simpa using rn
  have hw:IntKind.i64.wrap ((j:Int)+1)=((j+1:Nat):Int):=by rw [Ad (by unfold i64; omega)]; rfl
  have oq:j<t1.cost.length:=by omega
  obtain ⟨x,hx⟩:=Ag oq
  have ox:=hT.okc x (Al hx)
  have gv:=Ar (ce:=ceQ) Ao hx
  have hs:=Wk S' tk' n' iq eq t1.fl x ox hT.fa
  have jg:=hT.costE
  have tw:colF t1.cost (t1.real - j) j=if sgn x<0 then some j else colF t1.cost (t1.real - (j+1)) (j+1):=by
   rw [show t1.real - j=(t1.real - (j+1))+1 by omega]
   simp only [colF,Az hx]
  by_cases hneg:sgn x<0
  ·have c2:decide (sgn x<0)=true:=by simpa using hneg
   have c3:decide ((j:Int)<0)=false:=by simp
   rw [hc,tw,if_pos hneg] at d8
   simp only at d8
   obtain ⟨r,m8,S2,k2,rfl,hl2,ar,b8⟩:=Ajm S' tk' (n'+1) iq eq I t1 cc j hT oq
   obtain ⟨lv,xf⟩:∃ lv,lv=Bl qF t1 j:=⟨_,rfl⟩
   rw [<- xf] at d8 m8 ar
   obtain ⟨lb,lf⟩:=lv
   cases lb with
   | none =>
    simp only [Option.some.injEq,Prod.mk.injEq] at d8
    obtain ⟨rfl,rfl⟩:=d8
    have c4:decide ((-1:Int)<0)=true:=rfl
    simp only [My] at m8
    have xg:List.take S.length S2=S2:=List.take_of_length_le (by omega)
    simp (maxSteps:=10^6)+contextual(disch:=try exact dqd)only[evg1,simprocAttr,AV.int,AV.bool,AV.str,results82,e0,e3,e14,e15,c1,c2,c3,c4,ai,jg,gv,oq,hs,m8,D3,xfs,puQ,tkQ]
    rw [hΦ,xg]
    exact ⟨S2,k2,rfl,by omega,ar,fun j hj=>by rw [b8 j hj]; exact aw j hj⟩
   | some bq =>
    obtain ⟨i,q⟩:=bq
    simp only at d8
    have yo:i<t1.rows.length:=Ahu (F:=qF) (t:=t1) (c:=j) (q:=q) (f:=lf) xf.symm
    obtain ⟨r,kq,S3,k3,rfl,dx,co,df⟩:=Ali S2 tk' k2 iq eq I _ cc i j ar yo oq
    have c4:decide ((i:Int)<0)=false:=by simp
    simp only [My] at m8
    have xh:List.take S'.length S3=S3:=List.take_of_length_le (by omega)
    simp (maxSteps:=10^6)+contextual(disch:=try exact dqd)only[evg1,simprocAttr,AV.int,AV.bool,AV.str,results82,e0,e3,e14,e15,c1,c2,c3,c4,ai,jg,gv,oq,hs,m8,kq,xh,D3,xfs,puQ,tkQ]
    exact IHA (S3,k3,K1,Dq qF { t1 with fl:=Bool.or t1.fl lf } i j) _ (by first|omega|(simp only; omega)) ⟨rfl,d8,co,by first|omega|(dsimp only; omega),fun j hj=>by rw [df j hj,b8 j hj]; exact aw j hj,by and_intros <;> first|rfl|simp only [getT,List.map_append]⟩
  ·have c2:decide (sgn x<0)=false:=by simpa using hneg
   rw [tw,if_neg hneg] at hc
   simp (maxSteps:=10^6)+contextual(disch:=try exact dqd)only[evg1,simprocAttr,AV.int,AV.bool,AV.str,results82,e0,e3,e14,e15,c1,c2,hw,ai,jg,gv,oq,hs,D3,xfs,puQ,tkQ]
   exact IH (n'+1,j+1) _ (by first|omega|(simp only; omega)) ⟨rfl,by first|omega|(dsimp only; omega),hc,by and_intros <;> first|rfl|simp only [getT,List.map_append]⟩
 ·have c1:decide ((j:Int)<(t1.real:Int))=false:=by simpa using rn
  have c3:decide ((-1:Int)<0)=true:=rfl
  have q9:t1.real - j=0:=by omega
  rw [hc,q9] at d8
  simp only [colF,Option.some.injEq,Prod.mk.injEq] at d8
  obtain ⟨rfl,rfl⟩:=d8
  simp (maxSteps:=10^6)+contextual(disch:=try exact dqd)only[evg1,simprocAttr,AV.int,AV.bool,AV.str,results82,e0,e3,e14,e15,c1,c3,ai]
  rw [hΦ,ig]
  exact ⟨S',n',rfl,ee,hT,aw⟩
end
end
section
open Go Tryz
theorem Xu {basis:List Nat} {k:Nat} : ∀ {l:List (List Q)} {i j:Nat},Ka basis k i l=some j->i<=j/\j<i+l.length/\at_ 0 basis j=k
 | [],_,_,h=>by simp [Ka] at h
 | r :: l,i,j,h=>by
  unfold Ka at h
  split at h
  ·simp only [Option.some.injEq] at h; subst h; rename_i h; exact ⟨Nat.le_refl _,by simp,h⟩
  ·have:=Xu h; simp only [List.length_cons]; omega
def Anz (S:List Ent) (tk:List Nat) (iq eq:Nat) (y:Q × Bool) (r:Rs):Prop:=∃ k',r=(.agg (ceQ y.1),flS S iq eq y.2,tk,k')
section
variable (S:List Ent) (tk:List Nat) (k iq eq:Nat)
set_option maxRecDepth 100000 in
theorem X9 (I:TI) (t:Tb) (cc:Cap) (hT:Ay S iq eq I t cc) :
  ∃ r,cL prog 83 [.ref I.it I.et 0] S tk k=some r/\Rr S tk iq eq I t cc (.bool (H5 t)) r:=by
 obtain ⟨Φ,hΦ⟩:∃ Φ,Φ=Rr S tk iq eq I t cc (.bool (H5 t)):=⟨_,rfl⟩
 rw [<- hΦ]
 have ai:=hT.top
 have hW:=hT.bigW
 have cn:=hT.real
 have jg:=hT.costE
 obtain ⟨z,hz⟩:=Ag (show t.cost.length - 1<t.cost.length by omega)
 have oz:=hT.okc z (Al hz)
 have oh:=Ar (ce:=ceQ) Ao hz
 have hs:=Wk S tk k iq eq t.fl z oz hT.fa
 have i8:IntKind.i64.wrap ((t.cost.length:Int) - 1)=((t.cost.length - 1:Nat):Int):=by rw [Ad (by unfold i64; omega)]; omega
 have oj:t.cost.length - 1<t.cost.length:=by omega
 refine opG func83 ntmps83 ?_
 simp (maxSteps:=10^6)+contextual(disch:=try exact dqd)only[evg1,simprocAttr,AV.int,AV.bool,AV.str,results83,ai,jg,oh,i8,oj,hs,D3,xfs,puQ,tkQ]
 rw [hΦ]
 exact ⟨S,_,by simp only [H5,Az hz]; rfl,rfl,hT,fun j _=>rfl⟩
set_option maxHeartbeats 4000000 in
set_option maxRecDepth 100000 in
theorem Af6 (I:TI) (t:Tb) (cc:Cap) (c:Nat) (hT:Ay S iq eq I t cc) :
  ∃ r,cL prog 110 [.ref I.it I.et 0,.int c] S tk k=some r/\Anz S tk iq eq (Db qF t c) r:=by
 obtain ⟨Φ,hΦ⟩:∃ Φ,Φ=Anz S tk iq eq (Db qF t c):=⟨_,rfl⟩
 rw [<- hΦ]
 have ai:=hT.top
 have hM:=hT.bigM
 have hW:=hT.bigW
 have cn:=hT.real
 have az:=hT.low
 obtain ⟨y,hy⟩:∃ y,y=qF.whole 0:=⟨_,rfl⟩
 obtain ⟨h,hh⟩:∃ h,h=cw I.ib I.eb 1 t.rows.length:=⟨_,rfl⟩
 have hlen:lenV false true h=some (.int (t.rows.length:Nat)):=by
  rw [hh]
  cases t.rows.length with
  | zero=>rfl
  | succ n=>rfl
 rw [<- hh] at ai
 have b9:=hT.fa.app (L:=[⟨k,[.int 0,.int 0]⟩])
 have dw:=Hz (S++[⟨k,[.int 0,.int 0]⟩]) tk (k+1) iq eq t.fl 0 (by unfold i64; omega) b9
 rw [<- hy,Gp hT.fa] at dw
 have hl1:(flS S iq eq y.2).length=S.length:=Bd
 have hE:=Ai (k:=k) (cs:=[.int 0,.int 0]) hl1
 have ro:=Ai (k:=k) (cs:=ceQ y.1) hl1
 have hP:=fun e e'=>De (e:=e) (e':=e') hl1
 have u0:=fun L=>Je (L:=L) hl1
 have htA:=Aa (L:=[⟨k,[.int 0,.int 0]⟩]) ai
 refine opG func110 ntmps110 ?_
 simp (maxSteps:=10^6)+contextual(disch:=try exact dqd)only[evg1,simprocAttr,AV.int,AV.bool,AV.str,results110,ai,htA,hlen]
 refine Ef (P:=prog) (fun x st=>st.T.length=44/\(t.rows=x.1++x.2)/\(Ka t.basis c 0 t.rows=Ka t.basis c x.1.length x.2)/\getT st.T 0=.ref I.it I.et 0/\getT st.T 1=.int (c:Nat)/\getT st.T 4=.ref S.length k 0/\getT st.T 10=h/\getT st.T 11=.int (t.rows.length:Nat)/\getT st.T 12=.int (x.1.length:Nat)/\st.S=S++[⟨k,[.int 0,.int 0]⟩]/\st.tk=tk/\st.n=k+1) (fun x=>x.2.length) (([]:List (List Q)),t.rows) ?_ ?_
 case refine_2=>exact ⟨rfl,rfl,rfl,rfl,rfl,rfl,rfl,rfl,rfl,rfl,rfl,rfl⟩
 rintro ⟨P,U⟩ ⟨T,S',tk',n'⟩ ⟨hl,ez,hR,e0,e1,e4,e10,e11,e12,eS,eT,eN⟩ IH
 simp only at ez hR e0 e1 e4 e10 e11 e12 eS eT eN
 subst eS eT eN
 obtain ⟨g,hg,hT⟩:=Av hl
 rw [hg] at e0 e1 e4 e10 e11 e12
 subst hT
 clear hg hl
 have uq:t.rows.length=P.length+U.length:=by rw [ez]; simp
 by_cases ci:P.length<t.rows.length
 ·have c1:decide ((P.length:Int)<(t.rows.length:Int))=true:=by simpa using ci
  have bm:0<t.rows.length:=by omega
  have bo:t.rows≠[]:=fun h0=>by rw [h0] at bm; simp at bm
  rw [Ba bm] at hh
  subst hh
  have bv:=hT.top
  rw [Ba bm,Ba bm] at bv
  obtain ⟨r0,U,rfl⟩:∃ r0 U',U=r0 :: U':=by
   cases U with
   | nil=>simp at uq; omega
   | cons x u=>exact ⟨x,u,rfl⟩
  have uz:U.length<(r0 :: U).length:=by simp
  have hw2:IntKind.i64.wrap ((P.length:Int)+1)=(((P++[r0]).length:Nat):Int):=by rw [Ad (by unfold i64; omega)]; simp
  have lm:(P++[r0]).length=P.length+1:=by simp
  obtain ⟨bk,jp⟩:=Ag (show P.length<t.basis.length by rw [hT.nb]; exact ci)
  have fo:nth (List.drop P.length (t.basis.map intA)) 0=some (.prim (.int .i64 (bk:Int))):=Dj (by rw [Ae] at jp ⊢; rw [List.getElem?_map,jp]; rfl)
  have pf:=Aa (L:=[⟨k,[.int 0,.int 0]⟩]) (hT.basisE bo)
  have htB:=Aa (L:=[⟨k,[.int 0,.int 0]⟩]) bv
  by_cases hb:bk=c
  ·have c2:((bk:Int) == (c:Int))=true:=by simp [hb]
   obtain ⟨pk,ef⟩:=Ag (show P.length<I.ids.length by rw [hT.nids]; exact ci)
   have cl:nth (List.drop P.length (I.ids.map (gt t.cost.length 2))) 0=some (.sref pk.1 pk.2 0 t.cost.length 2):=Dj (by rw [Ae] at ef ⊢; rw [List.getElem?_map,ef]; rfl)
   have fm:nth t.rows P.length=some r0:=by rw [ez]; exact Ee
   have dn:=hT.rowW r0 (Al fm)
   have jn:=Aa (L:=[⟨k,[.int 0,.int 0]⟩]) (hT.rowsE bo)
   have c9:=Aa (L:=[⟨k,[.int 0,.int 0]⟩]) (hT.rowE P.length pk r0 ef fm)
   obtain ⟨z,hz⟩:=Ag (show t.cost.length - 1<r0.length by omega)
   have oh:=Ar (ce:=ceQ) Ao hz
   have i8:IntKind.i64.wrap ((t.cost.length:Int) - 1)=((t.cost.length - 1:Nat):Int):=by rw [Ad (by unfold i64; omega)]; omega
   have oj:t.cost.length - 1<t.cost.length:=by omega
   have ey:Db qF t c=(z,false):=by
    unfold Db
    rw [hR]
    unfold Ka
    rw [Az jp,if_pos hb]
    simp only [Bx,Az fm,Az hz]
   have bl:entAt (S++[⟨k,ceQ z⟩]) S.length k=some (ceQ z):=Ai rfl
   have a7:∀ e e',put (S++[e]) S.length e'=S++[e']:=fun e e'=>De rfl
   simp (maxSteps:=10^6)+contextual(disch:=try exact dqd)only[evg1,simprocAttr,AV.int,AV.bool,AV.str,results110,e0,e1,e4,e10,e11,e12,c1,c2,htB,pf,fo,jn,cl,c9,oh,i8,oj,ci,bl,a7,Hb,Ala,tkQ,Ao,Bg,ovQ,Nat.mul_one]
   rw [hΦ,ey]
   exact ⟨_,rfl⟩
  ·have c2:((bk:Int) == (c:Int))=false:=by simp; omega
   simp (maxSteps:=10^6)+contextual(disch:=try exact dqd)only[evg1,simprocAttr,AV.int,AV.bool,AV.str,results110,e0,e1,e4,e10,e11,e12,c1,c2,htB,pf,fo,ci,hw2,Nat.mul_one]
   exact IH (P++[r0],U) _ (by first|omega|(simp only; omega)) ⟨rfl,by rw [ez]; simp,by rw [hR,lm]; simp only [Ka]; rw [Az jp,if_neg hb],by and_intros <;> first|rfl|simp only [getT,List.map_append]⟩
 ·have c1:decide ((P.length:Int)<(t.rows.length:Int))=false:=by simpa using ci
  have ww:U=[]:=List.length_eq_zero_iff.1 (by omega)
  subst ww
  have ey:Db qF t c=y:=by unfold Db; rw [hR]; simp only [Ka]; exact hy.symm
  simp (maxSteps:=10^6)+contextual(disch:=try exact dqd)only[evg1,simprocAttr,AV.int,AV.bool,AV.str,results110,e0,e1,e4,e10,e11,e12,c1,htA,dw,hE,ro,hP,u0,D3,xfs,puQ,Ala,tkQ,Ao,Bg,ovQ]
  rw [hΦ,ey]
  exact ⟨_,rfl⟩
end
end
section
open Go Tryz
theorem Mp {F:Fld} {row:List Q} {c i:Nat} : ∀ {l:List (List Q)} {k:Nat},(lessRows F row c i k l).1.length=l.length
 | [],_=>rfl
 | r :: l,k=>by simp only [lessRows,List.length_cons,Mp]
theorem Tw {F:Fld} {t:Tb} {i c:Nat} : (Dq F t i c).rows.length=t.rows.length:=by
 simp only [Dq,Mp,Ak]
theorem D1 (n:Int) (hn:i64 n):qF.ok (qF.whole n).1:=Bz.whole n hn
theorem Ahc {S:List Ent} {iq eq:Nat} {I:TI} {t:Tb} {cc:Cap} {c:Nat} (hT:Ay S iq eq I t cc):qF.ok (Db qF t c).1:=by
 unfold Db
 split
 ·rename_i i hi
  have hlt:=(Xu hi).2.1
  obtain ⟨r0,bo⟩:=Ag (show i<t.rows.length by omega)
  have dn:=hT.rowW r0 (Al bo)
  have cn:=hT.real
  obtain ⟨z,hz⟩:=Ag (show t.cost.length - 1<r0.length by omega)
  simp only [Bx,Az bo,Az hz]
  exact hT.okr r0 (Al bo) z (Al hz)
 ·exact D1 0 (by unfold i64; omega)
section
variable (S:List Ent) (tk:List Nat) (k iq eq:Nat)
set_option maxHeartbeats 8000000 in
set_option maxRecDepth 100000 in
theorem Amc (I:TI) (t:Tb) (cc:Cap) (ag:Ay S iq eq I t cc) :
  ∃ r,cL prog 111 [.ref I.it I.et 0] S tk k=some r/\Rr S tk iq eq I (Gc qF t.rows.length 0 t) cc (.tup []) r:=by
 obtain ⟨Φ,hΦ⟩:∃ Φ,Φ=Rr S tk iq eq I (Gc qF t.rows.length 0 t) cc (.tup []):=⟨_,rfl⟩
 rw [<- hΦ]
 have ai:=ag.top
 have hM:=ag.bigM
 obtain ⟨h,hh⟩:∃ h,h=cw I.ir I.er 1 t.rows.length:=⟨_,rfl⟩
 have hlen:lenV false true h=some (.int (t.rows.length:Nat)):=by
  rw [hh]
  cases t.rows.length with
  | zero=>rfl
  | succ n=>rfl
 rw [<- hh] at ai
 refine opG func111 ntmps111 ?_
 simp (maxSteps:=10^6)+contextual(disch:=try exact dqd)only[evg1,simprocAttr,AV.int,AV.bool,AV.str,results111,ai,hlen]
 refine Ef (P:=prog) (fun x st=>st.T.length=55/\(x.2.2.1<=t.rows.length)/\(Gc qF t.rows.length 0 t=Gc qF (t.rows.length - x.2.2.1) x.2.2.1 x.2.2.2)/\(Ay x.1 iq eq I x.2.2.2 cc)/\(x.2.2.2.rows.length=t.rows.length)/\(x.1.length=S.length)/\(∀ v,OutQ I iq v->nth x.1 v=nth S v)/\getT st.T 0=.ref I.it I.et 0/\getT st.T 8=.int (t.rows.length:Nat)/\getT st.T 9=.int (x.2.2.1:Nat)/\st.S=x.1/\st.tk=tk/\st.n=x.2.1) (fun x=>t.rows.length - x.2.2.1) (S,k,0,t) ?_ ?_
 case refine_2=>exact ⟨rfl,Nat.zero_le _,rfl,ag,rfl,rfl,fun j _=>rfl,rfl,rfl,rfl,rfl,rfl,rfl⟩
 rintro ⟨SS,n1,j,t1⟩ ⟨T,S',tk',n'⟩ ⟨hl,hj,hR,hT,hm,ee,aw,e0,e8,e9,eS,eT,eN⟩ IH
 simp only at hj hR hT hm ee aw e0 e8 e9 eS eT eN
 subst eS eT eN
 obtain ⟨g,hg,hT⟩:=Av hl
 rw [hg] at e0 e8 e9
 subst hT
 clear hg hl
 have IHA:=IH
 clear IH
 have ig:List.take S.length S'=S':=List.take_of_length_le (by omega)
 by_cases hjm:j<t.rows.length
 ·have c1:decide ((j:Int)<(t.rows.length:Int))=true:=by simpa using hjm
  have hw:IntKind.i64.wrap ((j:Int)+1)=((j+1:Nat):Int):=by rw [Ad (by unfold i64; omega)]; rfl
  have bm:0<t1.rows.length:=by omega
  have bo:t1.rows≠[]:=fun h0=>by rw [h0] at bm; simp at bm
  have bv:=hT.top
  rw [Ba bm,Ba bm] at bv
  have pf:=hT.basisE bo
  have cn:=hT.real
  have hW:=hT.bigW
  have nd:j<t1.rows.length:=by omega
  obtain ⟨bk,jp⟩:=Ag (show j<t1.basis.length by rw [hT.nb]; exact nd)
  have fo:nth (List.drop j (t1.basis.map intA)) 0=some (.prim (.int .i64 (bk:Int))):=Dj (by rw [Ae] at jp ⊢; rw [List.getElem?_map,jp]; rfl)
  have aj:Gc qF (t.rows.length - j) j t1=Gc qF (t.rows.length - (j+1)) (j+1) (G9 qF t1 j):=by
   rw [show t.rows.length - j=(t.rows.length - (j+1))+1 by omega]; rfl
  rw [aj] at hR
  simp only [intA] at bv
  by_cases hb:bk<t1.real
  ·have c2:decide ((bk:Int)<(t1.real:Int))=true:=by simpa using hb
   have hss:G9 qF t1 j=t1:=by unfold G9; rw [Az jp,if_pos hb]
   rw [hss] at hR
   simp (maxSteps:=10^6)+contextual(disch:=try exact dqd)only[evg1,simprocAttr,AV.int,AV.bool,AV.str,results111,e0,e8,e9,c1,c2,hw,bv,pf,fo,nd,Nat.mul_one]
   exact IHA (S',n',j+1,t1) _ (by first|omega|(simp only; omega)) ⟨rfl,by first|omega|(dsimp only; omega),hR,hT,hm,ee,aw,by and_intros <;> first|rfl|simp only [getT,List.map_append]⟩
  ·have c2:decide ((bk:Int)<(t1.real:Int))=false:=by simpa using hb
   obtain ⟨pk,ef⟩:=Ag (show j<I.ids.length by rw [hT.nids]; exact nd)
   have cl:nth (List.drop j (I.ids.map (gt t1.cost.length 2))) 0=some (.sref pk.1 pk.2 0 t1.cost.length 2):=Dj (by rw [Ae] at ef ⊢; rw [List.getElem?_map,ef]; rfl)
   obtain ⟨r0,fm⟩:=Ag nd
   have dn:=hT.rowW r0 (Al fm)
   have kn:=hT.okr r0 (Al fm)
   have jn:=hT.rowsE bo
   have c9:=hT.rowE j pk r0 ef fm
   have hss:G9 qF t1 j=match nzF r0 t1.real 0 with|some k=>Dq qF t1 j k|none=>t1:=by unfold G9; rw [Az jp,if_neg hb]; simp only [Bx,Az fm]; cases nzF r0 t1.real 0 <;> rfl
   simp (maxSteps:=10^6)+contextual(disch:=try exact dqd)only[evg1,simprocAttr,AV.int,AV.bool,AV.str,results111,e0,e8,e9,c1,c2,hw,bv,pf,fo,nd,Nat.mul_one]
   refine Ef (P:=prog) (fun x st=>st.T.length=55/\(x.2<=t1.real)/\(nzF r0 t1.real 0=nzF r0 (t1.real - x.2) x.2)/\getT st.T 0=.ref I.it I.et 0/\getT st.T 2=.int (j:Nat)/\getT st.T 8=.int (t.rows.length:Nat)/\getT st.T 9=.int (j:Nat)/\getT st.T 27=.int (t1.real:Nat)/\getT st.T 28=.int (x.2:Nat)/\st.S=S'/\st.tk=tk'/\st.n=x.1) (fun x=>t1.real - x.2) (n',0) ?_ ?_
   case refine_2=>exact ⟨rfl,Nat.zero_le _,rfl,rfl,rfl,rfl,rfl,rfl,rfl,rfl,rfl,rfl⟩
   rintro ⟨n2,q⟩ ⟨T,S',tk',n'⟩ ⟨hl,hq,hz,e0,e2,e8,e9,e27,e28,eS,eT,eN⟩ IH
   simp only at hq hz e0 e2 e8 e9 e27 e28 eS eT eN
   subst eS eT eN
   obtain ⟨g,hg,hT⟩:=Av hl
   rw [hg] at e0 e2 e8 e9 e27 e28
   subst hT
   clear hg hl
   have il:List.take S'.length S'=S':=List.take_of_length_le (Nat.le_refl _)
   by_cases t8:q<t1.real
   ·have c3:decide ((q:Int)<(t1.real:Int))=true:=by simpa using t8
    have hw3:IntKind.i64.wrap ((q:Int)+1)=((q+1:Nat):Int):=by rw [Ad (by unfold i64; omega)]; rfl
    have hqc:q<t1.cost.length:=by omega
    obtain ⟨x,hx⟩:=Ag (show q<r0.length by omega)
    have ox:=kn x (Al hx)
    have gv:=Ar (ce:=ceQ) Ao hx
    have hs:=Wk S' tk' n' iq eq t1.fl x ox hT.fa
    have tw:nzF r0 (t1.real - q) q=if sgn x=0 then nzF r0 (t1.real - (q+1)) (q+1) else some q:=by
     rw [show t1.real - q=(t1.real - (q+1))+1 by omega]
     simp only [nzF,Az hx]
    by_cases h0:sgn x=0
    ·have c4:(sgn x != 0)=false:=by simpa using h0
     rw [tw,if_pos h0] at hz
     simp (maxSteps:=10^6)+contextual(disch:=try exact dqd)only[evg1,simprocAttr,AV.int,AV.bool,AV.str,results111,e0,e2,e8,e9,e27,e28,c3,c4,hw3,bv,jn,cl,c9,gv,nd,hqc,hs,D3,xfs,puQ,tkQ,Nat.mul_one]
     exact IH (n'+1,q+1) _ (by first|omega|(simp only; omega)) ⟨rfl,by first|omega|(dsimp only; omega),hz,by and_intros <;> first|rfl|simp only [getT,List.map_append]⟩
    ·have c4:(sgn x != 0)=true:=by simpa using h0
     rw [tw,if_neg h0] at hz
     rw [hz] at hss
     simp only at hss
     rw [hss] at hR
     obtain ⟨r,kq,S3,k3,rfl,dx,co,df⟩:=Ali S' tk' (n'+1) iq eq I _ cc j q hT nd hqc
     have px:List.take S'.length S3=S3:=List.take_of_length_le (by omega)
     simp (maxSteps:=10^6)+contextual(disch:=try exact dqd)only[evg1,simprocAttr,AV.int,AV.bool,AV.str,results111,e0,e2,e8,e9,e27,e28,c3,c4,hw,bv,jn,cl,c9,gv,nd,hqc,hs,kq,px,D3,xfs,puQ,tkQ,Nat.mul_one]
     exact IHA (S3,k3,j+1,Dq qF t1 j q) _ (by first|omega|(simp only; omega)) ⟨rfl,by first|omega|(dsimp only; omega),hR,co,by simp only [Tw]; exact hm,by first|omega|(dsimp only; omega),fun j hj=>by rw [df j hj]; exact aw j hj,by and_intros <;> first|rfl|simp only [getT,List.map_append]⟩
   ·have c3:decide ((q:Int)<(t1.real:Int))=false:=by simpa using t8
    have hq2:t1.real - q=0:=by omega
    rw [hz,hq2] at hss
    simp only [nzF] at hss
    rw [hss] at hR
    simp (maxSteps:=10^6)+contextual(disch:=try exact dqd)only[evg1,simprocAttr,AV.int,AV.bool,AV.str,results111,e0,e2,e8,e9,e27,e28,c3,hw,il]
    exact IHA (S',n',j+1,t1) _ (by first|omega|(simp only; omega)) ⟨rfl,by first|omega|(dsimp only; omega),hR,hT,hm,ee,aw,by and_intros <;> first|rfl|simp only [getT,List.map_append]⟩
 ·have c1:decide ((j:Int)<(t.rows.length:Int))=false:=by simpa using hjm
  have q9:t.rows.length - j=0:=by omega
  rw [q9] at hR
  simp only [Gc] at hR
  simp (maxSteps:=10^6)+contextual(disch:=try exact dqd)only[evg1,simprocAttr,AV.int,AV.bool,AV.str,results111,e0,e8,e9,c1]
  rw [hΦ,hR,ig]
  exact ⟨S',n',rfl,ee,hT,aw⟩
end
end
section
open Go Tryz
def Hu (l:List Q):List (List AV):=l.map fun q=>ceW (qF.rat q)
theorem Aas (l:List Q):Da 4 (Hu l)=true:=by unfold Hu; exact Gx (sz:=4) (f:=fun q=>ceW (qF.rat q)) (fun _=>rfl) l
def Ail (S:List Ent) (iq eq:Nat) (I:TI) (t':Tb) (cc:Cap) (l:List Q) (r:Rs):Prop :=
 ∃ S' k' tk' c,r=(.frz (Hu l) c,S',tk',k')/\S'.length=S.length/\Ay S' iq eq I t' cc/\∀ j,OutQ I iq j->nth S' j=nth S j
section
variable (S:List Ent) (tk:List Nat) (k iq eq:Nat)
set_option maxHeartbeats 8000000 in
set_option maxRecDepth 100000 in
theorem Akz (I:TI) (t:Tb) (cc:Cap) (ag:Ay S iq eq I t cc) (hv:2*t.vars<=t.real) :
  ∃ r,cL prog 85 [.ref I.it I.et 0] S tk k=some r/\Ail S iq eq I { t with fl:=Bool.or t.fl (B6 qF t).2 } cc (B6 qF t).1 r:=by
 obtain ⟨Φ,hΦ⟩:∃ Φ,Φ=Ail S iq eq I { t with fl:=Bool.or t.fl (B6 qF t).2 } cc (B6 qF t).1:=⟨_,rfl⟩
 rw [<- hΦ]
 have ai:=ag.top
 have hW:=ag.bigW
 have cn:=ag.real
 simp only [intA] at ai
 refine opG func85 ntmps85 ?_
 simp (maxSteps:=10^6)+contextual(disch:=try exact dqd)only[evg1,simprocAttr,AV.int,AV.bool,AV.str,results85,ai]
 refine Ef (P:=prog) (fun x st=>st.T.length=40/\(x.2.2.2.2.1<=t.vars)/\(B6 qF t=(x.2.2.2.2.2.1++(Ek (ptF qF t) (t.vars - x.2.2.2.2.1) x.2.2.2.2.1).1,Bool.or x.2.2.2.2.2.2 (Ek (ptF qF t) (t.vars - x.2.2.2.2.1) x.2.2.2.2.1).2))/\(x.2.2.2.2.2.1.length=x.2.2.2.2.1)/\(Be x.2.2.1 x.2.2.2.1 4=true)/\(Ay x.1 iq eq I { t with fl:=Bool.or t.fl x.2.2.2.2.2.2 } cc)/\(x.1.length=S.length)/\(∀ v,OutQ I iq v->nth x.1 v=nth S v)/\getT st.T 0=.ref I.it I.et 0/\getT st.T 3=.frz (Hu x.2.2.2.2.2.1) x.2.2.2.1/\getT st.T 8=.int (t.vars:Nat)/\getT st.T 9=.int (x.2.2.2.2.1:Nat)/\st.S=x.1/\st.tk=x.2.2.1/\st.n=x.2.1) (fun x=>t.vars - x.2.2.2.2.1) (S,k,tk,Cap.nilc,0,([]:List Q),false) ?_ ?_
 case refine_2=>exact ⟨rfl,Nat.zero_le _,by simp [B6],rfl,rfl,by simp only [Bool.or_false]; exact ag,rfl,fun j _=>rfl,rfl,rfl,rfl,rfl,rfl,rfl,rfl⟩
 rintro ⟨SS,n1,tk1,cp,j,out,fq⟩ ⟨T,S',tk',n'⟩ ⟨hl,hj,hR,qj,ab,hT,ee,aw,e0,e3,e8,e9,eS,eT,eN⟩ IH
 simp only at hj hR qj ab hT ee aw e0 e3 e8 e9 eS eT eN
 subst eS eT eN
 obtain ⟨g,hg,hT⟩:=Av hl
 rw [hg] at e0 e3 e8 e9
 subst hT
 clear hg hl
 have ig:List.take S.length S'=S':=List.take_of_length_le (by omega)
 by_cases hjv:j<t.vars
 ·have c1:decide ((j:Int)<(t.vars:Int))=true:=by simpa using hjv
  have hw:IntKind.i64.wrap ((j:Int)+1)=((j+1:Nat):Int):=by rw [Ad (by unfold i64; omega)]; rfl
  have hwm:IntKind.i64.wrap (2*(j:Int))=((2*j:Nat):Int):=by rw [Ad (by unfold i64; omega)]; rfl
  have a03:IntKind.i64.wrap (((2*j:Nat):Int)+1)=((2*j+1:Nat):Int):=by rw [Ad (by unfold i64; omega)]; rfl
  have bv:=hT.top
  obtain ⟨a,ha⟩:∃ a,a=Db qF t (2*j):=⟨_,rfl⟩
  obtain ⟨b,hb⟩:∃ b,b=Db qF t (2*j+1):=⟨_,rfl⟩
  obtain ⟨d,hd⟩:∃ d,d=qF.minus a.1 b.1:=⟨_,rfl⟩
  have oa:qF.ok a.1:=by rw [ha]; exact Ahc ag
  have ob:qF.ok b.1:=by rw [hb]; exact Ahc ag
  have od:qF.ok d.1:=by rw [hd]; exact Bz.minus _ _ oa ob
  obtain ⟨r,fv,k1,rfl⟩:=Af6 S' tk' n' iq eq I _ cc (2*j) hT
  have ea:Db qF { t with fl:=Bool.or t.fl fq } (2*j)=a:=ha.symm
  rw [ea] at fv
  have hg1:=D4 (c:=a.2) hT.fa
  have mn:=hT.fa.fS (c:=a.2)
  obtain ⟨S1,cj⟩:∃ S1,S1=flS S' iq eq a.2:=⟨_,rfl⟩
  have dy:=hT.flag (S':=flS S' iq eq a.2) (fun j hj=>Ax hj) mn
  rw [<- cj] at fv hg1 mn dy
  obtain ⟨r,hcb,k2,rfl⟩:=Af6 S1 tk' k1 iq eq I _ cc (2*j+1) dy
  have eb:Db qF { t with fl:=Bool.or (Bool.or t.fl fq) a.2 } (2*j+1)=b:=hb.symm
  rw [eb] at hcb
  have hg2:=D4 (c:=b.2) mn
  have b8:=mn.fS (c:=b.2)
  obtain ⟨S2,a8⟩:∃ S2,S2=flS S1 iq eq b.2:=⟨_,rfl⟩
  rw [<- a8] at hcb hg2 b8
  have hm:=J4 S2 tk' k2 iq eq _ a.1 b.1 oa ob b8
  rw [<- hd] at hm
  have hg3:=D4 (c:=d.2) b8
  have df:=b8.fS (c:=d.2)
  obtain ⟨S3,da⟩:∃ S3,S3=flS S2 iq eq d.2:=⟨_,rfl⟩
  rw [<- da] at hm hg3 df
  have hr:=Mr S3 tk' (k2+4) iq eq _ d.1 od df
  have b6:∀ v,v≠iq->nth S3 v=nth S' v:=fun v hv=>by rw [da,Ax hv,a8,Ax hv,cj,Ax hv]
  have dx:S3.length=S'.length:=by rw [da,Bd,a8,Bd,cj,Bd]
  have a2u:entAt S1 I.it I.et=_:=dy.top
  have hpt:ptF qF t j=(d.1,Bool.or (Bool.or a.2 b.2) d.2):=by rw [hd,hb,ha]; rfl
  have lu:Ek (ptF qF t) (t.vars - j) j=(d.1 :: (Ek (ptF qF t) (t.vars - (j+1)) (j+1)).1,Bool.or (Bool.or (Bool.or a.2 b.2) d.2) (Ek (ptF qF t) (t.vars - (j+1)) (j+1)).2):=by
   rw [show t.vars - j=(t.vars - (j+1))+1 by omega]
   simp only [Ek,hpt]
  have j7:=Aas out
  have pu:(Hu out).length+1<=1048576:=by unfold Hu; rw [List.length_map]; omega
  have hle:Hu (out++[d.1])=Hu out++[ceW (qF.rat d.1)]:=by unfold Hu; simp
  have bp:=apB_one (y:=ceW (qF.rat d.1)) ab j7 rfl pu
  have d7:=Bv ab
  have px:List.take S'.length S3=S3:=List.take_of_length_le (by omega)
  simp (maxSteps:=10^6)+contextual(disch:=try exact dqd)only[evg1,simprocAttr,AV.int,AV.bool,AV.str,results85,e0,e3,e8,e9,c1,hw,hwm,a03,bv,fv,hcb,hm,hr,hg1,hg2,hg3,bp,px,D3,xfs,puQ,tkQ,Ap,A9,Qo,T5]
  have co:=hT.flag (S':=S3) b6 df
  exact IH (S3,k2+4+3,Ey tk' cp,Bb tk' cp 4,j+1,out++[d.1],Bool.or fq (Bool.or (Bool.or a.2 b.2) d.2)) _ (by first|omega|(simp only; omega)) ⟨rfl,by first|omega|(dsimp only; omega),by rw [hR,lu]; simp only [List.append_assoc,List.cons_append,List.nil_append,Bool.or_assoc],by simp [qj],d7,by simpa only [Bool.or_assoc] using co,by first|omega|(dsimp only; omega),fun v hv=>by rw [b6 v hv.1]; exact aw v hv,by and_intros <;> first|rfl|simp only [getT,Hu,List.map_append,List.map_cons,List.map_nil]⟩
 ·have c1:decide ((j:Int)<(t.vars:Int))=false:=by simpa using hjv
  have q9:t.vars - j=0:=by omega
  rw [q9] at hR
  simp only [Ek,List.append_nil,Bool.or_false] at hR
  simp (maxSteps:=10^6)+contextual(disch:=try exact dqd)only[evg1,simprocAttr,AV.int,AV.bool,AV.str,results85,e0,e3,e8,e9,c1]
  rw [hΦ,hR,ig]
  exact ⟨S',n',tk',cp,rfl,ee,hT,aw⟩
set_option maxHeartbeats 8000000 in
set_option maxRecDepth 100000 in
theorem N2 (I:TI) (t:Tb) (cc:Cap) (ag:Ay S iq eq I t cc) (hv:t.real+t.rows.length<t.cost.length) :
  ∃ r,cL prog 84 [.ref I.it I.et 0] S tk k=some r/\Ail S iq eq I { t with fl:=Bool.or t.fl (Gw qF t).2 } cc (Gw qF t).1 r:=by
 obtain ⟨Φ,hΦ⟩:∃ Φ,Φ=Ail S iq eq I { t with fl:=Bool.or t.fl (Gw qF t).2 } cc (Gw qF t).1:=⟨_,rfl⟩
 rw [<- hΦ]
 have ai:=ag.top
 have hW:=ag.bigW
 have hM:=ag.bigM
 have cn:=ag.real
 have az:=ag.low
 obtain ⟨one,bz⟩:∃ one,one=qF.whole 1:=⟨_,rfl⟩
 obtain ⟨z0,hz0⟩:∃ z0,z0=qF.whole 0:=⟨_,rfl⟩
 have o1:qF.ok one.1:=by rw [bz]; exact D1 1 (by unfold i64; omega)
 have o0:qF.ok z0.1:=by rw [hz0]; exact D1 0 (by unfold i64; omega)
 have hw1:=Hz S tk k iq eq t.fl 1 (by unfold i64; omega) ag.fa
 rw [<- bz] at hw1
 have mn:=ag.fa.fS (c:=one.2)
 obtain ⟨S1,cj⟩:∃ S1,S1=flS S iq eq one.2:=⟨_,rfl⟩
 have dy:=ag.flag (S':=flS S iq eq one.2) (fun j hj=>Ax hj) mn
 have hl1:(flS S iq eq one.2).length=S.length:=Bd
 have bl:∀ v,v≠iq->nth (flS S iq eq one.2) v=nth S v:=fun v hv=>Ax hv
 rw [<- cj] at hw1 mn dy hl1 bl
 obtain ⟨h,hh⟩:∃ h,h=cw I.ir I.er 1 t.rows.length:=⟨_,rfl⟩
 have hlen:lenV false true h=some (.int (t.rows.length:Nat)):=by
  rw [hh]
  cases t.rows.length with
  | zero=>rfl
  | succ n=>rfl
 rw [<- hh] at ai
 have bv:entAt (S1++[⟨k+1,ceQ one.1⟩]) I.it I.et=_:=Aa dy.top
 simp only at bv
 rw [<- hh] at bv
 refine opG func84 ntmps84 ?_
 simp (maxSteps:=10^6)+contextual(disch:=try exact dqd)only[evg1,simprocAttr,AV.int,AV.bool,AV.str,results84,ai,hw1,bv,hlen,D3,xfs,puQ,Ao,Bg,ovQ]
 rw [hl1]
 refine Ef (P:=prog) (fun x st=>st.T.length=71/\(x.2.2.2.2.1<=t.rows.length)/\(Ek (mulF qF t) t.rows.length 0=(x.2.2.2.2.2.1++(Ek (mulF qF t) (t.rows.length - x.2.2.2.2.1) x.2.2.2.2.1).1,Bool.or x.2.2.2.2.2.2 (Ek (mulF qF t) (t.rows.length - x.2.2.2.2.1) x.2.2.2.2.1).2))/\(x.2.2.2.2.2.1.length=x.2.2.2.2.1)/\(Be x.2.2.1 x.2.2.2.1 4=true)/\(Ay x.1 iq eq I { t with fl:=Bool.or (Bool.or t.fl one.2) x.2.2.2.2.2.2 } cc)/\(x.1.length=S.length+1)/\(∀ v,v<S.length->OutQ I iq v->nth x.1 v=nth S v)/\(entAt x.1 S.length (k+1)=some (ceQ one.1))/\getT st.T 0=.ref I.it I.et 0/\getT st.T 3=.frz (Hu x.2.2.2.2.2.1) x.2.2.2.1/\getT st.T 4=.ref S.length (k+1) 0/\getT st.T 16=.int (t.rows.length:Nat)/\getT st.T 17=.int (x.2.2.2.2.1:Nat)/\st.S=x.1/\st.tk=x.2.2.1/\st.n=x.2.1) (fun x=>t.rows.length - x.2.2.2.2.1) ((S1++[⟨k+1,ceQ one.1⟩]),(k+1+1),tk,Cap.nilc,0,([]:List Q),false) ?_ ?_
 case refine_2=>exact ⟨rfl,Nat.zero_le _,by simp,rfl,rfl,by simp only [Bool.or_false]; exact dy.app _,by simp [hl1],fun v hv ho=>by rw [A6 (by omega)]; exact bl v ho.1,Ai hl1,rfl,rfl,rfl,rfl,rfl,rfl,rfl,rfl⟩
 rintro ⟨SS,n1,tk1,cp,j,out,fq⟩ ⟨T,S',tk',n'⟩ ⟨hl,hj,hR,qj,ab,hT,ee,aw,xi,e0,e3,e4,e16,e17,eS,eT,eN⟩ IH
 simp only at hj hR qj ab hT ee aw xi e0 e3 e4 e16 e17 eS eT eN
 subst eS eT eN
 obtain ⟨g,hg,hT⟩:=Av hl
 rw [hg] at e0 e3 e4 e16 e17
 subst hT
 clear hg hl
 by_cases hjm:j<t.rows.length
 ·have c1:decide ((j:Int)<(t.rows.length:Int))=true:=by simpa using hjm
  have hw:IntKind.i64.wrap ((j:Int)+1)=((j+1:Nat):Int):=by rw [Ad (by unfold i64; omega)]; rfl
  have wj:IntKind.i64.wrap ((t.real:Int)+(j:Int))=((t.real+j:Nat):Int):=by rw [Ad (by unfold i64; omega)]; rfl
  have hrc:t.real+j<t.cost.length:=by omega
  have htj:=hT.top
  simp only [intA] at htj
  have jg:=hT.costE
  obtain ⟨x,hx⟩:=Ag hrc
  have ox:=ag.okc x (Al hx)
  have gv:=Ar (ce:=ceQ) Ao hx
  obtain ⟨y,hy⟩:∃ y,y=qF.minus x one.1:=⟨_,rfl⟩
  have oy:qF.ok y.1:=by rw [hy]; exact Bz.minus _ _ ox o1
  have db:=J4 S' tk' n' iq eq (Bool.or (Bool.or t.fl one.2) fq) x one.1 ox o1 hT.fa
  rw [<- hy] at db
  have hg1:=D4 (c:=y.2) hT.fa
  have b8:=hT.fa.fS (c:=y.2)
  obtain ⟨S2,a8⟩:∃ S2,S2=flS S' iq eq y.2:=⟨_,rfl⟩
  have ar:=hT.flag (S':=flS S' iq eq y.2) (fun j hj=>Ax hj) b8
  have hl2:(flS S' iq eq y.2).length=S'.length:=Bd
  have a7:∀ v,v≠iq->nth (flS S' iq eq y.2) v=nth S' v:=fun v hv=>Ax hv
  have jm:nth S2 S.length=nth S' S.length:=by rw [a8]; exact Ax (by have:=az.iq; omega)
  rw [<- a8] at db hg1 b8 ar hl2 a7
  obtain ⟨n2,ri⟩:∃ n2,n2=n'+4:=⟨_,rfl⟩
  rw [<- ri] at db
  have pg:entAt (S2++[⟨n2,ceQ y.1⟩]) S2.length n2=some (ceQ y.1):=Bf
  obtain ⟨bf,zm⟩:=Ag (show j<t.flip.length by rw [ag.nf]; exact hjm)
  have xj:nth (t.flip.map D5) j=some [.prim (.bool bf)]:=by rw [Ae] at zm ⊢; rw [List.getElem?_map,zm]; rfl
  have ot:=ar.app [⟨n2,ceQ y.1⟩]
  have ls:=ot.top
  simp only [intA] at ls
  have j2:∀ v,mulF qF t j=v->Ek (mulF qF t) (t.rows.length - j) j=(v.1 :: (Ek (mulF qF t) (t.rows.length - (j+1)) (j+1)).1,Bool.or v.2 (Ek (mulF qF t) (t.rows.length - (j+1)) (j+1)).2):=by
   intro v hv
   rw [show t.rows.length - j=(t.rows.length - (j+1))+1 by omega]
   simp only [Ek,hv]
  have j7:=Aas out
  have pu:(Hu out).length+1<=1048576:=by unfold Hu; rw [List.length_map]; omega
  have d7:=Bv ab
  cases bf with
  | false =>
   have zd:mulF qF t j=y:=by
    unfold mulF
    rw [Az hx,Az zm,<- bz,<- hy]; rfl
   have hr:=Mr (S2++[⟨n2,ceQ y.1⟩]) tk' (n2+1) iq eq _ y.1 oy ot.fa
   have bp:=apB_one (y:=ceW (qF.rat y.1)) ab j7 rfl pu
   have il:List.take S'.length (S2++[⟨n2,ceQ y.1⟩])=S2:=by rw [<- hl2]; simp
   simp (maxSteps:=10^6)+contextual(disch:=try exact dqd)only[evg1,simprocAttr,AV.int,AV.bool,AV.str,results84,e0,e3,e4,e16,e17,c1,hw,wj,htj,jg,gv,hrc,xi,db,hg1,pg,ls,xj,hr,bp,il,D3,xfs,puQ,tkQ,Ao,Bg,ovQ,Ap,A9,Qo,T5]
   exact IH (S2,n2+1+3,Ey tk' cp,Bb tk' cp 4,j+1,out++[y.1],Bool.or fq y.2) _ (by first|omega|(simp only; omega)) ⟨rfl,by first|omega|(dsimp only; omega),by rw [hR,j2 y zd]; simp only [List.append_assoc,List.cons_append,List.nil_append,Bool.or_assoc],by simp [qj],d7,by simpa only [Bool.or_assoc] using ar,by first|omega|(dsimp only; omega),fun v hv ho=>by rw [a7 v ho.1]; exact aw v hv ho,by rw [Ab jm]; exact xi,by and_intros <;> first|rfl|simp only [getT,Hu,List.map_append,List.map_cons,List.map_nil]⟩
  | true =>
   obtain ⟨d,hd⟩:∃ d,d=qF.minus z0.1 y.1:=⟨_,rfl⟩
   have od:qF.ok d.1:=by rw [hd]; exact Bz.minus _ _ o0 oy
   have zd:mulF qF t j=(d.1,Bool.or y.2 (Bool.or z0.2 d.2)):=by
    unfold mulF
    rw [Az hx,Az zm,<- bz,<- hy,<- hz0,hd]; rfl
   have zn:=Hz (S2++[⟨n2,ceQ y.1⟩]) tk' (n2+1) iq eq _ 0 (by unfold i64; omega) ot.fa
   have hg2:=D4 (c:=z0.2) ot.fa
   rw [<- hz0] at zn
   rw [Gp b8] at zn hg2
   have df:=b8.fS (c:=z0.2)
   obtain ⟨S3,da⟩:∃ S3,S3=flS S2 iq eq z0.2:=⟨_,rfl⟩
   have co:=ar.flag (S':=flS S2 iq eq z0.2) (fun j hj=>Ax hj) df
   have dx:(flS S2 iq eq z0.2).length=S2.length:=Bd
   have b6:∀ v,v≠iq->nth (flS S2 iq eq z0.2) v=nth S2 v:=fun v hv=>Ax hv
   have lq:nth S3 S.length=nth S2 S.length:=by rw [da]; exact Ax (by have:=az.iq; omega)
   rw [<- da] at zn hg2 df co dx b6
   have xk:=df.app (L:=[⟨n2,ceQ y.1⟩])
   have fi:=J4 (S3++[⟨n2,ceQ y.1⟩]) tk' (n2+1+1) iq eq _ z0.1 y.1 o0 oy xk
   have hg3:=D4 (c:=d.2) xk
   rw [<- hd] at fi
   rw [Gp df] at fi hg3
   have hf4:=df.fS (c:=d.2)
   obtain ⟨S4,hS4⟩:∃ S4,S4=flS S3 iq eq d.2:=⟨_,rfl⟩
   have i7:=co.flag (S':=flS S3 iq eq d.2) (fun j hj=>Ax hj) hf4
   have n0:(flS S3 iq eq d.2).length=S3.length:=Bd
   have hn4:∀ v,v≠iq->nth (flS S3 iq eq d.2) v=nth S3 v:=fun v hv=>Ax hv
   have a04:nth S4 S.length=nth S3 S.length:=by rw [hS4]; exact Ax (by have:=az.iq; omega)
   rw [<- hS4] at fi hg3 hf4 i7 n0 hn4
   have hE3:entAt (S3++[⟨n2,ceQ y.1⟩]) S2.length n2=some (ceQ y.1):=Ai dx
   have ov:S4.length=S2.length:=by omega
   have py:entAt (S4++[⟨n2,ceQ y.1⟩]) S2.length n2=some (ceQ y.1):=Ai ov
   have pz:entAt (S4++[⟨n2,ceQ d.1⟩]) S2.length n2=some (ceQ d.1):=Ai ov
   have hP4:=fun e e'=>De (e:=e) (e':=e') ov
   have xl:=i7.app [⟨n2,ceQ d.1⟩]
   have u3:=xl.top
   simp only [intA] at u3
   have hr:=Mr (S4++[⟨n2,ceQ d.1⟩]) tk' (n2+1+1+4) iq eq _ d.1 od xl.fa
   have bp:=apB_one (y:=ceW (qF.rat d.1)) ab j7 rfl pu
   have il:List.take S'.length (S4++[⟨n2,ceQ d.1⟩])=S4:=by rw [<- hl2,<- ov]; simp
   simp (maxSteps:=10^6)+contextual(disch:=try exact dqd)only[evg1,simprocAttr,AV.int,AV.bool,AV.str,results84,e0,e3,e4,e16,e17,c1,hw,wj,htj,jg,gv,hrc,xi,db,hg1,pg,ls,xj,zn,hg2,hE3,fi,hg3,py,hP4,pz,u3,hr,bp,il,D3,xfs,puQ,tkQ,Ao,Bg,ovQ,ovQ2,Ap,A9,Qo,T5]
   exact IH (S4,n2+1+1+4+3,Ey tk' cp,Bb tk' cp 4,j+1,out++[d.1],Bool.or fq (Bool.or y.2 (Bool.or z0.2 d.2))) _ (by first|omega|(simp only; omega)) ⟨rfl,by first|omega|(dsimp only; omega),by rw [hR,j2 _ zd]; simp only [List.append_assoc,List.cons_append,List.nil_append,Bool.or_assoc],by simp [qj],d7,by simpa only [Bool.or_assoc] using i7,by first|omega|(dsimp only; omega),fun v hv ho=>by rw [hn4 v ho.1,b6 v ho.1,a7 v ho.1]; exact aw v hv ho,by rw [Ab a04,Ab lq,Ab jm]; exact xi,by and_intros <;> first|rfl|simp only [getT,Hu,List.map_append,List.map_cons,List.map_nil]⟩
 ·have c1:decide ((j:Int)<(t.rows.length:Int))=false:=by simpa using hjm
  have q9:t.rows.length - j=0:=by omega
  rw [q9] at hR
  simp only [Ek,List.append_nil,Bool.or_false] at hR
  have hmf:Gw qF t=(out,Bool.or one.2 fq):=by unfold Gw; rw [hR,<- bz]
  simp (maxSteps:=10^6)+contextual(disch:=try exact dqd)only[evg1,simprocAttr,AV.int,AV.bool,AV.str,results84,e0,e3,e4,e16,e17,c1]
  rw [hΦ,hmf]
  have th:=hT.take (n:=S.length) (az.of fun h=>h)
  exact ⟨_,n',tk',cp,rfl,by rw [List.length_take]; omega,by simpa only [Bool.or_assoc] using th,fun v hv=>by
   by_cases fu:v<S.length
   ·rw [Du fu]; exact aw v fu hv
   ·rw [Ae,Ae,List.getElem?_eq_none (by rw [List.length_take]; omega),List.getElem?_eq_none (by omega)]⟩
end
end
section
open Go
theorem Ay.add {S S':List Ent} {iq eq:Nat} {I:TI} {t:Tb} {c c':Cap} {ir er ib eb id nr b:Nat} {f fl':Bool} {row:List Q} (h:Ay S iq eq I t c)
  (ai:entAt S' I.it I.et=some [.ifc 95 (.ref iq eq 0),intA t.vars,intA t.real,.sref ir er 0 (t.rows.length+1) 1,.sref I.ic I.ec 0 t.cost.length 2,.sref ib eb 0 (t.rows.length+1) 1,.frz ((t.flip++[f]).map D5) c'])
  (iv:entAt S' ir er=some ((I.ids++[(id,nr)]).map (gt t.cost.length 2))) (rp:entAt S' ib eb=some ((t.basis++[b]).map intA)) (cr:entAt S' id nr=some (flat ceQ row)) (j7:row.length=t.cost.length) (kn:okL qF row)
  (jq:∀ p ∈ I.ids,nth S' p.1=nth S p.1) (xm:nth S' I.ic=nth S I.ic) (cz:FAq S' iq eq fl') (bp:Apart ⟨I.it,I.et,ir,er,I.ic,I.ec,ib,eb,I.ids++[(id,nr)]⟩ iq) (hm:t.rows.length+1<=1000000) (hb:b<t.cost.length) :
  Ay S' iq eq ⟨I.it,I.et,ir,er,I.ic,I.ec,ib,eb,I.ids++[(id,nr)]⟩ { t with rows:=t.rows++[row],basis:=t.basis++[b],flip:=t.flip++[f],fl:=fl' } c':=by
 have hlen:(t.rows++[row]).length=t.rows.length+1:=by simp
 refine ⟨?_,by simp [h.nids],fun _=>iv,fun i p r hp hr=>?_,fun r hr=>?_,?_,fun _=>rp,by simp [h.nb],by simp [h.nf],cz,bp,fun r hr=>?_,h.okc,h.bigW,by rw [hlen]; exact hm,h.real,fun x hx=>?_⟩
 ·rw [ai]; simp only [hlen,cw]
 ·rw [Ae] at hp hr
  by_cases hi:i<I.ids.length
  ·rw [List.getElem?_append_left hi,<- Ae] at hp
   rw [List.getElem?_append_left (by rw [<- h.nids]; exact hi),<- Ae] at hr
   rw [Ab (jq p (Al hp))]
   exact h.rowE i p r hp hr
  ·have u4:i=I.ids.length:=by
    have:=(List.getElem?_eq_some_iff.1 hp).1
    simp at this; omega
   rw [u4,List.getElem?_append_right (Nat.le_refl _),Nat.sub_self] at hp
   rw [u4,h.nids,List.getElem?_append_right (Nat.le_refl _),Nat.sub_self] at hr
   simp only [List.getElem?_cons_zero,Option.some.injEq] at hp hr
   subst hp; subst hr
   exact cr
 ·rcases List.mem_append.1 hr with hr|hr
  ·exact h.rowW r hr
  ·simp only [List.mem_singleton] at hr; subst hr; exact j7
 ·rw [Ab xm]; exact h.costE
 ·rcases List.mem_append.1 hr with hr|hr
  ·exact h.okr r hr
  ·simp only [List.mem_singleton] at hr; subst hr; exact kn
 ·rcases List.mem_append.1 hx with hx|hx
  ·exact h.bB x hx
  ·simp only [List.mem_singleton] at hx; subst hx; exact hb
structure Gh (S SS:List Ent) (iq eq:Nat) (I:TI) (t:Tb) (cp:Cap) (L nz n15 n16 n19:Nat) (z:Q) (r:RowT) (row:List Q) (u:Q):Prop where
 T:Ay SS iq eq I t cp
 low:LowQ I iq L t
 Z:entAt SS (S.length+1) nz=some (ceQ z)
 E15:entAt SS L n15=some (rowC r)
 E16:entAt SS (L+1) n16=some (flat ceQ row)
 E19:entAt SS (L+2) n19=some (ceQ u)
 len:SS.length=L+3
 fr:∀ j,j<S.length->j≠iq->nth SS j=nth S j
 qL:iq<S.length
 SL:S.length+3<=L
 ic:I.ic=S.length+2
section
variable {S SS S':List Ent} {iq eq:Nat} {I:TI} {t:Tb} {cp:Cap} {L nz n15 n16 n19:Nat} {z u:Q} {r:RowT} {row:List Q}
theorem Gh.flag {fl':Bool} (h:Gh S SS iq eq I t cp L nz n15 n16 n19 z r row u) (hS:∀ j,j≠iq->nth S' j=nth SS j) (hl:S'.length=SS.length) (hf:FAq S' iq eq fl') :
  Gh S S' iq eq I { t with fl:=fl' } cp L nz n15 n16 n19 z r row u:=by
 have hq:=h.qL
 have hL:=h.SL
 exact ⟨h.T.flag hS hf,h.low.of fun h=>h,by rw [Ab (hS _ (by omega))]; exact h.Z,by rw [Ab (hS _ (by omega))]; exact h.E15,by rw [Ab (hS _ (by omega))]; exact h.E16,by rw [Ab (hS _ (by omega))]; exact h.E19,by rw [hl]; exact h.len,fun j h1 h2=>by rw [hS j h2]; exact h.fr j h1 h2,hq,hL,h.ic⟩
theorem Gh.put (h:Gh S SS iq eq I t cp L nz n15 n16 n19 z r row u) (row':List Q):Gh S (put SS (L+1) ⟨n16,flat ceQ row'⟩) iq eq I t cp L nz n15 n16 n19 z r row' u:=by
 have hq:=h.qL
 have hL:=h.SL
 have hl:=h.len
 have key:∀ j,j≠L+1->nth (Go.Proofs.YtcjffhadclngmaaGreat.put SS (L+1) ⟨n16,flat ceQ row'⟩) j=nth SS j:=fun j hj=>Ac (Ne.symm hj)
 have hT:=h.T.frame (S':=Go.Proofs.YtcjffhadclngmaaGreat.put SS (L+1) ⟨n16,flat ceQ row'⟩) (fl':=t.fl) h.low (fun j h1 h2=>key j (by omega)) (h.T.fa.put (by omega))
 exact ⟨hT,h.low,by rw [Ab (key _ (by omega))]; exact h.Z,by rw [Ab (key _ (by omega))]; exact h.E15,Af (by omega),by rw [Ab (key _ (by omega))]; exact h.E19,by rw [Ah]; exact hl,fun j h1 h2=>by rw [key j (by omega)]; exact h.fr j h1 h2,hq,hL,h.ic⟩
theorem Gh.unit (h:Gh S SS iq eq I t cp L nz n15 n16 n19 z r row u) (u':Q):Gh S (Go.Proofs.YtcjffhadclngmaaGreat.put SS (L+2) ⟨n19,ceQ u'⟩) iq eq I t cp L nz n15 n16 n19 z r row u':=by
 have hq:=h.qL
 have hL:=h.SL
 have hl:=h.len
 have key:∀ j,j≠L+2->nth (Go.Proofs.YtcjffhadclngmaaGreat.put SS (L+2) ⟨n19,ceQ u'⟩) j=nth SS j:=fun j hj=>Ac (Ne.symm hj)
 have hT:=h.T.frame (S':=Go.Proofs.YtcjffhadclngmaaGreat.put SS (L+2) ⟨n19,ceQ u'⟩) (fl':=t.fl) h.low (fun j h1 h2=>key j (by omega)) (h.T.fa.put (by omega))
 exact ⟨hT,h.low,by rw [Ab (key _ (by omega))]; exact h.Z,by rw [Ab (key _ (by omega))]; exact h.E15,by rw [Ab (key _ (by omega))]; exact h.E16,Af (by omega),by rw [Ah]; exact hl,fun j h1 h2=>by rw [key j (by omega)]; exact h.fr j h1 h2,hq,hL,h.ic⟩
theorem Gh.cost {k':List Q} (h:Gh S SS iq eq I t cp L nz n15 n16 n19 z r row u) (hk:k'.length=t.cost.length) (ho:okL qF k'):Gh S (Go.Proofs.YtcjffhadclngmaaGreat.put SS I.ic ⟨I.ec,flat ceQ k'⟩) iq eq I { t with cost:=k' } cp L nz n15 n16 n19 z r row u:=by
 have hq:=h.qL
 have hL:=h.SL
 have hl:=h.len
 have hic:=h.ic
 have key:∀ j,j≠I.ic->nth (Go.Proofs.YtcjffhadclngmaaGreat.put SS I.ic ⟨I.ec,flat ceQ k'⟩) j=nth SS j:=fun j hj=>Ac (Ne.symm hj)
 have hT:=h.T.setCost (S':=Go.Proofs.YtcjffhadclngmaaGreat.put SS I.ic ⟨I.ec,flat ceQ k'⟩) (fl':=t.fl) hk ho (fun j h1 h2=>key j h1) (Af (by omega)) (h.T.fa.put (by omega))
 exact ⟨hT,h.low.of fun h=>h,by rw [Ab (key _ (by omega))]; exact h.Z,by rw [Ab (key _ (by omega))]; exact h.E15,by rw [Ab (key _ (by omega))]; exact h.E16,by rw [Ab (key _ (by omega))]; exact h.E19,by rw [Ah]; exact hl,fun j h1 h2=>by rw [key j (by omega)]; exact h.fr j h1 h2,hq,hL,h.ic⟩
end
end
section
open Go
def Aht (S:List Ent) (l:List RowT) (vars:List ByteArray) (fl:Bool) (k iq eq c W nz:Nat) (z:Q) (i:Nat) (st:St):Prop :=
 ∃ sl t1 I cp,i<=l.length/\Bj qF l vars fl=begS qF z vars c W (l.drop i) i sl t1/\Ay st.S iq eq I t1 cp/\t1.rows.length=i/\t1.cost.length=W/\t1.real=c/\t1.vars=vars.length/\sl+neqs (l.drop i)=c/\Be st.tk cp 1=true/\entAt st.S (S.length+1) nz=some (ceQ z)/\S.length+3<=st.S.length/\(∀ j,j<S.length->j≠iq->nth st.S j=nth S j)/\(I.it=S.length/\I.et=k/\I.ic=S.length+2)/\(S.length+2<I.ir/\S.length+2<I.ib/\∀ p ∈ I.ids,S.length+2<p.1) /\
  st.T.length=270/\getT st.T 0=.ifc 95 (.ref iq eq 0)/\getT st.T 1=.frz (l.map rowC) .unk/\getT st.T 2=.frz (vars.map strC) .unk/\getT st.T 7=.ref S.length k 0/\getT st.T 10=.int (sl:Nat)/\getT st.T 11=.int (W:Nat)/\getT st.T 12=.ref (S.length+1) nz 0/\getT st.T 83=.frz (l.map rowC) .unk/\getT st.T 84=.int (l.length:Nat)/\getT st.T 85=.int (i:Nat)
end
section
open Go Tryz
section
variable (S:List Ent) (l:List RowT) (vars:List ByteArray) (fl:Bool) (k iq eq c W nz:Nat) (z:Q)
set_option maxHeartbeats 20000000 in
set_option maxRecDepth 100000 in
theorem Aoh (hB:BegC S l vars iq c W) (Φ:Rs->Prop) (i:Nat) (bg:i<l.length) (r:RowT) (hr:nth l i=some r) (sl2:Nat) (jr:sl2+neqs (l.drop (i+1))=c) (t1:Tb) (I:TI) (cp:Cap) (tk:List Nat)
  (f9:t1.rows.length=i) (hcl:t1.cost.length=W) (dk:t1.real=c) (i9:t1.vars=vars.length) (ab:Be tk cp 1=true) (ba:I.it=S.length/\I.et=k/\I.ic=S.length+2) (ja:S.length+2<I.ir/\S.length+2<I.ib/\∀ p ∈ I.ids,S.length+2<p.1)
  (rowZ:List Q) (fr:Bool) (o3:rowZ.length=W) (orowZ:okL qF rowZ) (L m0 nu:Nat) (u:Q × Bool) (fb:Bool) (js:fb=D2 r) (SZ:List Ent) (n7 lv:Nat) (lw:Gh S SZ iq eq I { t1 with fl:=Bool.or t1.fl fr } cp L nz m0 (m0+1) nu z r rowZ u.1)
  (hR:Bj qF l vars fl=begS qF z vars c W (l.drop (i+1)) (i+1) sl2 { t1 with rows:=t1.rows++[rowZ],cost:=(costL qF c W 0 t1.cost rowZ).1,basis:=t1.basis++[c+i],flip:=t1.flip++[fb],fl:=Bool.or (Bool.or t1.fl fr) (costL qF c W 0 t1.cost rowZ).2 })
  (back:∀ st,Aht S l vars fl k iq eq c W nz z (i+1) st->Gd finM Φ (KA prog Tryz.f81 18 [] st))
  (T:List AV) (hT:T.length=270) (e0:getT T 0=.ifc 95 (.ref iq eq 0)) (e1:getT T 1=.frz (l.map rowC) .unk) (e2:getT T 2=.frz (vars.map strC) .unk) (e7:getT T 7=.ref S.length k 0) (e10:getT T 10=.int (sl2:Nat)) (e11:getT T 11=.int (W:Nat)) (e12:getT T 12=.ref (S.length+1) nz 0) (e14:getT T 14=.int (i:Nat)) (e15:getT T 15=.ref L m0 0) (e16:getT T 16=.sref (L+1) (m0+1) 0 W 2) (e18:getT T 18=.prim (.bool fb)) (e19:getT T 19=.ref (L+2) nu 0) (e83:getT T 83=.frz (l.map rowC) .unk) (e84:getT T 84=.int (l.length:Nat)) (e85:getT T 85=.int (i:Nat)) (e194:getT T 194=.int (W:Nat)) (e195:getT T 195=.int ((0:Nat):Int)) :
  Gd finM Φ (KA prog Tryz.f81 43 [lv] ⟨T,SZ,tk,n7⟩):=by
 obtain ⟨hl,jl,hv,hc,dd,k8,tf,uw⟩:=hB
 have y9:=Lx l
 have rq:IntKind.i64.wrap ((W:Int) - 1)=((W - 1:Nat):Int):=by rw [Ad (by unfold i64; omega)]; omega
 have i8:W - 1<W:=by omega
 have jt:IntKind.i64.wrap ((c:Int)+(i:Int))=((c+i:Nat):Int):=by rw [Ad (by unfold i64; omega)]; rfl
 have hwi:IntKind.i64.wrap ((i:Int)+1)=((i+1:Nat):Int):=by rw [Ad (by unfold i64; omega)]; rfl
 have tx:c+i<W:=by omega
 refine Ade rfl (t:=.mk) ?_
 refine Ef (P:=prog) (fun x st=>st.T.length=270/\(costL qF c W 0 t1.cost rowZ=(x.2.2.1++(costL qF c W x.2.2.1.length x.2.2.2.1 (rowZ.drop x.2.2.1.length)).1,Bool.or x.2.2.2.2 (costL qF c W x.2.2.1.length x.2.2.2.1 (rowZ.drop x.2.2.1.length)).2))/\(x.2.2.1.length+x.2.2.2.1.length=W)/\(Gh S x.1 iq eq I { t1 with cost:=x.2.2.1++x.2.2.2.1,fl:=Bool.or (Bool.or t1.fl fr) x.2.2.2.2 } cp L nz m0 (m0+1) nu z r rowZ u.1)/\getT st.T 0=.ifc 95 (.ref iq eq 0)/\getT st.T 1=.frz (l.map rowC) .unk/\getT st.T 2=.frz (vars.map strC) .unk/\getT st.T 7=.ref S.length k 0/\getT st.T 10=.int (sl2:Nat)/\getT st.T 11=.int (W:Nat)/\getT st.T 12=.ref (S.length+1) nz 0/\getT st.T 14=.int (i:Nat)/\getT st.T 15=.ref L m0 0/\getT st.T 16=.sref (L+1) (m0+1) 0 W 2/\getT st.T 18=.prim (.bool fb)/\getT st.T 19=.ref (L+2) nu 0/\getT st.T 83=.frz (l.map rowC) .unk/\getT st.T 84=.int (l.length:Nat)/\getT st.T 85=.int (i:Nat)/\getT st.T 194=.int (W:Nat)/\getT st.T 195=.int (x.2.2.1.length:Nat)/\st.S=x.1/\st.tk=tk/\st.n=x.2.1) (fun x=>x.2.2.2.1.length) (SZ,n7,([]:List Q),t1.cost,false) ?_ ?_
 case refine_2=>exact ⟨(by first|rfl|assumption),rfl,by simpa using hcl,by simp only [List.nil_append,Bool.or_false]; exact lw,(by first|rfl|assumption),(by first|rfl|assumption),(by first|rfl|assumption),(by first|rfl|assumption),(by first|rfl|assumption),(by first|rfl|assumption),(by first|rfl|assumption),(by first|rfl|assumption),(by first|rfl|assumption),(by first|rfl|assumption),(by first|rfl|assumption),(by first|rfl|assumption),(by first|rfl|assumption),(by first|rfl|assumption),(by first|rfl|assumption),(by first|rfl|assumption),(by first|rfl|assumption),(by first|rfl|assumption),(by first|rfl|assumption),(by first|rfl|assumption)⟩
 rintro ⟨SS,n1,p,v,fq⟩ ⟨T,S',tk',n'⟩ ⟨hl,j8,kq,ah,e0,e1,e2,e7,e10,e11,e12,e14,e15,e16,e18,e19,e83,e84,e85,e194,e195,eS,eT,eN⟩ IH
 simp only at j8 kq ah e0 e1 e2 e7 e10 e11 e12 e14 e15 e16 e18 e19 e83 e84 e85 e194 e195 eS eT eN
 subst eS eT eN
 obtain ⟨g,hg,hT⟩:=Av hl
 rw [hg] at e0 e1 e2 e7 e10 e11 e12 e14 e15 e16 e18 e19 e83 e84 e85 e194 e195
 subst hT
 clear hg hl
 have ft:(p++v).length=W:=by simpa using kq
 have fc:=ah.T.top
 simp only [ba.1,ba.2.1,ba.2.2,ft,dk,i9,f9,intA] at fc
 by_cases tj:p.length<W
 ·have c2:decide ((p.length:Int)<(W:Int))=true:=by simpa using tj
  obtain ⟨a0,v,rfl⟩:∃ a0 v',v=a0 :: v':=by
   cases v with
   | nil=>simp at kq; omega
   | cons x v=>exact ⟨x,v,rfl⟩
  obtain ⟨r0,bo⟩:=Ag (show p.length<rowZ.length by omega)
  have gt:=Bc bo
  have oa0:qF.ok a0:=ah.T.okc a0 (by simp)
  have or0:qF.ok r0:=orowZ r0 (Al bo)
  have hw:IntKind.i64.wrap ((p.length:Int)+1)=(((p++[a0]).length:Nat):Int):=by rw [Ad (by unfold i64; omega)]; simp
  have uz:v.length<(a0 :: v).length:=by simp
  have zo:∀ a:Q,(p++[a]).length=p.length+1:=fun a=>by simp
  rw [gt] at j8
  simp only [costL] at j8
  by_cases yv:p.length<c
  ·have c6:decide ((p.length:Int)<(c:Int))=true:=by simpa using yv
   have aj:H8 qF c W p.length a0 r0=qF.minus a0 r0:=by unfold H8; rw [if_pos (Or.inl yv)]
   have c7:=c6
   have c7b:=c6
   obtain ⟨y,hy⟩:∃ y,y=qF.minus a0 r0:=⟨_,rfl⟩
   have oy:qF.ok y.1:=by rw [hy]; exact Bz.minus _ _ oa0 or0
   rw [aj,<- hy] at j8
   have re:IntKind.i64.wrap ((p.length:Int)+1)=(((p++[y.1]).length:Nat):Int):=by rw [Ad (by unfold i64; omega)]; simp
   have cz:=ah.T.fa
   have jg:=ah.T.costE
   have m9:entAt S' (S.length+2) I.ec=some (flat ceQ (p++a0 :: v)):=by have h:=jg; rw [ba.2.2] at h; exact h
   have q6:=Ar (ce:=ceQ) Ao (Ee (p:=p) (u:=v) (x:=a0))
   have hrt:=Ar (ce:=ceQ) Ao bo
   have d9:=ah.E16
   have cq:=J4 S' tk' n' iq eq _ a0 r0 oa0 or0 cz
   have hg1:=D4 (c:=y.2) cz
   rw [<- hy] at cq
   obtain ⟨S1a,ju⟩:∃ S1a,S1a=flS S' iq eq y.2:=⟨_,rfl⟩
   have jb:=ah.flag (S':=flS S' iq eq y.2) (fun j hj=>Ax hj) Bd cz.fS
   rw [<- ju] at cq hg1 jb
   have o4:entAt S1a (S.length+2) I.ec=some (flat ceQ (p++a0 :: v)):=by have h:=jb.T.costE; rw [ba.2.2] at h; exact h
   have ho:=A4 (ce:=ceQ) Ao (l:=p++a0 :: v) (k:=p.length) (q':=y.1) (by simp)
   rw [Ge] at ho
   have fk:=jb.cost (k':=p++y.1 :: v) (by simp) (fun q hq=>by
    rcases List.mem_append.1 hq with h|h
    ·exact ah.T.okc q (by simp [h])
    ·rcases List.mem_cons.1 h with rfl|h
     ·exact oy
     ·exact ah.T.okc q (by simp [h]))
   rw [ba.2.2] at fk
   have io:∀ x,List.take S'.length (put S1a (S.length+2) x)=put S1a (S.length+2) x:=fun x=>List.take_of_length_le (by rw [Ah,jb.len,ah.len]; exact Nat.le_refl _)
   simp (maxSteps:=10^6)+contextual(disch:=try exact dqd)only[evg1,simprocAttr,AV.int,AV.bool,AV.str,results81,e0,e1,e2,e7,e10,e11,e12,e14,e15,e16,e18,e19,e83,e84,e85,e194,e195,c2,c6,c7,c7b,re,rq,fc,m9,q6,hrt,d9,tj,cq,hg1,o4,ho,io,D3,xfs,puQ,tkQ,Ao,Bg]
   exact IH (put S1a (S.length+2) ⟨I.ec,flat ceQ (p++y.1 :: v)⟩,n'+4,p++[y.1],v,Bool.or fq y.2) _ (by first|omega|(simp only; omega)) ⟨rfl,by rw [j8,zo]; simp only [List.append_assoc,List.cons_append,List.nil_append,Bool.or_assoc],by show (p++[y.1]).length+v.length=W; simp only [List.length_append,List.length_cons,List.length_nil] at kq ⊢; omega,by simpa only [List.append_assoc,List.cons_append,List.nil_append,Bool.or_assoc] using fk,by and_intros <;> first|rfl|simp only [getT,List.map_append,List.map_cons,List.map_nil]⟩
  ·have c6:decide ((p.length:Int)<(c:Int))=false:=by simpa using yv
   by_cases ci:p.length=W - 1
   ·have c7:decide ((p.length:Int)=((W - 1:Nat):Int))=true:=by exact decide_eq_true (by omega)
    have c7b:((p.length:Int) == ((W - 1:Nat):Int))=true:=by exact decide_eq_true (by omega)
    have aj:H8 qF c W p.length a0 r0=qF.minus a0 r0:=by unfold H8; rw [if_pos (Or.inr ci)]
    obtain ⟨y,hy⟩:∃ y,y=qF.minus a0 r0:=⟨_,rfl⟩
    have oy:qF.ok y.1:=by rw [hy]; exact Bz.minus _ _ oa0 or0
    rw [aj,<- hy] at j8
    have re:IntKind.i64.wrap ((p.length:Int)+1)=(((p++[y.1]).length:Nat):Int):=by rw [Ad (by unfold i64; omega)]; simp
    have cz:=ah.T.fa
    have jg:=ah.T.costE
    have m9:entAt S' (S.length+2) I.ec=some (flat ceQ (p++a0 :: v)):=by have h:=jg; rw [ba.2.2] at h; exact h
    have q6:=Ar (ce:=ceQ) Ao (Ee (p:=p) (u:=v) (x:=a0))
    have hrt:=Ar (ce:=ceQ) Ao bo
    have d9:=ah.E16
    have cq:=J4 S' tk' n' iq eq _ a0 r0 oa0 or0 cz
    have hg1:=D4 (c:=y.2) cz
    rw [<- hy] at cq
    obtain ⟨S1a,ju⟩:∃ S1a,S1a=flS S' iq eq y.2:=⟨_,rfl⟩
    have jb:=ah.flag (S':=flS S' iq eq y.2) (fun j hj=>Ax hj) Bd cz.fS
    rw [<- ju] at cq hg1 jb
    have o4:entAt S1a (S.length+2) I.ec=some (flat ceQ (p++a0 :: v)):=by have h:=jb.T.costE; rw [ba.2.2] at h; exact h
    have ho:=A4 (ce:=ceQ) Ao (l:=p++a0 :: v) (k:=p.length) (q':=y.1) (by simp)
    rw [Ge] at ho
    have fk:=jb.cost (k':=p++y.1 :: v) (by simp) (fun q hq=>by
     rcases List.mem_append.1 hq with h|h
     ·exact ah.T.okc q (by simp [h])
     ·rcases List.mem_cons.1 h with rfl|h
      ·exact oy
      ·exact ah.T.okc q (by simp [h]))
    rw [ba.2.2] at fk
    have io:∀ x,List.take S'.length (put S1a (S.length+2) x)=put S1a (S.length+2) x:=fun x=>List.take_of_length_le (by rw [Ah,jb.len,ah.len]; exact Nat.le_refl _)
    simp (maxSteps:=10^6)+contextual(disch:=try exact dqd)only[evg1,simprocAttr,AV.int,AV.bool,AV.str,results81,e0,e1,e2,e7,e10,e11,e12,e14,e15,e16,e18,e19,e83,e84,e85,e194,e195,c2,c6,c7,c7b,re,rq,fc,m9,q6,hrt,d9,tj,cq,hg1,o4,ho,io,D3,xfs,puQ,tkQ,Ao,Bg]
    exact IH (put S1a (S.length+2) ⟨I.ec,flat ceQ (p++y.1 :: v)⟩,n'+4,p++[y.1],v,Bool.or fq y.2) _ (by first|omega|(simp only; omega)) ⟨rfl,by rw [j8,zo]; simp only [List.append_assoc,List.cons_append,List.nil_append,Bool.or_assoc],by show (p++[y.1]).length+v.length=W; simp only [List.length_append,List.length_cons,List.length_nil] at kq ⊢; omega,by simpa only [List.append_assoc,List.cons_append,List.nil_append,Bool.or_assoc] using fk,by and_intros <;> first|rfl|simp only [getT,List.map_append,List.map_cons,List.map_nil]⟩
   ·have xn:¬ ((p.length:Int)=((W - 1:Nat):Int)):=fun h=>ci (by omega)
    have c7:decide ((p.length:Int)=((W - 1:Nat):Int))=false:=by simpa using xn
    have c7b:((p.length:Int) == ((W - 1:Nat):Int))=false:=by simpa using xn
    have aj:H8 qF c W p.length a0 r0=(a0,false):=by unfold H8; rw [if_neg (by omega)]
    rw [aj] at j8
    simp (maxSteps:=10^6)+contextual(disch:=try exact dqd)only[evg1,simprocAttr,AV.int,AV.bool,AV.str,results81,e0,e1,e2,e7,e10,e11,e12,e14,e15,e16,e18,e19,e83,e84,e85,e194,e195,c2,c6,c7,c7b,hw,rq,fc]
    exact IH (S',n',p++[a0],v,fq) _ (by first|omega|(simp only; omega)) ⟨rfl,by rw [j8,zo]; simp only [List.append_assoc,List.cons_append,List.nil_append,Bool.false_or],by show (p++[a0]).length+v.length=W; simp only [List.length_append,List.length_cons,List.length_nil] at kq ⊢; omega,by simpa using ah,by and_intros <;> first|rfl|simp only [getT,List.map_append,List.map_cons,List.map_nil]⟩
 ·have c2:decide ((p.length:Int)<(W:Int))=false:=by simpa using tj
  have xo:v=[]:=List.length_eq_zero_iff.1 (by omega)
  subst xo
  simp only [costL,List.append_nil,Bool.or_false] at j8 ah ft fc
  rw [j8] at hR
  simp only at hR
  clear IH j8
  obtain ⟨m7,hm7⟩:∃ m7,m7=n':=⟨_,rfl⟩
  subst hm7
  obtain ⟨SW,hSW⟩:∃ SW,SW=S':=⟨_,rfl⟩
  subst hSW
  have zp:=ah.len
  have hSL:=ah.SL
  have hqL:=ah.qL
  have pu:(t1.flip.map D5).length+1<=1048576:=by rw [List.length_map,ah.T.nf]; simp only; omega
  have hfo:Da 1 (t1.flip.map D5)=true:=by
   unfold Da
   rw [List.all_eq_true]
   intro e he
   obtain ⟨b,-,rfl⟩:=List.mem_map.1 he
   rfl
  have bp:=apB_one (y:=[.prim (.bool fb)]) ab hfo rfl pu
  have d7:=Bv ab
  have xp:(t1.flip++[fb]).map D5=t1.flip.map D5++[[.prim (.bool fb)]]:=by simp [D5]
  rcases Nat.eq_zero_or_pos i with j9|j9
  ·rw [j9] at fc
   simp only [cw] at fc
   have xq:S.length<SW.length:=by omega
   have hP:∀ e x:Ent,put (SW++[e]) S.length x=put SW S.length x++[e]:=fun e x=>Dd xq
   have hQ:∀ y e x:Ent,put (put SW S.length y++[e]) S.length x=put SW S.length x++[e]:=fun y e x=>by rw [Dd (by rw [Ah]; exact xq),Mw]
   have zh:∀ y e e' x:Ent,put (put SW S.length y++[e]++[e']) S.length x=put SW S.length x++[e]++[e']:=fun y e e' x=>by rw [Dd (by rw [List.length_append,Ah]; omega),hQ]
   have hE:∀ cs,entAt (put SW S.length ⟨k,cs⟩) S.length k=some cs:=fun cs=>Af xq
   have hEa:∀ cs e,entAt (put SW S.length ⟨k,cs⟩++[e]) S.length k=some cs:=fun cs e=>Aa (hE cs)
   have hEb:∀ cs e e',entAt (put SW S.length ⟨k,cs⟩++[e]++[e']) S.length k=some cs:=fun cs e e'=>Aa (hEa cs e)
   have j0:∀ e,entAt (SW++[e]) S.length k=_:=fun e=>Aa fc
   have uc:∀ y e:Ent,(put SW S.length y++[e]).length=L+4:=fun y e=>by rw [List.length_append,Ah,zp]; rfl
   have rt:∀ S n,apO prog 137 (.frz [] .nilc) (.lit 1 [.sref (L+1) (m0+1) 0 W 2]) S n=some (.sref S.length n 0 1 1,S++[⟨n,[.sref (L+1) (m0+1) 0 W 2]⟩],n+1):=fun S n=>Adv (by kernel_rfl) rfl
   have ru:∀ (c:Cap) x S n,apO prog 37 (.frz [] .nilc) (.frz [[.prim (.int .i64 x)]] c) S n=some (.sref S.length n 0 1 1,S++[⟨n,[.prim (.int .i64 x)]⟩],n+1):=fun c x S n=>Ah7 (by kernel_rfl) rfl
   simp (maxSteps:=10^6)+contextual(disch:=try exact dqd)only[evg1,simprocAttr,AV.int,AV.bool,AV.str,results81,e0,e1,e2,e7,e10,e11,e12,e14,e15,e16,e18,e19,e83,e84,e85,e194,e195,c2,fc,j0,jt,hwi,bp,rt,ru,P6,hP,hQ,zh,hE,hEa,hEb,uc,zp]
   have hne:0<i->t1.rows≠[]:=fun h=>by omega
   have jq:I.ids=[]:=List.length_eq_zero_iff.1 (by rw [ah.T.nids]; simp only; omega)
   have rp:t1.basis=[]:=List.length_eq_zero_iff.1 (by have:=ah.T.nb; simp only at this; omega)
   obtain ⟨SF,jv⟩:∃ SF,SF=put SW S.length ⟨k,[.ifc 95 (.ref iq eq 0),.int (vars.length:Nat),.int (c:Nat),.sref (L+3) m7 0 1 1,.sref (S.length+2) I.ec 0 W 2,.sref (L+4) (m7+1) 0 1 1,.frz (t1.flip.map D5++[[.prim (.bool fb)]]) (Bb tk' cp 1)]⟩++[⟨m7,[.sref (L+1) (m0+1) 0 W 2]⟩]++[⟨m7+1,[.prim (.int .i64 ((c+i:Nat):Int))]⟩]:=⟨_,rfl⟩
   rw [<- jv]
   have t6:(put SW S.length ⟨k,[.ifc 95 (.ref iq eq 0),.int (vars.length:Nat),.int (c:Nat),.sref (L+3) m7 0 1 1,.sref (S.length+2) I.ec 0 W 2,.sref (L+4) (m7+1) 0 1 1,.frz (t1.flip.map D5++[[.prim (.bool fb)]]) (Bb tk' cp 1)]⟩).length=L+3:=by rw [Ah,zp]
   have htF:entAt SF S.length k=some [.ifc 95 (.ref iq eq 0),.int (vars.length:Nat),.int (c:Nat),.sref (L+3) m7 0 (i+1) 1,.sref (S.length+2) I.ec 0 W 2,.sref (L+4) (m7+1) 0 (i+1) 1,.frz (t1.flip.map D5++[[.prim (.bool fb)]]) (Bb tk' cp 1)]:=by rw [jv,hEb,j9]
   have hrF:entAt SF (L+3) m7=some ((I.ids++[(L+1,m0+1)]).map (gt W 2)):=by rw [jv,jq]; exact Aa (Ai t6)
   have hbF:entAt SF (L+4) (m7+1)=some ((t1.basis++[c+i]).map intA):=by rw [jv,rp]; exact Ai (by rw [List.length_append,t6]; rfl)
   have jw:∀ j,j<L+3->j≠S.length->(0<i->j≠I.ir/\j≠I.ib)->nth SF j=nth SW j:=fun j h1 h2 _=>by
    rw [jv,A6 (by rw [List.length_append,t6]; omega),A6 (by rw [t6]; exact h1),Ac (Ne.symm h2)]
   have hlF:SF.length=L+5:=by rw [jv,List.length_append,List.length_append,t6]; rfl
   have hIR:S.length+2<L+3:=by omega
   have hIB:S.length+2<L+4:=by omega
   have hAp:Apart ⟨I.it,I.et,L+3,m7,I.ic,I.ec,L+4,m7+1,I.ids++[(L+1,m0+1)]⟩ iq:=by
    rw [jq]
    constructor <;> first|(simp only; omega)|skip
    ·intro q hq
     simp only [List.nil_append,List.mem_singleton] at hq
     subst hq
     simp only
     exact ⟨by omega,by omega,by omega,by omega,by omega⟩
    ·intro a b x y hx hy hab
     have h1:=Bk hx
     have h2:=Bk hy
     simp only [List.nil_append,List.length_cons,List.length_nil] at h1 h2
     omega
   have hRA:Ay SF iq eq ⟨I.it,I.et,(L+3),m7,I.ic,I.ec,(L+4),(m7+1),I.ids++[(L+1,m0+1)]⟩ { t1 with rows:=t1.rows++[rowZ],cost:=p,basis:=t1.basis++[c+i],flip:=t1.flip++[fb],fl:=Bool.or (Bool.or t1.fl fr) fq } (Bb tk' cp 1):=by
    have di:p.length=W:=ft
    refine ah.T.add (b:=c+i) (f:=fb) ?_ ?_ hbF ?_ (by show rowZ.length=p.length; omega) orowZ (fun q hq=>?_) ?_ (ah.T.fa.of (jw iq (by omega) (by omega) (fun _=>⟨by omega,by omega⟩))) hAp (by show t1.rows.length+1<=1000000; omega) (by show c+i<p.length; omega)
    ·rw [ba.1,ba.2.1,htF,xp]; simp only [ba.2.2,di,dk,i9,f9,intA]
    ·rw [hrF]; simp only [di]
    ·rw [Ab (jw (L+1) (by omega) (by omega) (fun h=>⟨by have:=ah.low.ir (hne h); omega,by have:=ah.low.ib (hne h); omega⟩))]; exact ah.E16
    ·have b9:=ah.T.ap.row q hq
     have hq2:=ah.low.row q hq
     exact jw q.1 (by omega) (by have:=ja.2.2 q hq; omega) (fun _=>⟨b9.2.1,b9.2.2.2.1⟩)
    ·exact jw _ (by have:=ah.low.ic; omega) (by omega) (fun _=>⟨ah.T.ap.rc.symm,ah.T.ap.cb⟩)
   refine Ph rfl (back _ ⟨sl2,_,_,Bb tk' cp 1,by omega,hR,hRA,by simp [f9],ft,dk,i9,jr,d7,?_,?_,fun j h1 h2=>?_,⟨ba.1,ba.2.1,ba.2.2⟩,⟨hIR,hIB,fun q hq=>?_⟩,rfl,rfl,rfl,rfl,rfl,rfl,rfl,rfl,rfl,rfl,rfl⟩)
   ·show entAt SF _ _=_
    rw [Ab (jw _ (by omega) (by omega) (fun _=>⟨by omega,by omega⟩))]; exact ah.Z
   ·show _<=SF.length
    omega
   ·show nth SF j=_
    rw [jw j (by omega) (by omega) (fun _=>⟨by omega,by omega⟩)]; exact ah.fr j h1 h2
   ·rcases List.mem_append.1 hq with hq|hq
    ·exact ja.2.2 q hq
    ·simp only [List.mem_singleton] at hq; subst hq; simp only; omega
  ·rw [Ba j9,Ba j9] at fc
   have hne:0<i->t1.rows≠[]:=fun h h0=>by rw [h0] at f9; simp only [List.length_nil] at f9; omega
   have xq:S.length<SW.length:=by omega
   have bp:=ah.T.ap
   have a2v:I.ir<L:=ah.low.ir (hne j9)
   have a2w:I.ib<L:=ah.low.ib (hne j9)
   have hrb:=bp.rb
   have jn:entAt SW I.ir I.er=some (I.ids.map (gt W 2)):=by have h:=ah.T.rowsE (hne j9); simp only [ft] at h; exact h
   have pf:entAt SW I.ib I.eb=some (t1.basis.map intA):=ah.T.basisE (hne j9)
   have j7:(I.ids.map (gt W 2)).length=i:=by rw [List.length_map,ah.T.nids]; exact f9
   have zq:(t1.basis.map intA).length=i:=by rw [List.length_map]; have:=ah.T.nb; simp only at this; omega
   obtain ⟨U1,ud⟩:∃ U1,U1=put SW I.ir ⟨m7,I.ids.map (gt W 2)++[.sref (L+1) (m0+1) 0 W 2]⟩:=⟨_,rfl⟩
   have hl1:U1.length=L+3:=by rw [ud,Ah]; exact zp
   have bv:entAt U1 S.length k=some [.ifc 95 (.ref iq eq 0),.int (vars.length:Nat),.int (c:Nat),.sref I.ir I.er 0 i 1,.sref (S.length+2) I.ec 0 W 2,.sref I.ib I.eb 0 i 1,.frz (t1.flip.map D5) cp]:=by rw [ud,Aj (by omega)]; exact fc
   obtain ⟨U2,ue⟩:∃ U2,U2=put U1 S.length ⟨k,[.ifc 95 (.ref iq eq 0),.int (vars.length:Nat),.int (c:Nat),.sref I.ir m7 0 (i+1) 1,.sref (S.length+2) I.ec 0 W 2,.sref I.ib I.eb 0 i 1,.frz (t1.flip.map D5) cp]⟩:=⟨_,rfl⟩
   have hl2:U2.length=L+3:=by rw [ue,Ah]; exact hl1
   have ls:entAt U2 S.length k=some [.ifc 95 (.ref iq eq 0),.int (vars.length:Nat),.int (c:Nat),.sref I.ir m7 0 (i+1) 1,.sref (S.length+2) I.ec 0 W 2,.sref I.ib I.eb 0 i 1,.frz (t1.flip.map D5) cp]:=by rw [ue]; exact Af (by omega)
   have hb2:entAt U2 I.ib I.eb=some (t1.basis.map intA):=by rw [ue,Aj (by omega),ud,Aj hrb]; exact pf
   obtain ⟨U3,uf⟩:∃ U3,U3=put U2 I.ib ⟨m7+1,t1.basis.map intA++[.prim (.int .i64 ((c+i:Nat):Int))]⟩:=⟨_,rfl⟩
   have dx:U3.length=L+3:=by rw [uf,Ah]; exact hl2
   have nk:entAt U3 S.length k=some [.ifc 95 (.ref iq eq 0),.int (vars.length:Nat),.int (c:Nat),.sref I.ir m7 0 (i+1) 1,.sref (S.length+2) I.ec 0 W 2,.sref I.ib I.eb 0 i 1,.frz (t1.flip.map D5) cp]:=by rw [uf,Aj (by omega)]; exact ls
   obtain ⟨U4,ug⟩:∃ U4,U4=put U3 S.length ⟨k,[.ifc 95 (.ref iq eq 0),.int (vars.length:Nat),.int (c:Nat),.sref I.ir m7 0 (i+1) 1,.sref (S.length+2) I.ec 0 W 2,.sref I.ib (m7+1) 0 (i+1) 1,.frz (t1.flip.map D5) cp]⟩:=⟨_,rfl⟩
   have n0:U4.length=L+3:=by rw [ug,Ah]; exact dx
   have u3:entAt U4 S.length k=some [.ifc 95 (.ref iq eq 0),.int (vars.length:Nat),.int (c:Nat),.sref I.ir m7 0 (i+1) 1,.sref (S.length+2) I.ec 0 W 2,.sref I.ib (m7+1) 0 (i+1) 1,.frz (t1.flip.map D5) cp]:=by rw [ug]; exact Af (by omega)
   obtain ⟨SF,jv⟩:∃ SF,SF=put U4 S.length ⟨k,[.ifc 95 (.ref iq eq 0),.int (vars.length:Nat),.int (c:Nat),.sref I.ir m7 0 (i+1) 1,.sref (S.length+2) I.ec 0 W 2,.sref I.ib (m7+1) 0 (i+1) 1,.frz (t1.flip.map D5++[[.prim (.bool fb)]]) (Bb tk' cp 1)]⟩:=⟨_,rfl⟩
   have hlF:SF.length=L+3:=by rw [jv,Ah]; exact n0
   have a05:=apB_one (y:=[.prim (.bool fb)]) ab hfo rfl pu
   have rt:apO prog 137 (.sref I.ir I.er 0 i 1) (.lit 1 [.sref (L+1) (m0+1) 0 W 2]) SW m7=some (.sref I.ir m7 0 (i+1) 1,U1,m7+1):=by rw [ud]; exact Abz (by kernel_rfl) rfl jn j7 j9 (by omega)
   have ru:∀ cc:Cap,apO prog 37 (.sref I.ib I.eb 0 i 1) (.frz [[.prim (.int .i64 ((c+i:Nat):Int))]] cc) U2 (m7+1)=some (.sref I.ib (m7+1) 0 (i+1) 1,U3,m7+1+1):=fun cc=>by rw [uf]; exact Aad (by kernel_rfl) rfl hb2 zq j9 (by omega)
   have d6:=ue.symm
   have uh:=ug.symm
   have hs5:=jv.symm
   simp (maxSteps:=10^6)+contextual(disch:=try exact dqd)only[evg1,simprocAttr,AV.int,AV.bool,AV.str,results81,e0,e1,e2,e7,e10,e11,e12,e14,e15,e16,e18,e19,e83,e84,e85,e194,e195,c2,fc,jt,hwi,a05,rt,ru,P6,bv,ls,nk,u3,d6,uh,hs5]
   have htF:entAt SF S.length k=some [.ifc 95 (.ref iq eq 0),.int (vars.length:Nat),.int (c:Nat),.sref I.ir m7 0 (i+1) 1,.sref (S.length+2) I.ec 0 W 2,.sref I.ib (m7+1) 0 (i+1) 1,.frz (t1.flip.map D5++[[.prim (.bool fb)]]) (Bb tk' cp 1)]:=by rw [jv]; exact Af (by omega)
   have hrF:entAt SF I.ir m7=some ((I.ids++[(L+1,m0+1)]).map (gt W 2)):=by
    rw [jv,Aj (by omega),ug,Aj (by omega),uf,Aj (Ne.symm hrb),ue,Aj (by omega),ud,Af (by omega)]
    simp [gt]
   have hbF:entAt SF I.ib (m7+1)=some ((t1.basis++[c+i]).map intA):=by
    rw [jv,Aj (by omega),ug,Aj (by omega),uf,Af (by omega)]
    simp [intA]
   have jw:∀ j,j<L+3->j≠S.length->(0<i->j≠I.ir/\j≠I.ib)->nth SF j=nth SW j:=fun j h1 h2 h3=>by
    have h4:=h3 j9
    rw [jv,Ac (Ne.symm h2),ug,Ac (Ne.symm h2),uf,Ac (Ne.symm h4.2),ue,Ac (Ne.symm h2),ud,Ac (Ne.symm h4.1)]
   have hIR:S.length+2<I.ir:=ja.1
   have hIB:S.length+2<I.ib:=ja.2.1
   have hAp:Apart ⟨I.it,I.et,I.ir,m7,I.ic,I.ec,I.ib,m7+1,I.ids++[(L+1,m0+1)]⟩ iq:=by
    refine ⟨bp.tr,bp.tc,bp.tb,bp.rc,bp.rb,bp.cb,bp.qt,bp.qr,bp.qc,bp.qb,fun q hq=>?_,fun a b x y hx hy hab=>?_⟩
    ·rcases List.mem_append.1 hq with hq|hq
     ·exact bp.row q hq
     ·simp only [List.mem_singleton] at hq
      subst hq
      simp only
      exact ⟨by omega,by omega,by omega,by omega,by omega⟩
    ·have h1:=Bk hx
     have h2:=Bk hy
     rw [List.length_append] at h1 h2
     simp only [List.length_cons,List.length_nil] at h1 h2
     rw [Ae] at hx hy
     by_cases ha:a<I.ids.length
     ·rw [List.getElem?_append_left ha,<- Ae] at hx
      by_cases hb:b<I.ids.length
      ·rw [List.getElem?_append_left hb,<- Ae] at hy
       exact bp.rows a b x y hx hy hab
      ·have hb2:b=I.ids.length:=by omega
       rw [hb2,List.getElem?_append_right (Nat.le_refl _),Nat.sub_self] at hy
       simp only [List.getElem?_cons_zero,Option.some.injEq] at hy
       subst hy
       have:=ah.low.row x (Al hx)
       simp only; omega
     ·have mz:a=I.ids.length:=by omega
      have hb:b<I.ids.length:=by omega
      rw [mz,List.getElem?_append_right (Nat.le_refl _),Nat.sub_self] at hx
      simp only [List.getElem?_cons_zero,Option.some.injEq] at hx
      subst hx
      rw [List.getElem?_append_left hb,<- Ae] at hy
      have:=ah.low.row y (Al hy)
      simp only; omega
   have hRA:Ay SF iq eq ⟨I.it,I.et,I.ir,m7,I.ic,I.ec,I.ib,(m7+1),I.ids++[(L+1,m0+1)]⟩ { t1 with rows:=t1.rows++[rowZ],cost:=p,basis:=t1.basis++[c+i],flip:=t1.flip++[fb],fl:=Bool.or (Bool.or t1.fl fr) fq } (Bb tk' cp 1):=by
    have di:p.length=W:=ft
    refine ah.T.add (b:=c+i) (f:=fb) ?_ ?_ hbF ?_ (by show rowZ.length=p.length; omega) orowZ (fun q hq=>?_) ?_ (ah.T.fa.of (jw iq (by omega) (by omega) (fun _=>⟨by omega,by omega⟩))) hAp (by show t1.rows.length+1<=1000000; omega) (by show c+i<p.length; omega)
    ·rw [ba.1,ba.2.1,htF,xp]; simp only [ba.2.2,di,dk,i9,f9,intA]
    ·rw [hrF]; simp only [di]
    ·rw [Ab (jw (L+1) (by omega) (by omega) (fun h=>⟨by have:=ah.low.ir (hne h); omega,by have:=ah.low.ib (hne h); omega⟩))]; exact ah.E16
    ·have b9:=ah.T.ap.row q hq
     have hq2:=ah.low.row q hq
     exact jw q.1 (by omega) (by have:=ja.2.2 q hq; omega) (fun _=>⟨b9.2.1,b9.2.2.2.1⟩)
    ·exact jw _ (by have:=ah.low.ic; omega) (by omega) (fun _=>⟨ah.T.ap.rc.symm,ah.T.ap.cb⟩)
   refine Ph rfl (back _ ⟨sl2,_,_,Bb tk' cp 1,by omega,hR,hRA,by simp [f9],ft,dk,i9,jr,d7,?_,?_,fun j h1 h2=>?_,⟨ba.1,ba.2.1,ba.2.2⟩,⟨hIR,hIB,fun q hq=>?_⟩,rfl,rfl,rfl,rfl,rfl,rfl,rfl,rfl,rfl,rfl,rfl⟩)
   ·show entAt SF _ _=_
    rw [Ab (jw _ (by omega) (by omega) (fun _=>⟨by omega,by omega⟩))]; exact ah.Z
   ·show _<=SF.length
    omega
   ·show nth SF j=_
    rw [jw j (by omega) (by omega) (fun _=>⟨by omega,by omega⟩)]; exact ah.fr j h1 h2
   ·rcases List.mem_append.1 hq with hq|hq
    ·exact ja.2.2 q hq
    ·simp only [List.mem_singleton] at hq; subst hq; simp only; omega
end
end
section
open Go Tryz
section
variable (S:List Ent) (l:List RowT) (vars:List ByteArray) (fl:Bool) (k iq eq c W nz:Nat) (z:Q)
set_option maxHeartbeats 20000000 in
set_option maxRecDepth 100000 in
theorem Apr (hB:BegC S l vars iq c W) (oz:qF.ok z) (Φ:Rs->Prop) (i:Nat) (bg:i<l.length) (r:RowT) (hr:nth l i=some r) (sl:Nat) (mw:sl+neqs (l.drop i)=c) (t1:Tb) (I:TI) (cp:Cap) (tk:List Nat)
  (f9:t1.rows.length=i) (hcl:t1.cost.length=W) (dk:t1.real=c) (i9:t1.vars=vars.length) (ab:Be tk cp 1=true) (ba:I.it=S.length/\I.et=k/\I.ic=S.length+2) (ja:S.length+2<I.ir/\S.length+2<I.ib/\∀ p ∈ I.ids,S.length+2<p.1)
  (L m0 nu:Nat) (u:Q × Bool) (hU:Jr qF (D2 r)=u) (ou:qF.ok u.1) (SX:List Ent) (nx lv:Nat) (gb:Gh S SX iq eq I { t1 with fl:=Bool.or t1.fl u.2 } cp L nz m0 (m0+1) nu z r (List.replicate W z) u.1)
  (hR:Bj qF l vars fl=begS qF z vars c W (l.drop i) i sl t1)
  (back:∀ st,Aht S l vars fl k iq eq c W nz z (i+1) st->Gd finM Φ (KA prog Tryz.f81 18 [] st))
  (T:List AV) (hT:T.length=270) (e0:getT T 0=.ifc 95 (.ref iq eq 0)) (e1:getT T 1=.frz (l.map rowC) .unk) (e2:getT T 2=.frz (vars.map strC) .unk) (e7:getT T 7=.ref S.length k 0) (e10:getT T 10=.int (sl:Nat)) (e11:getT T 11=.int (W:Nat)) (e12:getT T 12=.ref (S.length+1) nz 0) (e14:getT T 14=.int (i:Nat)) (e15:getT T 15=.ref L m0 0) (e16:getT T 16=.sref (L+1) (m0+1) 0 W 2) (e18:getT T 18=.prim (.bool (D2 r))) (e19:getT T 19=.ref (L+2) nu 0) (e83:getT T 83=.frz (l.map rowC) .unk) (e84:getT T 84=.int (l.length:Nat)) (e85:getT T 85=.int (i:Nat)) (e113:getT T 113=.frz (r.1.map Dv) .unk) (e114:getT T 114=.int (r.1.length:Nat)) (e115:getT T 115=.int ((0:Nat):Int)) :
  Gd finM Φ (KA prog Tryz.f81 31 [lv] ⟨T,SX,tk,nx⟩):=by
 have hB2:=hB
 obtain ⟨hl,jl,hv,hc,dd,k8,tf,uw⟩:=hB2
 have y9:=Lx l
 have ui:r ∈ l:=Al hr
 have lx:i64 r.2.1:=(hc r ui).1
 refine Ade rfl (t:=.mk) ?_
 refine Ef (P:=prog) (fun x st=>st.T.length=270/\(x.2.2.1<=r.1.length)/\(coefsC qF u.1 z vars r.1 (List.replicate W z)=((coefsC qF u.1 z vars (r.1.drop x.2.2.1) x.2.2.2.1).1,Bool.or x.2.2.2.2 (coefsC qF u.1 z vars (r.1.drop x.2.2.1) x.2.2.2.1).2))/\(x.2.2.2.1.length=W)/\(okL qF x.2.2.2.1)/\(Gh S x.1 iq eq I { t1 with fl:=Bool.or (Bool.or t1.fl u.2) x.2.2.2.2 } cp L nz m0 (m0+1) nu z r x.2.2.2.1 u.1)/\getT st.T 0=.ifc 95 (.ref iq eq 0)/\getT st.T 1=.frz (l.map rowC) .unk/\getT st.T 2=.frz (vars.map strC) .unk/\getT st.T 7=.ref S.length k 0/\getT st.T 10=.int (sl:Nat)/\getT st.T 11=.int (W:Nat)/\getT st.T 12=.ref (S.length+1) nz 0/\getT st.T 14=.int (i:Nat)/\getT st.T 15=.ref L m0 0/\getT st.T 16=.sref (L+1) (m0+1) 0 W 2/\getT st.T 18=.prim (.bool (D2 r))/\getT st.T 19=.ref (L+2) nu 0/\getT st.T 83=.frz (l.map rowC) .unk/\getT st.T 84=.int (l.length:Nat)/\getT st.T 85=.int (i:Nat)/\getT st.T 113=.frz (r.1.map Dv) .unk/\getT st.T 114=.int (r.1.length:Nat)/\getT st.T 115=.int (x.2.2.1:Nat)/\st.S=x.1/\st.tk=tk/\st.n=x.2.1) (fun x=>r.1.length - x.2.2.1) (SX,nx,0,(List.replicate W z),false) ?_ ?_
 case refine_2=>exact ⟨(by first|rfl|assumption),Nat.zero_le _,rfl,by simp,fun q hq=>by rw [List.mem_replicate] at hq; rw [hq.2]; exact oz,by simp only [Bool.or_false]; exact gb,(by first|rfl|assumption),(by first|rfl|assumption),(by first|rfl|assumption),(by first|rfl|assumption),(by first|rfl|assumption),(by first|rfl|assumption),(by first|rfl|assumption),(by first|rfl|assumption),(by first|rfl|assumption),(by first|rfl|assumption),(by first|rfl|assumption),(by first|rfl|assumption),(by first|rfl|assumption),(by first|rfl|assumption),(by first|rfl|assumption),(by first|rfl|assumption),(by first|rfl|assumption),(by first|rfl|assumption),(by first|rfl|assumption),(by first|rfl|assumption),(by first|rfl|assumption)⟩
 rintro ⟨SS,n1,j,row,f1⟩ ⟨T,S',tk',n'⟩ ⟨hl,oq,ke,dn,orow,gb,e0,e1,e2,e7,e10,e11,e12,e14,e15,e16,e18,e19,e83,e84,e85,e113,e114,e115,eS,eT,eN⟩ IH
 simp only at oq ke dn orow gb e0 e1 e2 e7 e10 e11 e12 e14 e15 e16 e18 e19 e83 e84 e85 e113 e114 e115 eS eT eN
 subst eS eT eN
 obtain ⟨g,hg,hT⟩:=Av hl
 rw [hg] at e0 e1 e2 e7 e10 e11 e12 e14 e15 e16 e18 e19 e83 e84 e85 e113 e114 e115
 subst hT
 clear hg hl
 have lj:=dd r ui
 by_cases rn:j<r.1.length
 ·have c2:decide ((j:Int)<(r.1.length:Int))=true:=by simpa using rn
  have hw:IntKind.i64.wrap ((j:Int)+1)=((j+1:Nat):Int):=by rw [Ad (by unfold i64; omega)]; rfl
  obtain ⟨ct,xr⟩:=Ag rn
  have xt:nth (r.1.map Dv) j=some [.prim (.string ct.1),.prim (.int .i64 ct.2)]:=by rw [El,xr]; rfl
  have p6:ct ∈ r.1:=Al xr
  have nh:=Lk (hv r ui ct p6)
  obtain ⟨x,hx⟩:∃ x,x=idxV vars ct.1:=⟨_,rfl⟩
  rw [<- hx] at nh
  have j1:=fun S tk k=>Nv S tk k vars ct.1 (by omega)
  simp only [nh.1] at j1
  have hb1:2*x<W:=by omega
  have hb2:2*x+1<W:=by omega
  have xu:IntKind.i64.wrap (2*(x:Int))=((2*x:Nat):Int):=by rw [Ad (by unfold i64; omega)]; rfl
  have xv:IntKind.i64.wrap (((2*x:Nat):Int)+1)=((2*x+1:Nat):Int):=by rw [Ad (by unfold i64; omega)]; rfl
  have k7:=Bc xr
  have hlX:=gb.len
  have cz:=gb.T.fa
  have p7:i64 ct.2:=(hc r ui).2 ct p6
  obtain ⟨w,gh⟩:∃ w,w=qF.whole ct.2:=⟨_,rfl⟩
  have ow:qF.ok w.1:=by rw [gh]; exact D1 _ p7
  have fj:=Hz (S'++[(⟨n',[.prim (.string ct.1),.prim (.int .i64 ct.2)]⟩:Ent)]) tk' (n'+1) iq eq _ ct.2 p7 cz.app
  have hg1:=D4 (c:=w.2) (cz.app (L:=[(⟨n',[.prim (.string ct.1),.prim (.int .i64 ct.2)]⟩:Ent)]))
  rw [<- gh] at fj
  rw [Gp cz] at fj hg1
  obtain ⟨S1a,ju⟩:∃ S1a,S1a=flS S' iq eq w.2:=⟨_,rfl⟩
  have jb:=gb.flag (S':=flS S' iq eq w.2) (fun j hj=>Ax hj) Bd cz.fS
  rw [<- ju] at fj hg1 jb
  have js:=jb.T.fa
  obtain ⟨y,ly⟩:∃ y,y=qF.times u.1 w.1:=⟨_,rfl⟩
  have oy:qF.ok y.1:=by rw [ly]; exact Bz.times _ _ ou ow
  have kh:=Aaz (S1a++[(⟨n',[.prim (.string ct.1),.prim (.int .i64 ct.2)]⟩:Ent)]) tk' (n'+1+1) iq eq _ u.1 w.1 ou ow js.app
  have hg2:=D4 (c:=y.2) (js.app (L:=[(⟨n',[.prim (.string ct.1),.prim (.int .i64 ct.2)]⟩:Ent)]))
  rw [<- ly] at kh
  rw [Gp js] at kh hg2
  obtain ⟨S2a,uj⟩:∃ S2a,S2a=flS S1a iq eq y.2:=⟨_,rfl⟩
  have fk:=jb.flag (S':=flS S1a iq eq y.2) (fun j hj=>Ax hj) Bd js.fS
  rw [<- uj] at kh hg2 fk
  have ii:=fk.put (put row (2*x) y.1)
  obtain ⟨S3a,ry⟩:∃ S3a,S3a=put S2a (L+1) ⟨m0+1,flat ceQ (put row (2*x) y.1)⟩:=⟨_,rfl⟩
  rw [<- ry] at ii
  have a2x:=fk.len
  have hP3:∀ e:Ent,put (S2a++[e]) (L+1) ⟨m0+1,flat ceQ (put row (2*x) y.1)⟩=S3a++[e]:=fun e=>by rw [Dd (by omega),ry]
  have dq:=ii.T.fa
  obtain ⟨d,fe⟩:∃ d,d=qF.minus z y.1:=⟨_,rfl⟩
  have od:qF.ok d.1:=by rw [fe]; exact Bz.minus _ _ oz oy
  have cq:=J4 (S3a++[(⟨n',[.prim (.string ct.1),.prim (.int .i64 ct.2)]⟩:Ent)]) tk' (n'+1+1+4) iq eq _ z y.1 oz oy dq.app
  have hg3:=D4 (c:=d.2) (dq.app (L:=[(⟨n',[.prim (.string ct.1),.prim (.int .i64 ct.2)]⟩:Ent)]))
  rw [<- fe] at cq
  rw [Gp dq] at cq hg3
  obtain ⟨S4a,uk⟩:∃ S4a,S4a=flS S3a iq eq d.2:=⟨_,rfl⟩
  have xw:=ii.flag (S':=flS S3a iq eq d.2) (fun j hj=>Ax hj) Bd dq.fS
  rw [<- uk] at cq hg3 xw
  have a2y:=xw.len
  have kk:=xw.put (put (put row (2*x) y.1) (2*x+1) d.1)
  obtain ⟨S5a,jx⟩:∃ S5a,S5a=put S4a (L+1) ⟨m0+1,flat ceQ (put (put row (2*x) y.1) (2*x+1) d.1)⟩:=⟨_,rfl⟩
  rw [<- jx] at kk
  have hP5:∀ e:Ent,put (S4a++[e]) (L+1) ⟨m0+1,flat ceQ (put (put row (2*x) y.1) (2*x+1) d.1)⟩=S5a++[e]:=fun e=>by rw [Dd (by omega),jx]
  have hl5:=kk.len
  have il:∀ e:Ent,List.take S'.length (S5a++[e])=S5a:=fun e=>by rw [hlX,<- hl5]; simp
  have pg:∀ e:Ent,entAt (S'++[e]) (L+2) nu=some (ceQ u.1):=fun e=>Aa gb.E19
  have ro:∀ e:Ent,entAt (S2a++[e]) (L+1) (m0+1)=some (flat ceQ row):=fun e=>Aa fk.E16
  have hE3:∀ e:Ent,entAt (S3a++[e]) (S.length+1) nz=some (ceQ z):=fun e=>Aa ii.Z
  have py:∀ e:Ent,entAt (S3a++[e]) (L+1) (m0+1)=some (flat ceQ (put row (2*x) y.1)):=fun e=>Aa ii.E16
  have pz:∀ e:Ent,entAt (S4a++[e]) (L+1) (m0+1)=some (flat ceQ (put row (2*x) y.1)):=fun e=>Aa xw.E16
  have dw:=A4 (ce:=ceQ) Ao (l:=row) (k:=2*x) (q':=y.1) (by omega)
  have gz:=A4 (ce:=ceQ) Ao (l:=put row (2*x) y.1) (k:=2*x+1) (q':=d.1) (by rw [Ak]; omega)
  have htx:=Ar (ce:=ceQ) Ao (l:=put row (2*x) y.1) (k:=2*x) (q:=y.1) (B3 (by omega))
  simp (maxSteps:=10^6)+contextual(disch:=try exact dqd)only[evg1,simprocAttr,AV.int,AV.bool,AV.str,results81,e0,e1,e2,e7,e10,e11,e12,e14,e15,e16,e18,e19,e83,e84,e85,e113,e114,e115,c2,hw,xt,j1,xu,xv,hb1,hb2,fj,hg1,kh,hg2,hP3,cq,hg3,hP5,il,pg,ro,hE3,py,pz,dw,gz,htx,D3,xfs,puQ,tkQ,Ao,Bg]
  have zr:setC qF u.1 z (idxV vars ct.1) row ct.2=(put (put row (2*x) y.1) (2*x+1) d.1,Bool.or (Bool.or w.2 y.2) d.2):=by unfold setC; rw [<- hx,<- gh,<- ly,<- fe]
  rw [k7] at ke
  simp only [coefsC,zr] at ke
  have orow2:okL qF (put (put row (2*x) y.1) (2*x+1) d.1):=by
   intro q hq
   rcases Bw hq with rfl|hq
   ·exact od
   ·rcases Bw hq with rfl|hq
    ·exact oy
    ·exact orow q hq
  exact IH (S5a,n'+1+1+4+4,j+1,put (put row (2*x) y.1) (2*x+1) d.1,Bool.or f1 (Bool.or (Bool.or w.2 y.2) d.2)) _ (by first|omega|(simp only; omega)) ⟨rfl,by first|omega|(dsimp only; omega),by rw [ke]; simp only [Bool.or_assoc],by rw [Ak,Ak]; exact dn,orow2,by simpa only [Bool.or_assoc] using kk,by and_intros <;> first|rfl|simp only [getT,List.map_append,List.map_cons,List.map_nil]⟩
 ·have c2:decide ((j:Int)<(r.1.length:Int))=false:=by simpa using rn
  have ub:r.1.drop j=[]:=List.drop_eq_nil_of_le (by omega)
  rw [ub] at ke
  simp only [coefsC,Bool.or_false] at ke
  clear IH ub rn oq
  obtain ⟨n6,hn6⟩:∃ n6,n6=n':=⟨_,rfl⟩
  subst hn6
  obtain ⟨SU,hSU⟩:∃ SU,SU=S':=⟨_,rfl⟩
  subst hSU
  have xx:=Mn hr
  have lz:=gb.E15
  have p8:=gb.E19
  have d9:=gb.E16
  simp only [rowC,An] at lz
  have hlU:=gb.len
  cases heq:r.2.2
  ·rw [heq,if_neg Bool.false_ne_true] at xx
   have jz:sl<W:=by omega
   have d6:=A4 (ce:=ceQ) Ao (l:=row) (k:=sl) (q':=u.1) (by omega)
   have nv:IntKind.i64.wrap ((sl:Int)+1)=((sl+1:Nat):Int):=by rw [Ad (by unfold i64; omega)]; rfl
   have ah:=gb.put (put row sl u.1)
   obtain ⟨rowY,ca⟩:∃ rowY,rowY=put row sl u.1:=⟨_,rfl⟩
   have hsF:M9 r.2.2 row sl u.1=rowY:=by rw [ca,heq]; rfl
   have rz:rowY.length=W:=by rw [ca,Ak]; exact dn
   have orowY:okL qF rowY:=by
    rw [ca]
    intro q hq
    rcases Bw hq with rfl|hq
    ·exact ou
    ·exact orow q hq
   rw [<- ca] at d6 ah
   obtain ⟨SY,xy⟩:∃ SY,SY=put SU (L+1) ⟨m0+1,flat ceQ rowY⟩:=⟨_,rfl⟩
   rw [<- xy] at ah
   have uh:=xy.symm
   obtain ⟨sl2,xz⟩:∃ sl2,sl2=sl+1:=⟨_,rfl⟩
   have r6:(if r.2.2=true then sl else sl+1)=sl2:=by rw [heq,xz]; rfl
   have jr:sl2+neqs (l.drop (i+1))=c:=by omega
   rw [<- xz] at nv
   clear xy
   have x5:=ah.T.top
   simp only [ba.1,ba.2.1,ba.2.2,hcl,dk,i9,f9,intA] at x5
   have tx:c+i<W:=by omega
   have jt:IntKind.i64.wrap ((c:Int)+(i:Int))=((c+i:Nat):Int):=by rw [Ad (by unfold i64; omega)]; rfl
   have rq:IntKind.i64.wrap ((W:Int) - 1)=((W - 1:Nat):Int):=by rw [Ad (by unfold i64; omega)]; omega
   have i8:W - 1<W:=by omega
   have cz:=ah.T.fa
   obtain ⟨o,na⟩:∃ o,o=qF.whole 1:=⟨_,rfl⟩
   have oo:qF.ok o.1:=by rw [na]; exact D1 1 (by unfold i64; omega)
   have r7:=Hz SY tk' n6 iq eq _ 1 (by unfold i64; omega) cz
   have my:=D4 (c:=o.2) cz
   rw [<- na] at r7
   obtain ⟨S5a,jx⟩:∃ S5a,S5a=flS SY iq eq o.2:=⟨_,rfl⟩
   have kk:=ah.flag (S':=flS SY iq eq o.2) (fun j hj=>Ax hj) Bd cz.fS
   rw [<- jx] at r7 my kk
   have x6:=A4 (ce:=ceQ) Ao (l:=rowY) (k:=c+i) (q':=o.1) (by omega)
   have gi:=kk.put (put rowY (c+i) o.1)
   obtain ⟨row6,cd⟩:∃ row6,row6=put rowY (c+i) o.1:=⟨_,rfl⟩
   have r8:row6.length=W:=by rw [cd,Ak]; exact rz
   obtain ⟨S6a,l6⟩:∃ S6a,S6a=put S5a (L+1) ⟨m0+1,flat ceQ row6⟩:=⟨_,rfl⟩
   rw [<- cd] at x6 gi
   rw [<- l6] at gi
   have l7:=kk.E16
   have js:=gi.T.fa
   have hZ6:=gi.Z
   have gc:=gi.E15
   have l8:=gi.E19
   simp only [rowC,An] at gc
   obtain ⟨w,gh⟩:∃ w,w=qF.whole r.2.1:=⟨_,rfl⟩
   have ow:qF.ok w.1:=by rw [gh]; exact D1 _ lx
   have fj:=Hz S6a tk' (n6+1) iq eq _ r.2.1 lx js
   have hg1:=D4 (c:=w.2) js
   rw [<- gh] at fj
   obtain ⟨S7a,r9⟩:∃ S7a,S7a=flS S6a iq eq w.2:=⟨_,rfl⟩
   have sa:=gi.flag (S':=flS S6a iq eq w.2) (fun j hj=>Ax hj) Bd js.fS
   rw [<- r9] at fj hg1 sa
   have dq:=sa.T.fa
   obtain ⟨y,ly⟩:∃ y,y=qF.times u.1 w.1:=⟨_,rfl⟩
   have oy:qF.ok y.1:=by rw [ly]; exact Bz.times _ _ ou ow
   have kh:=Aaz S7a tk' (n6+1+1) iq eq _ u.1 w.1 ou ow dq
   have hg2:=D4 (c:=y.2) dq
   rw [<- ly] at kh
   obtain ⟨S8a,sb⟩:∃ S8a,S8a=flS S7a iq eq y.2:=⟨_,rfl⟩
   have sc:=sa.flag (S':=flS S7a iq eq y.2) (fun j hj=>Ax hj) Bd dq.fS
   rw [<- sb] at kh hg2 sc
   have sd:=sc.T.fa
   obtain ⟨d,fe⟩:∃ d,d=qF.minus z y.1:=⟨_,rfl⟩
   have od:qF.ok d.1:=by rw [fe]; exact Bz.minus _ _ oz oy
   have cq:=J4 S8a tk' (n6+1+1+4) iq eq _ z y.1 oz oy sd
   have hg3:=D4 (c:=d.2) sd
   rw [<- fe] at cq
   obtain ⟨S9a,se⟩:∃ S9a,S9a=flS S8a iq eq d.2:=⟨_,rfl⟩
   have sf:=sc.flag (S':=flS S8a iq eq d.2) (fun j hj=>Ax hj) Bd sd.fS
   rw [<- se] at cq hg3 sf
   have x7:=A4 (ce:=ceQ) Ao (l:=row6) (k:=W - 1) (q':=d.1) (by omega)
   have l9:=sf.E16
   have si:=sf.put (put row6 (W - 1) d.1)
   obtain ⟨rowZ,cg⟩:∃ rowZ,rowZ=put row6 (W - 1) d.1:=⟨_,rfl⟩
   have o3:rowZ.length=W:=by rw [cg,Ak]; exact r8
   have orowZ:okL qF rowZ:=by
    rw [cg,cd]
    intro q hq
    rcases Bw hq with rfl|hq
    ·exact od
    ·rcases Bw hq with rfl|hq
     ·exact oo
     ·exact orowY q hq
   obtain ⟨SZ,x8⟩:∃ SZ,SZ=put S9a (L+1) ⟨m0+1,flat ceQ rowZ⟩:=⟨_,rfl⟩
   rw [<- cg] at x7 si
   rw [<- x8] at si
   have dz:Ri qF u.1 z r.2.1=(d.1,Bool.or (Bool.or w.2 y.2) d.2):=by unfold Ri; rw [<- gh,<- ly,<- fe]
   have gd:rowF qF z vars c W i sl r=(rowZ,Bool.or (Bool.or (Bool.or u.2 f1) o.2) (Bool.or (Bool.or w.2 y.2) d.2)):=by
    unfold rowF
    simp only [hU,ke,dz,hsF,<- na,<- cd,<- cg]
   obtain ⟨fr,ma⟩:∃ fr,fr=Bool.or (Bool.or (Bool.or u.2 f1) o.2) (Bool.or (Bool.or w.2 y.2) d.2):=⟨_,rfl⟩
   rw [<- ma] at gd
   have lw:Gh S SZ iq eq I { t1 with fl:=Bool.or t1.fl fr } cp L nz m0 (m0+1) nu z r rowZ u.1:=by
    rw [ma]
    simpa only [Bool.or_assoc] using si
   have sj:=l6.symm
   have sk:=x8.symm
   simp (maxSteps:=10^6)+contextual(disch:=try exact dqd)only[evg1,simprocAttr,AV.int,AV.bool,AV.str,results81,e0,e1,e2,e7,e10,e11,e12,e14,e15,e16,e18,e19,e83,e84,e85,e113,e114,e115,c2,lz,p8,d9,heq,jz,d6,nv,uh,x5,tx,jt,rq,i8,r7,my,x6,l7,sj,hZ6,gc,l8,fj,hg1,kh,hg2,cq,hg3,x7,l9,sk,D3,xfs,puQ,tkQ,Ao,Bg]
   have lu:begS qF z vars c W (l.drop i) i sl t1=begS qF z vars c W (l.drop (i+1)) (i+1) sl2 { t1 with rows:=t1.rows++[rowZ],cost:=(costL qF c W 0 t1.cost rowZ).1,basis:=t1.basis++[c+i],flip:=t1.flip++[D2 r],fl:=Bool.or (Bool.or t1.fl fr) (costL qF c W 0 t1.cost rowZ).2 }:=by
    rw [Bc hr]
    simp only [begS,dk]
    rw [gd,r6]
   rw [lu] at hR
   exact Ph rfl (Aoh S l vars fl k iq eq c W nz z hB Φ i bg r hr sl2 jr t1 I cp tk' f9 hcl dk i9 ab ba ja rowZ fr o3 orowZ L m0 nu u (D2 r) rfl SZ _ _ lw hR back _ rfl rfl rfl rfl rfl rfl rfl rfl rfl rfl rfl rfl rfl rfl rfl rfl rfl rfl)
  ·rw [heq,if_pos rfl] at xx
   have jz:0<W:=by omega
   have d6:=jz
   have nv:=jz
   have uh:=jz
   have ah:=gb
   obtain ⟨rowY,ca⟩:∃ rowY,rowY=row:=⟨_,rfl⟩
   have hsF:M9 r.2.2 row sl u.1=rowY:=by rw [ca,heq]; rfl
   have rz:rowY.length=W:=by rw [ca]; exact dn
   have orowY:okL qF rowY:=by rw [ca]; exact orow
   rw [<- ca] at ah
   obtain ⟨SY,xy⟩:∃ SY,SY=SU:=⟨_,rfl⟩
   subst xy
   have r6:(if r.2.2=true then sl else sl+1)=sl:=by rw [heq]; rfl
   have jr:sl+neqs (l.drop (i+1))=c:=by omega
   have x5:=ah.T.top
   simp only [ba.1,ba.2.1,ba.2.2,hcl,dk,i9,f9,intA] at x5
   have tx:c+i<W:=by omega
   have jt:IntKind.i64.wrap ((c:Int)+(i:Int))=((c+i:Nat):Int):=by rw [Ad (by unfold i64; omega)]; rfl
   have rq:IntKind.i64.wrap ((W:Int) - 1)=((W - 1:Nat):Int):=by rw [Ad (by unfold i64; omega)]; omega
   have i8:W - 1<W:=by omega
   have cz:=ah.T.fa
   obtain ⟨o,na⟩:∃ o,o=qF.whole 1:=⟨_,rfl⟩
   have oo:qF.ok o.1:=by rw [na]; exact D1 1 (by unfold i64; omega)
   have r7:=Hz SY tk' n6 iq eq _ 1 (by unfold i64; omega) cz
   have my:=D4 (c:=o.2) cz
   rw [<- na] at r7
   obtain ⟨S5a,jx⟩:∃ S5a,S5a=flS SY iq eq o.2:=⟨_,rfl⟩
   have kk:=ah.flag (S':=flS SY iq eq o.2) (fun j hj=>Ax hj) Bd cz.fS
   rw [<- jx] at r7 my kk
   have x6:=A4 (ce:=ceQ) Ao (l:=rowY) (k:=c+i) (q':=o.1) (by omega)
   have gi:=kk.put (put rowY (c+i) o.1)
   obtain ⟨row6,cd⟩:∃ row6,row6=put rowY (c+i) o.1:=⟨_,rfl⟩
   have r8:row6.length=W:=by rw [cd,Ak]; exact rz
   obtain ⟨S6a,l6⟩:∃ S6a,S6a=put S5a (L+1) ⟨m0+1,flat ceQ row6⟩:=⟨_,rfl⟩
   rw [<- cd] at x6 gi
   rw [<- l6] at gi
   have l7:=kk.E16
   have js:=gi.T.fa
   have hZ6:=gi.Z
   have gc:=gi.E15
   have l8:=gi.E19
   simp only [rowC,An] at gc
   obtain ⟨w,gh⟩:∃ w,w=qF.whole r.2.1:=⟨_,rfl⟩
   have ow:qF.ok w.1:=by rw [gh]; exact D1 _ lx
   have fj:=Hz S6a tk' (n6+1) iq eq _ r.2.1 lx js
   have hg1:=D4 (c:=w.2) js
   rw [<- gh] at fj
   obtain ⟨S7a,r9⟩:∃ S7a,S7a=flS S6a iq eq w.2:=⟨_,rfl⟩
   have sa:=gi.flag (S':=flS S6a iq eq w.2) (fun j hj=>Ax hj) Bd js.fS
   rw [<- r9] at fj hg1 sa
   have dq:=sa.T.fa
   obtain ⟨y,ly⟩:∃ y,y=qF.times u.1 w.1:=⟨_,rfl⟩
   have oy:qF.ok y.1:=by rw [ly]; exact Bz.times _ _ ou ow
   have kh:=Aaz S7a tk' (n6+1+1) iq eq _ u.1 w.1 ou ow dq
   have hg2:=D4 (c:=y.2) dq
   rw [<- ly] at kh
   obtain ⟨S8a,sb⟩:∃ S8a,S8a=flS S7a iq eq y.2:=⟨_,rfl⟩
   have sc:=sa.flag (S':=flS S7a iq eq y.2) (fun j hj=>Ax hj) Bd dq.fS
   rw [<- sb] at kh hg2 sc
   have sd:=sc.T.fa
   obtain ⟨d,fe⟩:∃ d,d=qF.minus z y.1:=⟨_,rfl⟩
   have od:qF.ok d.1:=by rw [fe]; exact Bz.minus _ _ oz oy
   have cq:=J4 S8a tk' (n6+1+1+4) iq eq _ z y.1 oz oy sd
   have hg3:=D4 (c:=d.2) sd
   rw [<- fe] at cq
   obtain ⟨S9a,se⟩:∃ S9a,S9a=flS S8a iq eq d.2:=⟨_,rfl⟩
   have sf:=sc.flag (S':=flS S8a iq eq d.2) (fun j hj=>Ax hj) Bd sd.fS
   rw [<- se] at cq hg3 sf
   have x7:=A4 (ce:=ceQ) Ao (l:=row6) (k:=W - 1) (q':=d.1) (by omega)
   have l9:=sf.E16
   have si:=sf.put (put row6 (W - 1) d.1)
   obtain ⟨rowZ,cg⟩:∃ rowZ,rowZ=put row6 (W - 1) d.1:=⟨_,rfl⟩
   have o3:rowZ.length=W:=by rw [cg,Ak]; exact r8
   have orowZ:okL qF rowZ:=by
    rw [cg,cd]
    intro q hq
    rcases Bw hq with rfl|hq
    ·exact od
    ·rcases Bw hq with rfl|hq
     ·exact oo
     ·exact orowY q hq
   obtain ⟨SZ,x8⟩:∃ SZ,SZ=put S9a (L+1) ⟨m0+1,flat ceQ rowZ⟩:=⟨_,rfl⟩
   rw [<- cg] at x7 si
   rw [<- x8] at si
   have dz:Ri qF u.1 z r.2.1=(d.1,Bool.or (Bool.or w.2 y.2) d.2):=by unfold Ri; rw [<- gh,<- ly,<- fe]
   have gd:rowF qF z vars c W i sl r=(rowZ,Bool.or (Bool.or (Bool.or u.2 f1) o.2) (Bool.or (Bool.or w.2 y.2) d.2)):=by
    unfold rowF
    simp only [hU,ke,dz,hsF,<- na,<- cd,<- cg]
   obtain ⟨fr,ma⟩:∃ fr,fr=Bool.or (Bool.or (Bool.or u.2 f1) o.2) (Bool.or (Bool.or w.2 y.2) d.2):=⟨_,rfl⟩
   rw [<- ma] at gd
   have lw:Gh S SZ iq eq I { t1 with fl:=Bool.or t1.fl fr } cp L nz m0 (m0+1) nu z r rowZ u.1:=by
    rw [ma]
    simpa only [Bool.or_assoc] using si
   have sj:=l6.symm
   have sk:=x8.symm
   simp (maxSteps:=10^6)+contextual(disch:=try exact dqd)only[evg1,simprocAttr,AV.int,AV.bool,AV.str,results81,e0,e1,e2,e7,e10,e11,e12,e14,e15,e16,e18,e19,e83,e84,e85,e113,e114,e115,c2,lz,p8,d9,heq,jz,d6,nv,uh,x5,tx,jt,rq,i8,r7,my,x6,l7,sj,hZ6,gc,l8,fj,hg1,kh,hg2,cq,hg3,x7,l9,sk,D3,xfs,puQ,tkQ,Ao,Bg]
   have lu:begS qF z vars c W (l.drop i) i sl t1=begS qF z vars c W (l.drop (i+1)) (i+1) sl { t1 with rows:=t1.rows++[rowZ],cost:=(costL qF c W 0 t1.cost rowZ).1,basis:=t1.basis++[c+i],flip:=t1.flip++[D2 r],fl:=Bool.or (Bool.or t1.fl fr) (costL qF c W 0 t1.cost rowZ).2 }:=by
    rw [Bc hr]
    simp only [begS,dk]
    rw [gd,r6]
   rw [lu] at hR
   exact Ph rfl (Aoh S l vars fl k iq eq c W nz z hB Φ i bg r hr sl jr t1 I cp tk' f9 hcl dk i9 ab ba ja rowZ fr o3 orowZ L m0 nu u (D2 r) rfl SZ _ _ lw hR back _ rfl rfl rfl rfl rfl rfl rfl rfl rfl rfl rfl rfl rfl rfl rfl rfl rfl rfl)
end
end
section
open Go Tryz
def L3 (iq eq:Nat) (n real:Nat) (rows cost basis flip:AV):List AV:=[.ifc 95 (.ref iq eq 0),.int (n:Nat),.int (real:Nat),rows,cost,basis,flip]
theorem Uh {a z:List AV} {j m:Nat} (h:j<m):nth (List.replicate j a++List.replicate (m - j) z) j=some z/\put (List.replicate j a++List.replicate (m - j) z) j a=List.replicate (j+1) a++List.replicate (m - (j+1)) z:=by
 have e:List.replicate (m - j) z=z :: List.replicate (m - (j+1)) z:=by rw [<- List.replicate_succ]; congr 1; omega
 have hl:(List.replicate j a).length=j:=by simp
 rw [e]
 have h1:=Ee (p:=List.replicate j a) (u:=List.replicate (m - (j+1)) z) (x:=z)
 have h2:=Ge (p:=List.replicate j a) (u:=List.replicate (m - (j+1)) z) (x:=z) (y:=a)
 rw [hl] at h1 h2
 refine ⟨h1,?_⟩
 rw [h2,List.replicate_succ']
 simp
theorem Qf {sz:Nat} {a z:List AV} {j m:Nat} (h:j<m) (ha:a.length=sz) (hz:z.length=sz):over (List.replicate j a++List.replicate (m - j) z).flatten (j*sz) a=some (List.replicate (j+1) a++List.replicate (m - (j+1)) z).flatten:=by
 have h1:=Uh (a:=a) (z:=z) h
 rw [<- h1.2]
 refine Mg (e:=z) (fun e he=>?_) h1.1 ha
 rcases List.mem_append.1 he with h|h
 ·rw [List.mem_replicate] at h; rw [h.2,ha]
 ·rw [List.mem_replicate] at h; rw [h.2,hz]
theorem Vo {ce:Q->List AV} {W:Nat} {z:Q} : (List.replicate W (ce z)).flatten=flat ce (List.replicate W z):=by unfold flat; rw [List.map_replicate]
theorem mk_Q {W:Nat} (h:W<=1048576):mkA prog 138 (.int (W:Nat)) (.int (W:Nat))=some (W,2,(List.replicate W [.int 0,.int 0]).flatten):=by
 have hz:(A8 prog 138).bind (Aw prog)=some [.int 0,.int 0]:=by simp only [tys,Option.bind_some]
 have hs:(A8 prog 138).bind (szOf prog)=some 2:=by simp only [tys,Option.bind_some]
 obtain ⟨bb,hb,zq⟩:∃ bb,(A8 prog 138).bind (bytesOf prog)=some bb/\bb<=1048576:=⟨16,by kernel_rfl,by omega⟩
 unfold mkA
 rw [hz,hs,hb,intN_cast]
 simp only [mkB]
 rw [if_pos ⟨Nat.le_refl _,h,zq,rfl⟩]
def Ajl (S:List Ent) (iq eq:Nat) (t':Tb) (r:Rs):Prop :=
 ∃ S' k' tk' I cc,r=(.ref I.it I.et 0,S',tk',k')/\S.length<=S'.length/\Ay S' iq eq I t' cc/\(∀ j,j<S.length->j≠iq->nth S' j=nth S j)/\(∀ j,j<S.length->j≠iq->OutQ I iq j)
section
variable (S:List Ent) (tk:List Nat) (k iq eq:Nat)
set_option maxHeartbeats 20000000 in
set_option maxRecDepth 100000 in
theorem Alm (l:List RowT) (fl:Bool) (hl:l.length<=1000) (hn:(B8 l).length<=1000) (vars:List ByteArray) (jl:vars.length<=1000) (hv:∀ r ∈ l,∀ c ∈ r.1,c.1 ∈ vars) (hc:∀ r ∈ l,i64 r.2.1/\∀ c ∈ r.1,i64 c.2) (dd:fewC l) (k8:iq<S.length) (hf:FAq S iq eq fl) :
  ∃ r,cL prog 81 [.ifc 95 (.ref iq eq 0),Au l,Am vars] S tk k=some r/\Ajl S iq eq (Bj qF l vars fl) r:=by
 obtain ⟨Φ,hΦ⟩:∃ Φ,Φ=Ajl S iq eq (Bj qF l vars fl):=⟨_,rfl⟩
 rw [<- hΦ]
 have hw2:IntKind.i64.wrap (2*(vars.length:Int))=((2*vars.length:Nat):Int):=by rw [Ad (by unfold i64; omega)]; rfl
 refine opM func81 ntmps81 ?_
 simp (maxSteps:=10^6)+contextual(disch:=try exact dqd)only[evg1,simprocAttr,AV.int,AV.bool,AV.str,results81,Au,Am,hw2]
 have a1p:∀ c,[AV.ifc 95 (.ref iq eq 0),.int (vars.length:Nat),.int (c:Nat),.frz [] .nilc,.frz [] .nilc,.frz [] .nilc,.frz [] .nilc]=L3 iq eq vars.length c (.frz [] .nilc) (.frz [] .nilc) (.frz [] .nilc) (.frz [] .nilc):=fun _=>rfl
 refine Ef (P:=prog) (fun x st=>st.T.length=270/\(x.2.2<=l.length)/\(x.2.1+neqs (l.drop x.2.2)=2*vars.length+neqs l)/\getT st.T 0=.ifc 95 (.ref iq eq 0)/\getT st.T 1=.frz (l.map rowC) .unk/\getT st.T 2=.frz (vars.map strC) .unk/\getT st.T 7=.ref S.length k 0/\getT st.T 32=.frz (l.map rowC) .unk/\getT st.T 33=.int (l.length:Nat)/\getT st.T 34=.int (x.2.2:Nat)/\st.S=S++[⟨k,L3 iq eq vars.length x.2.1 (.frz [] .nilc) (.frz [] .nilc) (.frz [] .nilc) (.frz [] .nilc)⟩]/\st.tk=tk/\st.n=x.1) (fun x=>l.length - x.2.2) ((k+1),(2*vars.length),0) ?_ ?_
 case refine_2=>exact ⟨rfl,Nat.zero_le _,rfl,rfl,rfl,rfl,rfl,rfl,rfl,rfl,rfl,rfl,rfl⟩
 rintro ⟨n1,c,q⟩ ⟨T,S',tk',n'⟩ ⟨hl,hq,hcn,e0,e1,e2,e7,e32,e33,e34,eS,eT,eN⟩ IH
 simp only at hq hcn e0 e1 e2 e7 e32 e33 e34 eS eT eN
 subst eS eT eN
 obtain ⟨g,hg,hT⟩:=Av hl
 rw [hg] at e0 e1 e2 e7 e32 e33 e34
 subst hT
 clear hg hl
 have y9:=Lx l
 have a06:∀ x y z:Ent,List.take (S++[x]).length (S++[y]++[z])=S++[y]:=fun x y z=>by
  have e:(S++[x]).length=(S++[y]).length:=by simp
  rw [e,List.take_left]
 by_cases hql:q<l.length
 ·have c1:decide ((q:Int)<(l.length:Int))=true:=by simpa using hql
  have hw:IntKind.i64.wrap ((q:Int)+1)=((q+1:Nat):Int):=by rw [Ad (by unfold i64; omega)]; rfl
  obtain ⟨r,hr⟩:=Ag hql
  have je:=H7 hr
  have sm:=Mn hr
  have pg:entAt (S++[⟨k,L3 iq eq vars.length c (.frz [] .nilc) (.frz [] .nilc) (.frz [] .nilc) (.frz [] .nilc)⟩]++[⟨n',rowC r⟩]) S.length k=some (L3 iq eq vars.length c (.frz [] .nilc) (.frz [] .nilc) (.frz [] .nilc) (.frz [] .nilc)):=Aa Bf
  cases he:r.2.2 with
  | true =>
   rw [he,if_pos rfl] at sm
   simp (maxSteps:=10^6)+contextual(disch:=try exact dqd)only[evg1,simprocAttr,AV.int,AV.bool,AV.str,results81,e0,e1,e2,e7,e32,e33,e34,c1,hw,je,rowC,An,he]
   exact IH (n'+1,c,q+1) _ (by first|omega|(simp only; omega)) ⟨rfl,by first|omega|(dsimp only; omega),by first|omega|(dsimp only; omega),by and_intros <;> first|rfl|simp only [getT,List.map_append,List.map_cons,List.map_nil]⟩
  | false =>
   rw [he,if_neg Bool.false_ne_true] at sm
   have hw3:IntKind.i64.wrap ((c:Int)+1)=((c+1:Nat):Int):=by rw [Ad (by unfold i64; omega)]; rfl
   simp (maxSteps:=10^6)+contextual(disch:=try exact dqd)only[evg1,simprocAttr,AV.int,AV.bool,AV.str,results81,e0,e1,e2,e7,e32,e33,e34,c1,hw,hw3,je,rowC,An,he,L3,a06]
   exact IH (n'+1,c+1,q+1) _ (by first|omega|(simp only; omega)) ⟨rfl,by first|omega|(dsimp only; omega),by first|omega|(dsimp only; omega),by and_intros <;> first|rfl|simp only [getT,List.map_append,List.map_cons,List.map_nil]⟩
 ·have c1:decide ((q:Int)<(l.length:Int))=false:=by simpa using hql
  have tf:c=2*vars.length+neqs l:=by
   have h0:l.drop q=[]:=List.drop_eq_nil_of_le (by omega)
   rw [h0] at hcn
   have za:neqs ([]:List RowT)=0:=rfl
   omega
  obtain ⟨W,uw⟩:∃ W,W=c+l.length+1:=⟨_,rfl⟩
  have a07:IntKind.i64.wrap ((c:Int)+(l.length:Int))=((c+l.length:Nat):Int):=by rw [Ad (by unfold i64; omega)]; rfl
  have a08:IntKind.i64.wrap (((c+l.length:Nat):Int)+1)=(W:Int):=by rw [Ad (by unfold i64; omega)]; omega
  obtain ⟨z,hz⟩:∃ z,z=qF.whole 0:=⟨_,rfl⟩
  have oz:qF.ok z.1:=by rw [hz]; exact D1 0 (by unfold i64; omega)
  obtain ⟨T0,ag⟩:∃ T0:Ent,T0=⟨k,L3 iq eq vars.length c (.frz [] .nilc) (.frz [] .nilc) (.frz [] .nilc) (.frz [] .nilc)⟩:=⟨_,rfl⟩
  have np:=Hz (S++[⟨k,L3 iq eq vars.length c (.frz [] .nilc) (.frz [] .nilc) (.frz [] .nilc) (.frz [] .nilc)⟩]) tk' n' iq eq fl 0 (by unfold i64; omega) hf.app
  rw [<- hz,Gp hf] at np
  obtain ⟨S1,cj⟩:∃ S1,S1=flS S iq eq z.2:=⟨_,rfl⟩
  have mn:FAq S1 iq eq (Bool.or fl z.2):=by rw [cj]; exact hf.fS
  have hl1:S1.length=S.length:=by rw [cj]; exact Bd
  have bl:∀ v,v≠iq->nth S1 v=nth S v:=fun v hv=>by rw [cj]; exact Ax hv
  rw [<- cj] at np
  obtain ⟨nz,zi⟩:∃ nz,nz=n'+1:=⟨_,rfl⟩
  rw [<- zi] at np
  have ro:entAt (S1++[⟨k,L3 iq eq vars.length c (.frz [] .nilc) (.frz [] .nilc) (.frz [] .nilc) (.frz [] .nilc)⟩]++[⟨nz,ceQ z.1⟩]++[⟨nz+1,(List.replicate W [.int 0,.int 0]).flatten⟩]) S.length k=some (L3 iq eq vars.length c (.frz [] .nilc) (.frz [] .nilc) (.frz [] .nilc) (.frz [] .nilc)):=Aa (Aa (Ai hl1))
  have zt:∀ e e' a b:Ent,put (S1++[e]++[a]++[b]) S.length e'=S1++[e']++[a]++[b]:=fun e e' a b=>by
   rw [Dd (by simp; omega),Dd (by simp; omega),De hl1]
  have kv:=mk_Q (W:=W) (by omega)
  have hE3:=fun cs a b=>Aa (L:=[b]) (Aa (L:=[a]) (Ai (k:=k) (cs:=cs) hl1))
  simp only [L3] at np ro
  simp (maxSteps:=10^6)+contextual(disch:=try exact dqd)only[evg1,simprocAttr,AV.int,AV.bool,AV.str,results81,e0,e1,e2,e7,e32,e33,e34,c1,hw2,a07,a08,np,kv,ro,hE3,zt,hl1,L3,D3,xfs,puQ,Ao,Bg,ovQ]
  obtain ⟨TP,zu⟩:∃ TP,TP=L3 iq eq vars.length c (.frz [] .nilc) (.sref (S.length+2) (nz+1) 0 W 2) (.frz [] .nilc) (.frz [] .nilc):=⟨_,rfl⟩
  obtain ⟨S2,a8⟩:∃ S2,S2=S1++[⟨k,TP⟩]++[⟨nz,ceQ z.1⟩]:=⟨_,rfl⟩
  have hl2:S2.length=S.length+2:=by rw [a8]; simp [hl1]
  have ar:entAt S2 S.length k=some TP:=by rw [a8]; exact Aa (Ai hl1)
  have hZ2:entAt S2 (S.length+1) nz=some (ceQ z.1):=by rw [a8]; exact Ai (by simp [hl1])
  have b8:FAq S2 iq eq (Bool.or fl z.2):=by rw [a8]; exact mn.app.app
  have a7:∀ j,j<S.length->j≠iq->nth S2 j=nth S j:=fun j h1 h2=>by rw [a8,A6 (by simp; omega),A6 (by omega),bl j h2]
  have a2z:[AV.ifc 95 (.ref iq eq 0),.int (vars.length:Nat),.int (c:Nat),.frz [] .nilc,.sref (S.length+2) (nz+1) 0 W 2,.frz [] .nilc,.frz [] .nilc]=TP:=zu.symm
  have uc:∀ x:Ent,(S1++[x]).length=S.length+1:=fun x=>by simp [hl1]
  have hLb:∀ x y:Ent,(S1++[x]++[y]).length=S.length+2:=fun x y=>by simp [hl1]
  rw [hLb,uc]
  have sn:=a8
  rw [zu] at sn
  simp only [L3] at sn
  rw [<- sn]
  obtain ⟨Fl,hFl⟩:∃ Fl:Nat->List AV,Fl=fun j=>(List.replicate j (ceQ z.1)++List.replicate (W - j) ([.int 0,.int 0]:List AV)).flatten:=⟨_,rfl⟩
  have hF0:Fl 0=(List.replicate W ([.int 0,.int 0]:List AV)).flatten:=by rw [hFl]; rfl
  have hFW:Fl W=flat ceQ (List.replicate W z.1):=by rw [hFl]; simp only [Nat.sub_self,List.replicate_zero,List.append_nil]; exact Vo
  have hFo:∀ j,j<W->over (Fl j) (j*2) (ceQ z.1)=some (Fl (j+1)):=fun j jy=>by rw [hFl]; exact Qf (sz:=2) (a:=ceQ z.1) (z:=([.int 0,.int 0]:List AV)) jy (Ao _) rfl
  rw [<- hF0]
  refine Ef (P:=prog) (fun x st=>st.T.length=270/\(x.2<=W)/\getT st.T 0=.ifc 95 (.ref iq eq 0)/\getT st.T 1=.frz (l.map rowC) .unk/\getT st.T 2=.frz (vars.map strC) .unk/\getT st.T 7=.ref S.length k 0/\getT st.T 10=.int ((2*vars.length:Nat):Int)/\getT st.T 11=.int (W:Nat)/\getT st.T 12=.ref (S.length+1) nz 0/\getT st.T 71=.int (W:Nat)/\getT st.T 72=.int (x.2:Nat)/\st.S=S2++[⟨nz+1,Fl x.2⟩]/\st.tk=tk'/\st.n=x.1) (fun x=>W - x.2) ((nz+2),0) ?_ ?_
  case refine_2=>exact ⟨rfl,Nat.zero_le _,rfl,rfl,rfl,rfl,rfl,rfl,rfl,rfl,rfl,rfl,rfl,rfl⟩
  rintro ⟨n1,j⟩ ⟨T,S',tk',n'⟩ ⟨hl,hj,e0,e1,e2,e7,e10,e11,e12,e71,e72,eS,eT,eN⟩ IH
  simp only at hj e0 e1 e2 e7 e10 e11 e12 e71 e72 eS eT eN
  subst eS eT eN
  obtain ⟨g,hg,hT⟩:=Av hl
  rw [hg] at e0 e1 e2 e7 e10 e11 e12 e71 e72
  subst hT
  clear hg hl
  have u5:∀ cs,entAt (S2++[⟨nz+1,cs⟩]) (S.length+2) (nz+1)=some cs:=fun cs=>Ai hl2
  have x9:=fun e e'=>De (e:=e) (e':=e') hl2
  have o5:∀ x y:Ent,List.take (S2++[x]).length (S2++[y])=S2++[y]:=fun x y=>by
   have e:(S2++[x]).length=(S2++[y]).length:=by simp
   rw [e,List.take_length]
  by_cases jy:j<W
  ·have c2:decide ((j:Int)<(W:Int))=true:=by simpa using jy
   have hw:IntKind.i64.wrap ((j:Int)+1)=((j+1:Nat):Int):=by rw [Ad (by unfold i64; omega)]; rfl
   have kt:=hFo j jy
   have py:∀ e:Ent,entAt (S2++[e]) S.length k=some TP:=fun e=>Aa ar
   have pz:∀ e:Ent,entAt (S2++[e]) (S.length+1) nz=some (ceQ z.1):=fun e=>Aa hZ2
   rw [zu] at py
   simp only [L3] at py
   simp (maxSteps:=10^6)+contextual(disch:=try exact dqd)only[evg1,simprocAttr,AV.int,AV.bool,AV.str,results81,e0,e1,e2,e7,e10,e11,e12,e71,e72,c2,hw,jy,kt,py,pz,u5,x9,o5,puQ,tkQ,Ao,Bg]
   exact IH (n',j+1) _ (by first|omega|(simp only; omega)) ⟨rfl,by first|omega|(dsimp only; omega),by and_intros <;> first|rfl|simp only [getT,List.map_append,List.map_cons,List.map_nil]⟩
  ·have c2:decide ((j:Int)<(W:Int))=false:=by simpa using jy
   have mb:j=W:=by omega
   rw [mb] at c2 e72 ⊢
   clear jy mb hj
   rw [hFW]
   obtain ⟨S3,da⟩:∃ S3,S3=S2++[⟨nz+1,flat ceQ (List.replicate W z.1)⟩]:=⟨_,rfl⟩
   have dx:S3.length=S.length+3:=by rw [da]; simp [hl2]
   have b6:∀ j,j<S.length->j≠iq->nth S3 j=nth S j:=fun j h1 h2=>by rw [da,A6 (by omega),a7 j h1 h2]
   have hZ3:entAt S3 (S.length+1) nz=some (ceQ z.1):=by rw [da]; exact Aa hZ2
   obtain ⟨t0,ul⟩:∃ t0:Tb,t0={ vars:=vars.length,real:=c,rows:=[],cost:=List.replicate W z.1,basis:=[],flip:=[],fl:=Bool.or fl z.2 }:=⟨_,rfl⟩
   obtain ⟨I0,hI0⟩:∃ I0:TI,I0=⟨S.length,k,S.length+3,0,S.length+2,nz+1,S.length+4,0,[]⟩:=⟨_,rfl⟩
   have co:Ay S3 iq eq I0 t0 .nilc:=by
    rw [hI0,ul,da]
    refine ⟨?_,rfl,fun h=>absurd rfl h,fun i p r h=>by simp [nth] at h,fun r h=>by simp at h,?_,fun h=>absurd rfl h,rfl,rfl,b8.app,?_,fun r h=>by simp at h,fun q hq=>?_,?_,by simp,?_,fun b h=>by simp at h⟩
    ·rw [Aa ar,zu]
     simp only [L3,cw,List.length_replicate,List.length_nil,List.map_nil]
     rfl
    ·exact Ai hl2
    ·constructor <;> first|(simp only; omega)|(intro p hp; simp at hp)|(intro i j p q hp; simp [nth] at hp)
    ·rw [List.mem_replicate] at hq; rw [hq.2]; exact oz
    ·simp only [List.length_replicate]; omega
    ·simp only [List.length_replicate]; omega
   have a09:Bj qF l vars fl=begS qF z.1 vars c W l 0 (2*vars.length) t0:=by
    unfold Bj
    simp only
    rw [<- tf,<- uw,<- hz,ul]
   simp (maxSteps:=10^6)+contextual(disch:=try exact dqd)only[evg1,simprocAttr,AV.int,AV.bool,AV.str,results81,e0,e1,e2,e7,e10,e11,e12,e71,e72,c2]
   rw [<- da]
   clear u5 x9 o5 e0 e1 e2 e7 e10 e11 e12 e71 e72 c1 c2
   refine Ef (P:=prog) (fun x st=>st.T.length=270/\(x.2.2.2.2.1<=l.length)/\(Bj qF l vars fl=begS qF z.1 vars c W (l.drop x.2.2.2.2.1) x.2.2.2.2.1 x.2.2.2.2.2.1 x.2.2.2.2.2.2.1)/\(Ay x.1 iq eq x.2.2.2.2.2.2.2 x.2.2.2.2.2.2.1 x.2.2.2.1)/\(x.2.2.2.2.2.2.1.rows.length=x.2.2.2.2.1)/\(x.2.2.2.2.2.2.1.cost.length=W)/\(x.2.2.2.2.2.2.1.real=c)/\(x.2.2.2.2.2.2.1.vars=vars.length)/\(x.2.2.2.2.2.1+neqs (l.drop x.2.2.2.2.1)=c)/\(Be x.2.2.1 x.2.2.2.1 1=true)/\(entAt x.1 (S.length+1) nz=some (ceQ z.1))/\(S.length+3<=x.1.length)/\(∀ j,j<S.length->j≠iq->nth x.1 j=nth S j)/\(x.2.2.2.2.2.2.2.it=S.length/\x.2.2.2.2.2.2.2.et=k/\x.2.2.2.2.2.2.2.ic=S.length+2)/\(S.length+2<x.2.2.2.2.2.2.2.ir/\S.length+2<x.2.2.2.2.2.2.2.ib/\∀ p ∈ x.2.2.2.2.2.2.2.ids,S.length+2<p.1)/\getT st.T 0=.ifc 95 (.ref iq eq 0)/\getT st.T 1=.frz (l.map rowC) .unk/\getT st.T 2=.frz (vars.map strC) .unk/\getT st.T 7=.ref S.length k 0/\getT st.T 10=.int (x.2.2.2.2.2.1:Nat)/\getT st.T 11=.int (W:Nat)/\getT st.T 12=.ref (S.length+1) nz 0/\getT st.T 83=.frz (l.map rowC) .unk/\getT st.T 84=.int (l.length:Nat)/\getT st.T 85=.int (x.2.2.2.2.1:Nat)/\st.S=x.1/\st.tk=x.2.2.1/\st.n=x.2.1) (fun x=>l.length - x.2.2.2.2.1) (S3,n',tk',Cap.nilc,0,(2*vars.length),t0,I0) ?_ ?_
   case refine_2=>exact ⟨rfl,Nat.zero_le _,a09,co,by rw [ul]; rfl,by rw [ul]; simp,by rw [ul],by rw [ul],by rw [tf]; rfl,rfl,hZ3,Nat.le_of_eq dx.symm,b6,by rw [hI0]; exact ⟨rfl,rfl,rfl⟩,by rw [hI0]; exact ⟨by simp only; omega,by simp only; omega,fun p hp=>by simp at hp⟩,rfl,rfl,rfl,rfl,rfl,rfl,rfl,rfl,rfl,rfl,rfl,rfl,rfl⟩
   rintro ⟨SS,n1,tk1,cp,i,sl,t1,I⟩ ⟨T,S',tk',n'⟩ ⟨hl,hi,hR,hT,f9,hcl,dk,i9,mw,ab,hZ,hL3,aw,ba,ja,e0,e1,e2,e7,e10,e11,e12,e83,e84,e85,eS,eT,eN⟩ IH
   simp only at hi hR hT f9 hcl dk i9 mw ab hZ hL3 aw ba ja e0 e1 e2 e7 e10 e11 e12 e83 e84 e85 eS eT eN
   subst eS eT eN
   obtain ⟨g,hg,hT⟩:=Av hl
   rw [hg] at e0 e1 e2 e7 e10 e11 e12 e83 e84 e85
   subst hT
   clear hg hl
   have IHA:=IH
   clear IH
   obtain ⟨m0,bm⟩:∃ m0,m0=n':=⟨_,rfl⟩
   subst bm
   obtain ⟨SA,hSA⟩:∃ SA,SA=S':=⟨_,rfl⟩
   subst hSA
   obtain ⟨tkA,a1a⟩:∃ tkA,tkA=tk':=⟨_,rfl⟩
   subst a1a
   obtain ⟨L,hL⟩:∃ L,L=SA.length:=⟨_,rfl⟩
   by_cases bg:i<l.length
   ·have c1:decide ((i:Int)<(l.length:Int))=true:=by simpa using bg
    have hwi:IntKind.i64.wrap ((i:Int)+1)=((i+1:Nat):Int):=by rw [Ad (by unfold i64; omega)]; rfl
    obtain ⟨r,hr⟩:=Ag bg
    have je:=H7 hr
    have ui:r ∈ l:=Al hr
    have uc:∀ x:Ent,(SA++[x]).length=L+1:=fun x=>by simp [hL]
    have back:∀ st,Aht S l vars fl k iq eq c W nz z.1 (i+1) st->Gd finM Φ (KA prog Tryz.f81 18 [] st):=fun st h=>by
     obtain ⟨sl',t1',I',cp',h1,h2,h3,h4,h5,h6,h7,h8,h9,yq,h11,h12,h13,h14,ya,s0,s1,s2,s7,s10,s11,s12,s83,s84,s85⟩:=h
     exact Ade rfl (t:=.mk) (IHA (st.S,st.n,st.tk,cp',i+1,sl',t1',I') st (by show l.length - (i+1)<l.length - i; omega) ⟨ya,h1,h2,h3,h4,h5,h6,h7,h8,h9,yq,h11,h12,h13,h14,s0,s1,s2,s7,s10,s11,s12,s83,s84,s85,rfl,rfl,rfl⟩)
    clear IHA
    simp (maxSteps:=10^6)+contextual(disch:=try exact dqd)only[evg1,simprocAttr,AV.int,AV.bool,AV.str,results81,e0,e1,e2,e7,e10,e11,e12,e83,e84,e85,c1,je,rowC,An,kv,Nat.le_refl]
    rw [uc,<- hL,<- hF0]
    obtain ⟨SB,p9⟩:∃ SB,SB=SA++[(⟨m0,rowC r⟩:Ent)]:=⟨_,rfl⟩
    have yn:SB.length=L+1:=by rw [p9]; exact uc _
    have su:=p9
    simp only [rowC,An] at su
    rw [<- su]
    refine Ef (P:=prog) (fun x st=>st.T.length=270/\(x.2<=W)/\getT st.T 0=.ifc 95 (.ref iq eq 0)/\getT st.T 1=.frz (l.map rowC) .unk/\getT st.T 2=.frz (vars.map strC) .unk/\getT st.T 7=.ref S.length k 0/\getT st.T 10=.int (sl:Nat)/\getT st.T 11=.int (W:Nat)/\getT st.T 12=.ref (S.length+1) nz 0/\getT st.T 14=.int (i:Nat)/\getT st.T 15=.ref L m0 0/\getT st.T 16=.sref (L+1) (m0+1) 0 W 2/\getT st.T 83=.frz (l.map rowC) .unk/\getT st.T 84=.int (l.length:Nat)/\getT st.T 85=.int (i:Nat)/\getT st.T 93=.int (W:Nat)/\getT st.T 94=.int (x.2:Nat)/\st.S=SB++[⟨m0+1,Fl x.2⟩]/\st.tk=tkA/\st.n=x.1) (fun x=>W - x.2) ((m0+2),0) ?_ ?_
    case refine_2=>exact ⟨rfl,Nat.zero_le _,rfl,rfl,rfl,rfl,rfl,rfl,rfl,rfl,rfl,rfl,rfl,rfl,rfl,rfl,rfl,rfl,rfl,rfl⟩
    rintro ⟨n1,j⟩ ⟨T,S',tk',n'⟩ ⟨hl,hj,e0,e1,e2,e7,e10,e11,e12,e14,e15,e16,e83,e84,e85,e93,e94,eS,eT,eN⟩ IH
    simp only at hj e0 e1 e2 e7 e10 e11 e12 e14 e15 e16 e83 e84 e85 e93 e94 eS eT eN
    subst eS eT eN
    obtain ⟨g,hg,hT⟩:=Av hl
    rw [hg] at e0 e1 e2 e7 e10 e11 e12 e14 e15 e16 e83 e84 e85 e93 e94
    subst hT
    clear hg hl
    by_cases jy:j<W
    ·have c2:decide ((j:Int)<(W:Int))=true:=by simpa using jy
     have hw:IntKind.i64.wrap ((j:Int)+1)=((j+1:Nat):Int):=by rw [Ad (by unfold i64; omega)]; rfl
     have kt:=hFo j jy
     have pz:∀ b:Ent,entAt (SB++[b]) (S.length+1) nz=some (ceQ z.1):=fun b=>by rw [p9]; exact Aa (Aa hZ)
     have u5:∀ cs,entAt (SB++[⟨m0+1,cs⟩]) (L+1) (m0+1)=some cs:=fun cs=>Ai yn
     have x9:=fun e e'=>De (e:=e) (e':=e') yn
     have o5:∀ x y:Ent,List.take (SB++[x]).length (SB++[y])=SB++[y]:=fun x y=>by
      have e:(SB++[x]).length=(SB++[y]).length:=by simp
      rw [e,List.take_length]
     simp (maxSteps:=10^6)+contextual(disch:=try exact dqd)only[evg1,simprocAttr,AV.int,AV.bool,AV.str,results81,e0,e1,e2,e7,e10,e11,e12,e14,e15,e16,e83,e84,e85,e93,e94,c2,hw,jy,kt,pz,u5,x9,o5,puQ,tkQ,Ao,Bg]
     exact IH (n',j+1) _ (by first|omega|(simp only; omega)) ⟨rfl,by first|omega|(dsimp only; omega),by and_intros <;> first|rfl|simp only [getT,List.map_append,List.map_cons,List.map_nil]⟩
    ·have c2:decide ((j:Int)<(W:Int))=false:=by simpa using jy
     have mb:j=W:=by omega
     rw [mb] at c2 e94 ⊢
     clear jy mb hj
     rw [hFW]
     obtain ⟨n5,hn5⟩:∃ n5,n5=n':=⟨_,rfl⟩
     subst hn5
     obtain ⟨SC,qa⟩:∃ SC,SC=SB++[(⟨m0+1,flat ceQ (List.replicate W z.1)⟩:Ent)]:=⟨_,rfl⟩
     rw [<- qa]
     have hlC:SC.length=L+2:=by rw [qa]; simp [yn]
     have yb:Ay SC iq eq I t1 cp:=by rw [qa,p9]; exact (hT.app _).app _
     have az:LowQ I iq L t1:=by rw [hL]; exact hT.low
     have mc:entAt SC L m0=some (rowC r):=by rw [qa,p9]; exact Aa (Ai hL.symm)
     have sv:entAt SC (L+1) (m0+1)=some (flat ceQ (List.replicate W z.1)):=by rw [qa]; exact Ai yn
     have hZC:entAt SC (S.length+1) nz=some (ceQ z.1):=by rw [qa,p9]; exact Aa (Aa hZ)
     have hfC:∀ j,j<S.length->j≠iq->nth SC j=nth S j:=fun j h1 h2=>by rw [qa,p9,A6 (by simp; omega),A6 (by omega),aw j h1 h2]
     have lx:i64 r.2.1:=(hc r ui).1
     obtain ⟨one,bz⟩:∃ one,one=qF.whole 1:=⟨_,rfl⟩
     have o1:qF.ok one.1:=by rw [bz]; exact D1 1 (by unfold i64; omega)
     have c8:=Hz SC tk' n5 iq eq t1.fl 1 (by unfold i64; omega) yb.fa
     rw [<- bz] at c8
     obtain ⟨SD,un⟩:∃ SD,SD=flS SC iq eq one.2:=⟨_,rfl⟩
     have md:SD.length=L+2:=by rw [un,Bd]; exact hlC
     have sw:∀ v,v≠iq->nth SD v=nth SC v:=fun v hv=>by rw [un]; exact Ax hv
     have yc:FAq SD iq eq (Bool.or t1.fl one.2):=by rw [un]; exact yb.fa.fS
     rw [<- un] at c8
     obtain ⟨nu,hnu⟩:∃ nu,nu=n5+1:=⟨_,rfl⟩
     rw [<- hnu] at c8
     have hTD:Ay SD iq eq I { t1 with fl:=Bool.or t1.fl one.2 } cp:=yb.flag sw yc
     have hLd:SD.length=L+2:=md
     have me:Gh S (SD++[⟨nu,ceQ one.1⟩]) iq eq I { t1 with fl:=Bool.or t1.fl one.2 } cp L nz m0 (m0+1) nu z.1 r (List.replicate W z.1) one.1 :=
      ⟨hTD.app _,az.of fun h=>h,by rw [Aa (e:=nz) (by rw [Ab (sw _ (by omega))]; exact hZC)],by rw [Aa (by rw [Ab (sw _ (by omega))]; exact mc)],by rw [Aa (by rw [Ab (sw _ (by omega))]; exact sv)],Ai md,by simp [md],fun j h1 h2=>by rw [A6 (by omega),sw j h2]; exact hfC j h1 h2,k8,by omega,ba.2.2⟩
     have ge:=me.E15
     have qd:=me.E19
     have lp:(SD++[(⟨nu,ceQ one.1⟩:Ent)]).length=L+3:=me.len
     have hLD:∀ x:Ent,(SD++[x]).length=L+3:=fun x=>by simp [md]
     simp only [rowC] at ge
     have yd:∀ cs,entAt (SD++[⟨nu,cs⟩]) (L+2) nu=some cs:=fun cs=>Ai md
     have pw:=fun e e'=>De (e:=e) (e':=e') md
     clear qa p9 su
     cases jh:D2 r
     ·have c3:decide (0<r.2.1)=false:=jh
      have hU:Jr qF (D2 r)=one:=by rw [jh,bz]; rfl
      simp (maxSteps:=10^6)+contextual(disch:=try exact dqd)only[evg1,simprocAttr,AV.int,AV.bool,AV.str,results81,e0,e1,e2,e7,e10,e11,e12,e14,e15,e16,e83,e84,e85,e93,e94,c2,c3,mc,rowC,An,c8,ge,yd,pw,md,D3,xfs,puQ,Ao,Bg,ovQ]
      clear e0 e1 e2 e7 e10 e11 e12 e14 e15 e16 e83 e84 e85 e93 e94 c2 c3 IH pw yd
      obtain ⟨SX,sx⟩:∃ SX,SX=SD++[(⟨nu,ceQ one.1⟩:Ent)]:=⟨_,rfl⟩
      obtain ⟨nx,t7⟩:∃ nx,nx=nu+1:=⟨_,rfl⟩
      rw [<- sx,<- t7]
      rw [<- sx] at me
      obtain ⟨u,hu⟩:∃ u:Q × Bool,u=one:=⟨_,rfl⟩
      rw [<- hu] at me hU
      have ou:qF.ok u.1:=by rw [hu]; exact o1
      have gb:=me
      clear me ge qd lp hLD hnu hTD hLd yc sw md c8 un sx t7 sv mc hZC hfC yb hlC hu o1 bz
      have h18:AV.prim (.bool false)=.prim (.bool (D2 r)):=by rw [jh]
      exact Ph rfl (Apr S l vars fl k iq eq c W nz z.1 ⟨hl,jl,hv,hc,dd,k8,tf,uw⟩ oz Φ i bg r hr sl mw t1 I cp tk' f9 hcl dk i9 ab ba ja L m0 nu u hU ou SX nx _ gb hR back _ rfl rfl rfl rfl rfl rfl rfl rfl rfl rfl rfl h18 rfl rfl rfl rfl rfl rfl rfl)
     ·have c3:decide (0<r.2.1)=true:=jh
      obtain ⟨neg,hneg⟩:∃ neg,neg=qF.whole (-1):=⟨_,rfl⟩
      have on:qF.ok neg.1:=by rw [hneg]; exact D1 (-1) (by unfold i64; omega)
      have hU:Jr qF (D2 r)=(neg.1,Bool.or one.2 neg.2):=by rw [jh,bz,hneg]; rfl
      have hw1:=Hz (SD++[⟨nu,ceQ one.1⟩]) tk' (nu+1) iq eq (Bool.or t1.fl one.2) (-1) (by unfold i64; omega) me.T.fa
      rw [<- hneg,Gp yc] at hw1
      obtain ⟨SE,zw⟩:∃ SE,SE=flS SD iq eq neg.2:=⟨_,rfl⟩
      have lp:SE.length=L+2:=by rw [zw,Bd]; exact md
      have hRE:=me.flag (S':=flS (SD++[⟨nu,ceQ one.1⟩]) iq eq neg.2) (fun j hj=>Ax hj) Bd me.T.fa.fS
      rw [Gp yc,<- zw] at hRE
      rw [<- zw] at hw1
      have ye:=hRE.unit neg.1
      have mf:∀ cs,entAt (SE++[⟨nu,cs⟩]) (L+2) nu=some cs:=fun cs=>Ai lp
      have qe:=fun e e'=>De (e:=e) (e':=e') lp
      rw [qe] at ye
      have mg:=ye.E15
      simp only [rowC] at mg
      simp (maxSteps:=10^6)+contextual(disch:=try exact dqd)only[evg1,simprocAttr,AV.int,AV.bool,AV.str,results81,e0,e1,e2,e7,e10,e11,e12,e14,e15,e16,e83,e84,e85,e93,e94,c2,c3,mc,rowC,An,c8,ge,yd,pw,md,hw1,mf,qe,mg,D3,xfs,puQ,Ao,Bg,ovQ,ovQ2]
      clear e0 e1 e2 e7 e10 e11 e12 e14 e15 e16 e83 e84 e85 e93 e94 c2 c3 IH pw yd qe mf
      obtain ⟨SX,sx⟩:∃ SX,SX=SE++[(⟨nu,ceQ neg.1⟩:Ent)]:=⟨_,rfl⟩
      obtain ⟨nx,t7⟩:∃ nx,nx=nu+1+1:=⟨_,rfl⟩
      rw [<- sx,<- t7]
      rw [<- sx] at ye
      obtain ⟨u,hu⟩:∃ u:Q × Bool,u=(neg.1,Bool.or one.2 neg.2):=⟨_,rfl⟩
      rw [<- hu] at hU
      have ou:qF.ok u.1:=by rw [hu]; exact on
      have gb:Gh S SX iq eq I { t1 with fl:=Bool.or t1.fl u.2 } cp L nz m0 (m0+1) nu z.1 r (List.replicate W z.1) u.1:=by
       rw [hu]
       simp only [<- Bool.or_assoc]
       exact ye
      clear me ge qd lp hLD hnu hTD hLd yc sw md c8 un sx t7 sv mc hZC hfC yb hlC hu o1 bz on hneg hw1 zw hRE ye mg
      have h18:AV.prim (.bool true)=.prim (.bool (D2 r)):=by rw [jh]
      exact Ph rfl (Apr S l vars fl k iq eq c W nz z.1 ⟨hl,jl,hv,hc,dd,k8,tf,uw⟩ oz Φ i bg r hr sl mw t1 I cp tk' f9 hcl dk i9 ab ba ja L m0 nu u hU ou SX nx _ gb hR back _ rfl rfl rfl rfl rfl rfl rfl rfl rfl rfl rfl h18 rfl rfl rfl rfl rfl rfl rfl)
   ·have c1:decide ((i:Int)<(l.length:Int))=false:=by simpa using bg
    have h0:l.drop i=[]:=List.drop_eq_nil_of_le (by omega)
    rw [h0] at hR
    simp only [begS] at hR
    simp (maxSteps:=10^6)+contextual(disch:=try exact dqd)only[evg1,simprocAttr,AV.int,AV.bool,AV.str,results81,e0,e1,e2,e7,e10,e11,e12,e83,e84,e85,c1]
    rw [hΦ,hR]
    exact ⟨SA,m0,tkA,I,cp,by rw [ba.1,ba.2.1],by omega,hT,aw,fun j h1 h2=>⟨h2,by omega,by omega,fun p hp=>by have:=ja.2.2 p hp; omega⟩⟩
end
end
end Go.Proofs.YtcjffhadclngmaaGreat
