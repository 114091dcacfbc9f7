/- CLift2 T1 WV2 WV4 WV5 WV6 WV7 WV8 WV9 WV10 WV105 WV106 WV11a WV11b -/
import Derived.Test.YtcjffhadclngmaaGreatZC22
import Derived.SizedLaws
import Derived.ChangeArms
import Derived.Test.YtcjffhadclngmaaGreatZC20
import Derived.Test.YtcjffhadclngmaaGreatZC16
namespace Go.Proofs.YtcjffhadclngmaaGreat
section
open Go Go.Proofs.Tryz Go.ChangeShapes Go.WideShapes Go.ChangeAt Go.RowKit
section
variable {H:Type} {enc:TypeId × Value->H} {w:World} {r:Reach} {b0:Nat} {sp:Nat->Bool} {gg:Bool} {v:Value} {d:DataW H} {p:List MemPlace}
set_option maxRecDepth 100000 in
theorem Aj4 (hv:Value.okWide prog w r b0 27 v) (h:DataW.Trod enc prog w 0 sp gg 27 v d p):∃ r:RowT,VR (C0 w) (.agg (rowC r)) v:=by
 obtain ⟨xs,rfl,-⟩:=okWide_struct underlying27 hv
 obtain ⟨avs,h1,h2⟩:=read (by simp [types]) h
 obtain ⟨r,rfl,-⟩:=Aks h1
 exact ⟨r,Apj h2⟩
set_option maxRecDepth 100000 in
theorem Am0 (hv:Value.okWide prog w r b0 5 v) (h:DataW.Trod enc prog w 0 sp gg 5 v d p):∃ n:Int,VR (C0 w) (.prim (.int .u8 n)) v/\0<=n/\n<256:=by
 obtain ⟨k,rfl⟩:=okWide_int underlying5 hv
 obtain ⟨fuel,hf⟩:=h
 obtain ⟨k',hk,-,hw⟩:=DataW.trod_int underlying5 hf
 have e:k=k':=by simpa [Value.cells] using hk
 subst e
 simp only [Lit.wf,Bool.and_eq_true,decide_eq_true_eq] at hw
 have h2:k<=255:=hw.2
 exact ⟨k,by simp only [VR],hw.1,by omega⟩
theorem Ae0:prog.bytesOf 27=40:=by kernel_rfl
theorem Ajn {l:List RowT} (q:VR (C0 w) (Au l) v) (h:DataW.Trod enc prog w 0 sp gg 22 v d p) {ts:List TypeId} {ds:List (DataW H)} (hsz:(DataW.weightsEach prog ts ds).all (·<=reachBytes)=true) (ht:ts[0]?=some 22) (hd:ds[0]?=some d):l.length<=3518437208880:=by
 simp only [Au,VR] at q
 obtain ⟨a,n,c,rfl,hlen,-⟩:=q
 rw [List.length_map] at hlen
 obtain ⟨fuel,hf⟩:=h
 rcases DataW.trod_slice underlying22 hf with ⟨h1,-⟩|⟨a',len,cap,elems,rest,m,-,h1,h2,-,-,-,h3,-⟩
 ·have:n=0:=by simp [Value.cells] at h1; exact h1.2.1
  omega
 ·have e:n=len:=by simp [Value.cells] at h1; exact h1.2.1
  have hx:d=.slice (elems.map (·.1)) (rest.map (·.1)):=congrArg Prod.fst h2
  have:=sized_slice hsz (j:=0) ht (hd.trans (congrArg some hx)) underlying22
  rw [Ae0] at this
  simp only [List.length_map] at this
  have hr:reachBytes=140737488351232:=rfl
  omega
end
end
section
open Go Go.Proofs.Tryz
def mulT (a q:Int):Int × Bool:=if inB (a*q) then (a*q,true) else (0,false)
def mulC (q:Int) (c:ByteArray × Int):ByteArray × Int:=(c.1,c.2*q)
def Ej (cs:List (ByteArray × Int)) (n q:Int):(List (ByteArray × Int) × Int) × Bool :=
 if ((cs.all fun c=>inB (c.2*q)) && inB (n*q))=true then ((cs.map (mulC q),n*q),true) else (([],0),false)
section
variable (S:List Ent) (tk:List Nat) (k:Nat)
theorem Ah2 (a q:Int) (ha:inB a=true) (h1:1<=q) (h9:q<=9):cL prog 48 [.int a,.int q] S tk k=some (.tup [.int (mulT a q).1,.bool (mulT a q).2],S,tk,k):=by
 have hq:inB q=true:=Hy.2 ⟨by omega,by omega⟩
 have hab:=Hy.1 ha
 have z0:(q == 0)=false:=by simp; omega
 have z1:decide (q<0)=false:=by simp; omega
 have z2:¬ q=0:=by omega
 have z8:=fun S tk k=>Ya S tk k a
 have hI2:=fun S tk k=>Ya S tk k q
 rw [ha] at z8
 rw [hq] at hI2
 have ht:Int.tdiv 1000000000000 q=1000000000000 / q:=Int.tdiv_eq_ediv_of_nonneg (by decide)
 have cw:0<=(1000000000000:Int) / q:=Int.ediv_nonneg (by decide) (by omega)
 have hd1:(1000000000000:Int) / q<=1000000000000:=Int.ediv_le_self _ (by decide)
 have hw:IntKind.i64.wrap (Int.tdiv 1000000000000 q)=1000000000000 / q:=by rw [ht]; exact Ad (by unfold i64; omega)
 have hlt:∀ x:Int,x > 1000000000000 / q↔1000000000000<x*q:=fun x=>Int.ediv_lt_iff_lt_mul (by omega)
 by_cases a0:a=0
 ·subst a0
  have hm:mulT 0 q=(0,true):=by simp [mulT,inB]
  have y0:((0:Int) == 0)=true:=rfl
  rw [hm]
  refine opP func48 ntmps48 (hp3:=rfl) ?_
  simp (maxSteps:=10^6)+contextual(disch:=try exact dqd)only[ev1,simprocAttr,AV.int,AV.bool,AV.str,results48,z8,hI2,y0]
 have y0:(a == 0)=false:=by simpa using a0
 have hb1 : -9000000000000<=a*q:=by
  have h1 : -1000000000000*q<=a*q:=Int.mul_le_mul_of_nonneg_right (by omega) (by omega)
  omega
 have hb2:a*q<=9000000000000:=by
  have h1:a*q<=1000000000000*q:=Int.mul_le_mul_of_nonneg_right (by omega) (by omega)
  omega
 have hwm:IntKind.i64.wrap (a*q)=a*q:=Ad (by unfold i64; omega)
 by_cases an:a<0
 ·have y1:decide (a<0)=true:=by simpa using an
  have hwn:IntKind.i64.wrap (0 - a)=0 - a:=Ad (by unfold i64; omega)
  have hp:a*q<0:=Int.mul_neg_of_neg_of_pos an (by omega)
  have hx:(0 - a)*q=-(a*q):=by rw [Int.sub_mul]; omega
  by_cases hc:0 - a > 1000000000000 / q
  ·have y2:decide (0 - a > 1000000000000 / q)=true:=by simpa using hc
   have hm:mulT a q=(0,false):=by
    have:=(hlt _).1 hc
    rw [hx] at this
    have hn:¬ inB (a*q)=true:=fun h=>by have:=Hy.1 h; omega
    simp [mulT,hn]
   rw [hm]
   refine opP func48 ntmps48 (hp3:=rfl) ?_
   simp (maxSteps:=10^6)+contextual(disch:=try exact dqd)only[ev1,simprocAttr,AV.int,AV.bool,AV.str,results48,z8,hI2,y0,y1,y2,z0,z1,z2,hw,hwn]
  ·have y2:decide (0 - a > 1000000000000 / q)=false:=by simpa using hc
   have hm:mulT a q=(a*q,true):=by
    have:¬ 1000000000000<(0 - a)*q:=fun h=>hc ((hlt _).2 h)
    rw [hx] at this
    have hn:inB (a*q)=true:=Hy.2 ⟨by omega,by omega⟩
    simp [mulT,hn]
   rw [hm]
   refine opP func48 ntmps48 (hp3:=rfl) ?_
   simp (maxSteps:=10^6)+contextual(disch:=try exact dqd)only[ev1,simprocAttr,AV.int,AV.bool,AV.str,results48,z8,hI2,y0,y1,y2,z0,z1,z2,hw,hwn,hwm]
 ·have y1:decide (a<0)=false:=by simpa using an
  have hp:0<=a*q:=Int.mul_nonneg (by omega) (by omega)
  by_cases hc:a > 1000000000000 / q
  ·have y2:decide (a > 1000000000000 / q)=true:=by simpa using hc
   have hm:mulT a q=(0,false):=by
    have:=(hlt _).1 hc
    have hn:¬ inB (a*q)=true:=fun h=>by have:=Hy.1 h; omega
    simp [mulT,hn]
   rw [hm]
   refine opP func48 ntmps48 (hp3:=rfl) ?_
   simp (maxSteps:=10^6)+contextual(disch:=try exact dqd)only[ev1,simprocAttr,AV.int,AV.bool,AV.str,results48,z8,hI2,y0,y1,y2,z0,z1,z2,hw]
  ·have y2:decide (a > 1000000000000 / q)=false:=by simpa using hc
   have hm:mulT a q=(a*q,true):=by
    have:¬ 1000000000000<a*q:=fun h=>hc ((hlt _).2 h)
    have hn:inB (a*q)=true:=Hy.2 ⟨by omega,by omega⟩
    simp [mulT,hn]
   rw [hm]
   refine opP func48 ntmps48 (hp3:=rfl) ?_
   simp (maxSteps:=10^6)+contextual(disch:=try exact dqd)only[ev1,simprocAttr,AV.int,AV.bool,AV.str,results48,z8,hI2,y0,y1,y2,z0,z1,z2,hw,hwm]
set_option maxRecDepth 100000 in
theorem Agf (cs:List (ByteArray × Int)) (n q:Int) (h0:B1 cs n=0) (h1:1<=q) (h9:q<=9):cL prog 19 [linA cs n,.int q] S tk k=some (.tup [linA (Ej cs n q).1.1 (Ej cs n q).1.2,.bool (Ej cs n q).2],S,tk,k):=by
 have hlen:=Ju h0
 obtain ⟨hn9,hc9⟩:=Xm h0
 have hC:=fun S tk k=>Xy S tk k cs n (by omega)
 simp only [linA,An] at hC
 have d0:(B1 cs n != 0)=false:=by simp [h0]
 have d1:(q == 0)=false:=by simp; omega
 refine opP func19 ntmps19 (hp3:=rfl) ?_
 simp (maxSteps:=10^6)+contextual(disch:=try exact dqd)only[ev1,simprocAttr,AV.int,AV.bool,AV.str,results19,linA,An,hC,d0,d1]
 refine loop1 (P:=prog) (fun x st=>st.T.length=70/\(x.1<=cs.length)/\(Be st.tk x.2 2=true)/\(((cs.take x.1).all fun y=>inB (y.2*q))=true)/\getT st.T 1=.int q/\getT st.T 2=.ref 0 0 0/\getT st.T 4=.ref 1 1 0/\getT st.T 6=.ref 2 2 0/\getT st.T 7=.int (x.1:Nat)/\st.S=[⟨0,[An cs,.int n]⟩,⟨1,[.frz [] .nilc,.int 0]⟩,⟨2,[.frz (((cs.take x.1).map (mulC q)).map Dv) x.2,.int 0]⟩]) (fun x=>cs.length - x.1) (fun x=>.tup [linA (Ej cs n q).1.1 (Ej cs n q).1.2,.bool (Ej cs n q).2]) (0,.nilc) ?_ ?_
 case refine_2=>exact ⟨rfl,Nat.zero_le _,rfl,rfl,rfl,rfl,rfl,rfl,rfl,rfl⟩
 rintro ⟨i,c⟩ ⟨T,S',tk',n'⟩ ⟨hl,hi,ab,bc,e1,e2,e4,e6,e7,eS⟩ IH
 simp only at hi ab bc e1 e2 e4 e6 e7 eS
 subst eS
 obtain ⟨g,hg,hT⟩:=Av hl
 rw [hg] at e1 e2 e4 e6 e7
 subst hT
 clear hg hl
 by_cases hlt:i<cs.length
 ·have d1:decide ((i:Int)<(cs.length:Int))=true:=by simpa using hlt
  obtain ⟨x,hc⟩:=Ag hlt
  have eh:nth (cs.map Dv) i=some (Dv x):=by rw [El,hc]; rfl
  have hw:=B9 (i:=i) (by omega)
  have hr:=Gx (f:=Dv) (sz:=2) (fun _=>rfl) ((cs.take i).map (mulC q))
  have hn:(((cs.take i).map (mulC q)).map Dv).length+1<=1048576:=by simp; omega
  have dc:=Bv ab
  have hxm:x ∈ cs:=by rw [Ae] at hc; exact List.mem_of_getElem? hc
  have hM:=fun S tk k=>Ah2 S tk k x.2 q (Hy.2 (by have:=(hc9 x hxm).1; omega)) h1 h9
  simp only [Dv] at eh
  by_cases hx:inB (x.2*q)=true
  ·have mj:mulT x.2 q=(x.2*q,true):=by simp [mulT,hx]
   rw [mj] at hM
   simp (maxSteps:=10^6)+contextual(disch:=try exact dqd)only[ev1,simprocAttr,AV.int,AV.bool,AV.str,results19,e1,e2,e4,e6,e7,d1,An,eh,hw,Dv,hM,hr]
   exact IH (i+1,Bb tk' c 2) _ (by first|omega|(simp only; omega)) ⟨rfl,hlt,dc,by rw [Dp hc,List.all_append,bc]; simp [hx],(by first|rfl|simp only [getT,List.map_append,List.map_cons,List.map_nil,Dv,An]),(by first|rfl|simp only [getT,List.map_append,List.map_cons,List.map_nil,Dv,An]),(by first|rfl|simp only [getT,List.map_append,List.map_cons,List.map_nil,Dv,An]),(by first|rfl|simp only [getT,List.map_append,List.map_cons,List.map_nil,Dv,An]),(by first|rfl|simp only [getT,List.map_append,List.map_cons,List.map_nil,Dv,An]),by simp only [Dp hc,List.map_append,List.map_cons,List.map_nil,Dv,An,mulC]⟩
  ·have mj:mulT x.2 q=(0,false):=by simp [mulT,hx]
   have hs:Ej cs n q=(([],0),false):=by
    have ha:¬ (cs.all fun c=>inB (c.2*q))=true:=fun h=>hx (List.all_eq_true.1 h x hxm)
    simp [Ej,ha]
   rw [mj] at hM
   rw [hs]
   simp (maxSteps:=10^6)+contextual(disch:=try exact dqd)only[ev1,simprocAttr,AV.int,AV.bool,AV.str,results19,e1,e2,e4,e6,e7,d1,An,eh,hw,Dv,hM,hr,linA,List.map_nil]
 ·have d1:decide ((i:Int)<(cs.length:Int))=false:=by simpa using hlt
  have he:i=cs.length:=by omega
  subst he
  rw [List.take_length] at bc
  rw [List.take_length]
  by_cases jk:n=0
  ·have d2:(n != 0)=false:=by simp [jk]
   have hs:Ej cs n q=((cs.map (mulC q),0),true):=by subst jk; have hz:inB 0=true:=rfl; simp [Ej,bc,hz]
   rw [hs]
   simp (maxSteps:=10^6)+contextual(disch:=try exact dqd)only[ev1,simprocAttr,AV.int,AV.bool,AV.str,results19,e1,e2,e4,e6,e7,d1,d2,An,linA]
  ·have d2:(n != 0)=true:=by simpa using jk
   have hM:=fun S tk k=>Ah2 S tk k n q (Hy.2 (by omega)) h1 h9
   by_cases hx:inB (n*q)=true
   ·have mj:mulT n q=(n*q,true):=by simp [mulT,hx]
    have hs:Ej cs n q=((cs.map (mulC q),n*q),true):=by simp [Ej,bc,hx]
    rw [mj] at hM
    rw [hs]
    simp (maxSteps:=10^6)+contextual(disch:=try exact dqd)only[ev1,simprocAttr,AV.int,AV.bool,AV.str,results19,e1,e2,e4,e6,e7,d1,d2,An,linA,hM]
   ·have mj:mulT n q=(0,false):=by simp [mulT,hx]
    have hs:Ej cs n q=(([],0),false):=by simp [Ej,hx]
    rw [mj] at hM
    rw [hs]
    simp (maxSteps:=10^6)+contextual(disch:=try exact dqd)only[ev1,simprocAttr,AV.int,AV.bool,AV.str,results19,e1,e2,e4,e6,e7,d1,d2,An,linA,hM,List.map_nil]
end
end
section
open Go Go.Proofs.Tryz
def Aky (S:List Ent) (tk:List Nat) (ia ea iq eq:Nat) (l:List Q) (fl:Bool) (r:Rs):Prop :=
 ∃ S' k',r=(.tup [],S',tk,k')/\S'.length=S.length/\entAt S' ia ea=some (flat ceW l)/\FAw S' iq eq fl/\∀ j,j≠ia->j≠iq->nth S' j=nth S j
section
variable (S:List Ent) (tk:List Nat) (k iq eq:Nat) (fl:Bool)
set_option maxHeartbeats 4000000 in
set_option maxRecDepth 100000 in
theorem Aoy (it et ia ea ij ej W c:Nat) (rest:List AV) (a row:List Q) (ht:entAt S it et=some (.ifc 100 (.agg []) :: rest)) (hq:FAw S iq eq fl) (ha:entAt S ia ea=some (flat ceW a)) (hr:entAt S ij ej=some (flat ceW row))
  (la:a.length=W) (lr:row.length=W) (hc:c<W) (hWb:W<=1000000) (oa:okL wF a) (orr:okL wF row) (ne1:ia≠ij) (ne2:ia≠it) (ne3:ia≠iq) (ne4:iq≠it) (ne5:iq≠ij) :
  ∃ r,cL prog 117 [.ref it et 0,.sref ia ea 0 W 4,.sref ij ej 0 W 4,.int c] S tk k=some r/\Aky S tk ia ea iq eq (lessT wF a row c).1 (fl || (lessT wF a row c).2) r:=by
 obtain ⟨Φ,hΦ⟩:∃ Φ,Φ=Aky S tk ia ea iq eq (lessT wF a row c).1 (fl || (lessT wF a row c).2):=⟨_,rfl⟩
 rw [<- hΦ]
 obtain ⟨b,hb⟩:=Ag (show c<a.length by omega)
 have ob:wF.ok b:=oa b (by rw [Ae] at hb; exact List.mem_of_getElem? hb)
 have yj:=Ar Ap hb
 have hlt:lessT wF a row c=if sgn b=0 then (a,false) else lessL wF b a row:=by unfold lessT; rw [hb]
 have hs:=Zz S tk k iq eq fl b ob hq
 refine opG func117 ntmps117 ?_
 by_cases h0:sgn b=0
 ·have d1:(sgn b == 0)=true:=by simpa using h0
  simp (maxSteps:=10^6)+contextual(disch:=try exact dqd)only[evg1,simprocAttr,AV.int,AV.bool,AV.str,results117,ht,ha,hc,yj,hs,d1,Et,xfs,puW]
  rw [hlt,if_pos h0] at hΦ
  rw [hΦ]
  exact ⟨S,_,rfl,rfl,ha,by rw [Bool.or_false]; exact hq,fun j _ _=>rfl⟩
 have d1:(sgn b == 0)=false:=by simpa using h0
 rw [hlt,if_neg h0] at hΦ
 simp (maxSteps:=10^6)+contextual(disch:=try exact dqd)only[evg1,simprocAttr,AV.int,AV.bool,AV.str,results117,ht,ha,hc,yj,hs,d1,Et,xfs,puW,Ap,A9,ovW]
 refine Ef (P:=prog) (fun x st=>st.T.length=70/\(lessL wF b a row=(x.2.2.1++(lessL wF b x.2.2.2.1 x.2.2.2.2.1).1,x.2.2.2.2.2 || (lessL wF b x.2.2.2.1 x.2.2.2.2.1).2))/\(x.2.2.1.length+x.2.2.2.1.length=W)/\(x.2.2.2.1.length=x.2.2.2.2.1.length)/\(∃ pr,row=pr++x.2.2.2.2.1/\pr.length=x.2.2.1.length)/\(x.1.length=S.length)/\(entAt x.1 ia ea=some (flat ceW (x.2.2.1++x.2.2.2.1)))/\(FAw x.1 iq eq (fl || x.2.2.2.2.2))/\(∀ j,j≠ia->j≠iq->nth x.1 j=nth S j)/\(okL wF x.2.2.2.1)/\(okL wF x.2.2.2.2.1)/\getT st.T 0=.ref it et 0/\getT st.T 1=.sref ia ea 0 W 4/\getT st.T 2=.sref ij ej 0 W 4/\getT st.T 8=.ref S.length (k+0) 0/\getT st.T 27=.int (W:Nat)/\getT st.T 28=.int (x.2.2.1.length:Nat)/\st.S=x.1++[⟨k+0,ceW b⟩]/\st.tk=tk/\st.n=x.2.1) (fun x=>x.2.2.2.2.1.length) (S,(k+0+1),([]:List Q),a,row,false) ?_ ?_
 case refine_2=>exact ⟨rfl,by simp,by simpa using la,la.trans lr.symm,⟨[],rfl,rfl⟩,rfl,ha,by rw [Bool.or_false]; exact hq,fun j _ _=>rfl,oa,orr,rfl,rfl,rfl,rfl,rfl,rfl,rfl,rfl,rfl⟩
 rintro ⟨S1,n1,p,u,rs,fp⟩ ⟨T,S',tk',n'⟩ ⟨hl,hR,hW,hu,cr,cj,he,hf,hj,ou,ors,e0,e1,e2,e8,e27,e28,eS,eT,eN⟩ IH
 simp only at hR hW hu cr cj he hf hj ou ors e0 e1 e2 e8 e27 e28 eS eT eN
 subst eS eT eN
 obtain ⟨g,hg,hT⟩:=Av hl
 rw [hg] at e0 e1 e2 e8 e27 e28
 subst hT
 clear hg hl
 by_cases cu:p.length<W
 ·have c1:decide ((p.length:Int)<(W:Int))=true:=by simpa using cu
  obtain ⟨a0,u,rfl⟩:∃ a0 u',u=a0 :: u':=by
   cases u with
   | nil=>simp at hW; omega
   | cons x u=>exact ⟨x,u,rfl⟩
  obtain ⟨r0,rs,rfl⟩:∃ r0 rs',rs=r0 :: rs':=by
   cases rs with
   | nil=>simp at hu
   | cons x u=>exact ⟨x,u,rfl⟩
  obtain ⟨pr,k9,ny⟩:=cr
  have oa0:=ou a0 (by simp)
  have or0:=ors r0 (by simp)
  have wu:nth row p.length=some r0:=by rw [k9,<- ny]; exact Ee
  have bo:=Ar Ap wu
  have td:=Ar (ce:=ceW) Ap (Ee (p:=p) (u:=u) (x:=a0))
  obtain ⟨E,hE⟩:∃ E:Ent,E=⟨k+0,ceW b⟩:=⟨_,rfl⟩
  have hbT:entAt (S1++[E]) S.length (k+0)=some (ceW b):=by rw [hE]; exact Ai cj
  rw [<- hE]
  have bv:entAt S1 it et=some (.ifc 100 (.agg []) :: rest):=by rw [Ab (hj it ne2.symm ne4.symm)]; exact ht
  have bw:entAt S1 ij ej=some (flat ceW row):=by rw [Ab (hj ij ne1.symm ne5.symm)]; exact hr
  have htT:entAt (S1++[E]) it et=some (.ifc 100 (.agg []) :: rest):=Aa bv
  have hrT:entAt (S1++[E]) ij ej=some (flat ceW row):=Aa bw
  have heT:entAt (S1++[E]) ia ea=some (flat ceW (p++a0 :: u)):=Aa he
  have hfT:=hf.app (L:=[E])
  have d6:=Zz (S1++[E]) tk' n' iq eq (fl || fp) r0 or0 hfT
  have bg:=A7 he
  have uz:rs.length<(r0 :: rs).length:=by simp
  have hw:IntKind.i64.wrap ((p.length:Int)+1)=(((p++[a0]).length:Nat):Int):=by rw [Ad (by unfold i64; omega)]; simp
  by_cases hz:sgn r0=0
  ·have c2:(sgn r0 != 0)=false:=by simpa using hz
   simp (maxSteps:=10^6)+contextual(disch:=try exact dqd)only[evg1,simprocAttr,AV.int,AV.bool,AV.str,results117,e0,e1,e2,e8,e27,e28,c1,c2,hw,htT,hrT,bo,cu,d6,Et,xfs,puW]
   have aj:Ji wF b a0 r0=(a0,false):=by unfold Ji; rw [if_pos hz]
   exact IH (S1,n'+0,p++[a0],u,rs,fp) _ (by first|omega|(simp only; omega)) ⟨rfl,by rw [hR]; simp only [lessL,aj,List.append_assoc,List.cons_append,List.nil_append,Bool.false_or],by show (p++[a0]).length+u.length=W; simp only [List.length_append,List.length_cons,List.length_nil] at hW ⊢; omega,by simpa using hu,⟨pr++[r0],by rw [k9]; simp,by simp [ny]⟩,cj,by simpa using he,hf,hj,fun q hq=>ou q (by simp [hq]),fun q hq=>ors q (by simp [hq]),(by first|rfl|simp only [getT,List.map_append]),(by first|rfl|simp only [getT,List.map_append]),(by first|rfl|simp only [getT,List.map_append]),(by first|rfl|simp only [getT,List.map_append]),(by first|rfl|simp only [getT,List.map_append]),(by first|rfl|simp only [getT,List.map_append]),by simp only [hE],rfl,rfl⟩
  ·have c2:(sgn r0 != 0)=true:=by simpa using hz
   obtain ⟨x,hx⟩:∃ x,x=wF.times b r0:=⟨_,rfl⟩
   obtain ⟨y,hy⟩:∃ y,y=wF.minus a0 x.1:=⟨_,rfl⟩
   have re:IntKind.i64.wrap ((p.length:Int)+1)=(((p++[y.1]).length:Nat):Int):=by rw [Ad (by unfold i64; omega)]; simp
   have ox:wF.ok x.1:=by rw [hx]; exact B7.times _ _ ob or0
   have oy:wF.ok y.1:=by rw [hy]; exact B7.minus _ _ oa0 ox
   have db:=Aaw (S1++[E]) tk' (n'+0) iq eq (fl || fp) b r0 ob or0 hfT
   have hg1:=Eg (c:=x.2) hfT
   rw [<- hx] at db
   rw [Ha hf] at db hg1
   obtain ⟨S2,a8⟩:∃ S2,S2=flW S1 iq eq x.2:=⟨_,rfl⟩
   rw [<- a8] at db hg1
   have b8:FAw S2 iq eq ((fl || fp) || x.2):=by rw [a8]; exact hf.fS
   have fi:=Lo (S2++[E]) tk' (n'+0+0) iq eq ((fl || fp) || x.2) a0 x.1 oa0 ox (b8.app (L:=[E]))
   have hg2:=Eg (c:=y.2) (b8.app (L:=[E]))
   rw [<- hy] at fi
   rw [Ha b8] at fi hg2
   obtain ⟨S3,da⟩:∃ S3,S3=flW S2 iq eq y.2:=⟨_,rfl⟩
   rw [<- da] at fi hg2
   have df:FAw S3 iq eq (((fl || fp) || x.2) || y.2):=by rw [da]; exact b8.fS
   have dx:S3.length=S.length:=by rw [da,Bq,a8,Bq,cj]
   have b6:∀ j,j≠iq->nth S3 j=nth S1 j:=fun j hj=>by rw [da,Bi hj,a8,Bi hj]
   have nq:entAt S3 ia ea=some (flat ceW (p++a0 :: u)):=by rw [Ab (b6 ia ne3)]; exact he
   have a0y:entAt (S3++[E]) ia ea=some (flat ceW (p++a0 :: u)):=Aa nq
   have ho:=A4 (ce:=ceW) Ap (l:=p++a0 :: u) (k:=p.length) (q':=y.1) (by simp)
   rw [Ge] at ho
   have hp3:=fun x=>Dd (L:=[E]) (x:=x) (A7 nq)
   have io:∀ x,List.take (S1++[E]).length (put S3 ia x++[E])=put S3 ia x++[E]:=fun x=>List.take_of_length_le (by simp [Ah,dx,cj])
   simp (maxSteps:=10^6)+contextual(disch:=try exact dqd)only[evg1,simprocAttr,AV.int,AV.bool,AV.str,results117,e0,e1,e2,e8,e27,e28,c1,c2,io,re,htT,hrT,heT,hbT,bo,td,cu,d6,db,fi,hg1,hg2,a0y,ho,hp3,Et,xfs,puW,Ap,A9,tkW]
   have aj:Ji wF b a0 r0=(y.1,x.2 || y.2):=by unfold Ji; rw [if_neg hz,hy,hx]
   exact IH (put S3 ia ⟨ea,flat ceW (p++y.1 :: u)⟩,n'+0+0+0,p++[y.1],u,rs,Bool.or fp (Bool.or x.2 y.2)) _ (by first|omega|(simp only; omega)) ⟨rfl,by rw [hR]; simp only [lessL,aj,List.append_assoc,List.cons_append,List.nil_append,Bool.or_assoc],by show (p++[y.1]).length+u.length=W; simp only [List.length_append,List.length_cons,List.length_nil] at hW ⊢; omega,by simpa using hu,⟨pr++[r0],by rw [k9]; simp,by simp [ny]⟩,Ah.trans dx,by rw [Af (A7 nq)]; simp,by have:=df.put (x:=⟨ea,flat ceW (p++y.1 :: u)⟩) ne3; simpa only [Bool.or_assoc] using this,fun j h1 h2=>by rw [Ac (Ne.symm h1),b6 j h2]; exact hj j h1 h2,fun q hq=>ou q (by simp [hq]),fun q hq=>ors q (by simp [hq]),(by first|rfl|simp only [getT,List.map_append]),(by first|rfl|simp only [getT,List.map_append]),(by first|rfl|simp only [getT,List.map_append]),(by first|rfl|simp only [getT,List.map_append]),(by first|rfl|simp only [getT,List.map_append]),(by first|rfl|simp only [getT,List.map_append]),by simp only [hE],rfl,rfl⟩
 ·have c1:decide ((p.length:Int)<(W:Int))=false:=by simpa using cu
  have yp:u=[]:=List.length_eq_zero_iff.1 (by omega)
  subst yp
  simp (maxSteps:=10^6)+contextual(disch:=try exact dqd)only[evg1,simprocAttr,AV.int,AV.bool,AV.str,results117,e0,e1,e2,e8,e27,e28,c1]
  rw [hΦ,Je cj]
  simp only [lessL] at hR
  rw [hR]
  exact ⟨S1,n',rfl,cj,he,by rw [Bool.or_false]; exact hf,hj⟩
end
end
section
open Go
structure A2 (S:List Ent) (iq eq:Nat) (I:TI) (t:Tb) (c:Cap):Prop where
 top:entAt S I.it I.et=some [.ifc 100 (.agg []),intA t.vars,intA t.real,cw I.ir I.er 1 t.rows.length,.sref I.ic I.ec 0 t.cost.length 4,cw I.ib I.eb 1 t.rows.length,.frz (t.flip.map D5) c]
 nids:I.ids.length=t.rows.length
 rowsE:t.rows≠[]->entAt S I.ir I.er=some (I.ids.map (gt t.cost.length 4))
 rowE:∀ i p r,nth I.ids i=some p->nth t.rows i=some r->entAt S p.1 p.2=some (flat ceW r)
 rowW:∀ r ∈ t.rows,r.length=t.cost.length
 costE:entAt S I.ic I.ec=some (flat ceW t.cost)
 basisE:t.rows≠[]->entAt S I.ib I.eb=some (t.basis.map intA)
 nb:t.basis.length=t.rows.length
 nf:t.flip.length=t.rows.length
 fa:FAw S iq eq t.fl
 ap:Apart I iq
 okr:∀ r ∈ t.rows,okL wF r
 okc:okL wF t.cost
 bigW:t.cost.length<=1000000
 bigM:t.rows.length<=1000000
 real:t.real<t.cost.length
 bB:∀ b ∈ t.basis,b<t.cost.length
section
variable {S S':List Ent} {iq eq:Nat} {I:TI} {t:Tb} {c:Cap}
theorem A2.row (h:A2 S iq eq I t c) {i:Nat} {p:Nat × Nat} {r0 r':List Q} {fl':Bool} (hp:nth I.ids i=some p) (hr:nth t.rows i=some r0) (hl:r'.length=t.cost.length) (ho:okL wF r') (hS:∀ j,j≠p.1->j≠iq->nth S' j=nth S j) (he:entAt S' p.1 p.2=some (flat ceW r')) (hf:FAw S' iq eq fl') :
  A2 S' iq eq I { t with rows:=put t.rows i r',fl:=fl' } c:=by
 have bg:i<t.rows.length:=Bk hr
 have m6:=h.ap.row p (Al hp)
 have key:∀ j e,j≠p.1->j≠iq->entAt S' j e=entAt S j e:=fun j e h1 h2=>Ab (hS j h1 h2)
 have hne:put t.rows i r'≠[]->t.rows≠[]:=fun hn h0=>hn (Afp.2 h0)
 refine ⟨?_,by rw [Ak]; exact h.nids,fun hn=>?_,fun j q r hq ae=>?_,fun r ae=>?_,?_,fun hn=>?_,by rw [Ak]; exact h.nb,by rw [Ak]; exact h.nf,hf,h.ap,fun r ae=>?_,h.okc,h.bigW,by rw [Ak]; exact h.bigM,h.real,h.bB⟩
 ·rw [key _ _ m6.1.symm h.ap.qt.symm,Ak]; exact h.top
 ·rw [key _ _ m6.2.1.symm h.ap.qr.symm]; exact h.rowsE (hne hn)
 ·rw [U6 bg] at ae
  by_cases e:j=i
  ·subst e
   rw [if_pos rfl] at ae
   rw [hp] at hq
   simp only [Option.some.injEq] at ae hq
   subst ae; subst hq; exact he
  ·rw [if_neg e] at ae
   have hq2:=h.ap.row q (Al hq)
   rw [key _ _ (h.ap.rows j i q p hq hp e) hq2.2.2.2.2]; exact h.rowE j q r hq ae
 ·rcases Bw ae with rfl|ae
  ·exact hl
  ·exact h.rowW r ae
 ·rw [key _ _ m6.2.2.1.symm h.ap.qc.symm]; exact h.costE
 ·rw [key _ _ m6.2.2.2.1.symm h.ap.qb.symm]; exact h.basisE (hne hn)
 ·rcases Bw ae with rfl|ae
  ·exact ho
  ·exact h.okr r ae
theorem A2.setCost (h:A2 S iq eq I t c) {k':List Q} {fl':Bool} (hl:k'.length=t.cost.length) (ho:okL wF k') (hS:∀ j,j≠I.ic->j≠iq->nth S' j=nth S j) (he:entAt S' I.ic I.ec=some (flat ceW k')) (hf:FAw S' iq eq fl') :
  A2 S' iq eq I { t with cost:=k',fl:=fl' } c:=by
 have key:∀ j e,j≠I.ic->j≠iq->entAt S' j e=entAt S j e:=fun j e h1 h2=>Ab (hS j h1 h2)
 refine ⟨?_,h.nids,fun hn=>?_,fun j q r hq ae=>?_,fun r ae=>by rw [hl]; exact h.rowW r ae,he,fun hn=>?_,h.nb,h.nf,hf,h.ap,h.okr,ho,by rw [hl]; exact h.bigW,h.bigM,by rw [hl]; exact h.real,fun b hb=>by rw [hl]; exact h.bB b hb⟩
 ·rw [key _ _ h.ap.tc h.ap.qt.symm,hl]; exact h.top
 ·rw [key _ _ h.ap.rc h.ap.qr.symm,hl]; exact h.rowsE hn
 ·have hq2:=h.ap.row q (Al hq)
  rw [key _ _ hq2.2.2.1 hq2.2.2.2.2]; exact h.rowE j q r hq ae
 ·rw [key _ _ h.ap.cb.symm h.ap.qb.symm]; exact h.basisE hn
theorem A2.setBasis (h:A2 S iq eq I t c) {i b:Nat} (jk:t.rows≠[]) (hb:b<t.cost.length):A2 (put S I.ib ⟨I.eb,(put t.basis i b).map intA⟩) iq eq I { t with basis:=put t.basis i b } c:=by
 have bg:=A7 (h.basisE jk)
 have key:∀ j e,j≠I.ib->entAt (put S I.ib ⟨I.eb,(put t.basis i b).map intA⟩) j e=entAt S j e:=fun j e h1=>Aj (Ne.symm h1)
 refine ⟨?_,h.nids,fun hn=>?_,fun j q r hq ae=>?_,h.rowW,?_,fun hn=>Af bg,by rw [Ak]; exact h.nb,h.nf,h.fa.put h.ap.qb.symm,h.ap,h.okr,h.okc,h.bigW,h.bigM,h.real,fun x hx=>?_⟩
 ·rw [key _ _ h.ap.tb]; exact h.top
 ·rw [key _ _ h.ap.rb]; exact h.rowsE hn
 ·have hq2:=h.ap.row q (Al hq)
  rw [key _ _ hq2.2.2.2.1]; exact h.rowE j q r hq ae
 ·rw [key _ _ h.ap.cb]; exact h.costE
 ·rcases Bw hx with rfl|hx
  ·exact hb
  ·exact h.bB x hx
theorem A2.flag (h:A2 S iq eq I t c) {fl':Bool} (hS:∀ j,j≠iq->nth S' j=nth S j) (hf:FAw S' iq eq fl'):A2 S' iq eq I { t with fl:=fl' } c:=by
 have key:∀ j e,j≠iq->entAt S' j e=entAt S j e:=fun j e h1=>Ab (hS j h1)
 refine ⟨?_,h.nids,fun hn=>?_,fun j q r hq ae=>?_,h.rowW,?_,fun hn=>?_,h.nb,h.nf,hf,h.ap,h.okr,h.okc,h.bigW,h.bigM,h.real,h.bB⟩
 ·rw [key _ _ h.ap.qt.symm]; exact h.top
 ·rw [key _ _ h.ap.qr.symm]; exact h.rowsE hn
 ·have hq2:=h.ap.row q (Al hq)
  rw [key _ _ hq2.2.2.2.2]; exact h.rowE j q r hq ae
 ·rw [key _ _ h.ap.qc.symm]; exact h.costE
 ·rw [key _ _ h.ap.qb.symm]; exact h.basisE hn
theorem A2.app (h:A2 S iq eq I t c) (L:List Ent):A2 (S++L) iq eq I t c :=
 ⟨Aa h.top,h.nids,fun hn=>Aa (h.rowsE hn),fun j q r hq hr=>Aa (h.rowE j q r hq hr),h.rowW,Aa h.costE,fun hn=>Aa (h.basisE hn),h.nb,h.nf,h.fa.app,h.ap,h.okr,h.okc,h.bigW,h.bigM,h.real,h.bB⟩
structure LowW (I:TI) (iq n:Nat) (t:Tb):Prop where
 it:I.it<n
 ic:I.ic<n
 ir:t.rows≠[]->I.ir<n
 ib:t.rows≠[]->I.ib<n
 row:∀ p ∈ I.ids,p.1<n
 iq:True
theorem A2.low (h:A2 S iq eq I t c):LowW I iq S.length t:=by
 refine ⟨A7 h.top,A7 h.costE,fun hn=>A7 (h.rowsE hn),fun hn=>A7 (h.basisE hn),fun p hp=>?_,trivial⟩
 obtain ⟨i,hi⟩:=List.getElem?_of_mem hp
 have bg:=(List.getElem?_eq_some_iff.1 hi).1
 obtain ⟨r,hr⟩:=Ag (show i<t.rows.length by rw [<- h.nids]; exact bg)
 exact A7 (h.rowE i p r (by rw [Ae]; exact hi) hr)
theorem A2.take (h:A2 S iq eq I t c) {n:Nat} (hl:LowW I iq n t):A2 (S.take n) iq eq I t c:=by
 refine ⟨by rw [D6 hl.it]; exact h.top,h.nids,fun hn=>by rw [D6 (hl.ir hn)]; exact h.rowsE hn,fun j q r hq hr=>by rw [D6 (hl.row q (Al hq))]; exact h.rowE j q r hq hr,h.rowW,by rw [D6 hl.ic]; exact h.costE,fun hn=>by rw [D6 (hl.ib hn)]; exact h.basisE hn,h.nb,h.nf,h.fa.take hl.iq,h.ap,h.okr,h.okc,h.bigW,h.bigM,h.real,h.bB⟩
theorem LowW.of {n:Nat} {t':Tb} (h:LowW I iq n t) (hn:t'.rows≠[]->t.rows≠[]):LowW I iq n t':=⟨h.it,h.ic,fun h'=>h.ir (hn h'),fun h'=>h.ib (hn h'),h.row,h.iq⟩
theorem A2.frame (h:A2 S iq eq I t c) {n:Nat} {fl':Bool} (hl:LowW I iq n t) (hS:∀ j,j<n->j≠iq->nth S' j=nth S j) (hf:FAw S' iq eq fl'):A2 S' iq eq I { t with fl:=fl' } c:=by
 have key:∀ j e,j<n->j≠iq->entAt S' j e=entAt S j e:=fun j e h1 h2=>Ab (hS j h1 h2)
 refine ⟨?_,h.nids,fun hn=>?_,fun j q r hq ae=>?_,h.rowW,?_,fun hn=>?_,h.nb,h.nf,hf,h.ap,h.okr,h.okc,h.bigW,h.bigM,h.real,h.bB⟩
 ·rw [key _ _ hl.it h.ap.qt.symm]; exact h.top
 ·rw [key _ _ (hl.ir hn) h.ap.qr.symm]; exact h.rowsE hn
 ·have hq2:=h.ap.row q (Al hq)
  rw [key _ _ (hl.row q (Al hq)) hq2.2.2.2.2]; exact h.rowE j q r hq ae
 ·rw [key _ _ hl.ic h.ap.qc.symm]; exact h.costE
 ·rw [key _ _ (hl.ib hn) h.ap.qb.symm]; exact h.basisE hn
def OutW (I:TI) (iq j:Nat):Prop:=j≠iq/\j≠I.ic/\j≠I.ib/\∀ p ∈ I.ids,j≠p.1
def Xq (S:List Ent) (tk:List Nat) (iq eq:Nat) (I:TI) (t':Tb) (cc:Cap) (v:AV) (r:Rs):Prop :=
 ∃ S' k',r=(v,S',tk,k')/\S'.length=S.length/\A2 S' iq eq I t' cc/\∀ j,OutW I iq j->nth S' j=nth S j
end
end
section
open Go Go.Proofs.Tryz
theorem Z7 {F:Fld} (hF:F.Keeps) {b:Q} (hb:F.ok b):∀ {l:List Q},okL F l->okL F (divL F b l).1
 | [],h=>h
 | x :: l,h=>by
  intro q hq
  simp only [divL,List.mem_cons] at hq
  rcases hq with rfl|hq
  ·unfold dvS
   split
   ·exact h _ (by simp)
   ·exact hF.over _ _ (h _ (by simp)) hb
  ·exact Z7 hF hb (fun q hq=>h q (by simp [hq])) q hq
theorem Np {F:Fld} {l m:List Q} {c:Nat} : (lessT F l m c).1.length=l.length:=by
 unfold lessT
 split
 ·split
  ·rfl
  ·exact Mu
 ·rfl
theorem Wl {F:Fld} (hF:F.Keeps) {l m:List Q} {c:Nat} (h:okL F l) (h':okL F m):okL F (lessT F l m c).1:=by
 unfold lessT
 split
 ·rename_i b hb
  split
  ·exact h
  ·exact Vc hF (h b (Al hb)) h h'
 ·exact h
section
variable (S:List Ent) (tk:List Nat) (k iq eq:Nat)
set_option maxHeartbeats 8000000 in
set_option maxRecDepth 100000 in
theorem Anw (I:TI) (t:Tb) (cc:Cap) (i c:Nat) (ag:A2 S iq eq I t cc) (hi:i<t.rows.length) (hc:c<t.cost.length) :
  ∃ r,cL prog 114 [.ref I.it I.et 0,.int i,.int c] S tk k=some r/\Xq S tk iq eq I (Dq wF t i c) cc (.tup []) r:=by
 obtain ⟨Φ,hΦ⟩:∃ Φ,Φ=Xq S tk iq eq I (Dq wF t i c) cc (.tup []):=⟨_,rfl⟩
 rw [<- hΦ]
 obtain ⟨row,cr⟩:=Ag hi
 obtain ⟨pi,lg⟩:=Ag (show i<I.ids.length by rw [ag.nids]; exact hi)
 have j7:=ag.rowW row (Al cr)
 have kn:=ag.okr row (Al cr)
 obtain ⟨b,hb⟩:=Ag (show c<row.length by omega)
 have ob:wF.ok b:=kn b (Al hb)
 have jk:t.rows≠[]:=fun h=>by rw [h] at hi; simp at hi
 have bm:0<t.rows.length:=by omega
 have ai:=ag.top
 rw [Ba bm,Ba bm] at ai
 have lh:=ag.rowsE jk
 have nh:nth (List.drop i (I.ids.map (gt t.cost.length 4))) 0=some (.sref pi.1 pi.2 0 t.cost.length 4):=Dj (by rw [Ae] at lg ⊢; rw [List.getElem?_map,lg]; rfl)
 have yj:=Ar (ce:=ceW) Ap hb
 have dk:=ag.rowE i pi row lg cr
 refine opG func114 ntmps114 ?_
 simp (maxSteps:=10^6)+contextual(disch:=try exact dqd)only[evg1,simprocAttr,AV.int,AV.bool,AV.str,results114,ai,lh,nh,yj,dk,hi,hc,Nat.mul_one,intA,Ap,A9,ovW]
 have hW:=ag.bigW
 have hM:=ag.bigM
 have az:=ag.low
 have di:=az.row pi (Al lg)
 have m6:=ag.ap.row pi (Al lg)
 have qh:=Wr cr
 have eT:({ t with rows:=t.rows,fl:=t.fl } : Tb)=t:=rfl
 refine Ef (P:=prog) (fun x st=>st.T.length=89/\(divL wF b row=(x.2.2.1++(divL wF b x.2.2.2.1).1,Bool.or x.2.2.2.2 (divL wF b x.2.2.2.1).2))/\(x.2.2.1.length+x.2.2.2.1.length=t.cost.length)/\(A2 x.1 iq eq I { t with rows:=put t.rows i (x.2.2.1++x.2.2.2.1),fl:=Bool.or t.fl x.2.2.2.2 } cc)/\(entAt x.1 S.length k=some (ceW b))/\(x.1.length=S.length+1)/\(∀ j,j<S.length->OutW I iq j->nth x.1 j=nth S j)/\(okL wF x.2.2.2.1)/\getT st.T 0=.ref I.it I.et 0/\getT st.T 1=.int (i:Nat)/\getT st.T 2=.int (c:Nat)/\getT st.T 6=.sref pi.1 pi.2 0 t.cost.length 4/\getT st.T 7=.ref S.length k 0/\getT st.T 23=.int (t.cost.length:Nat)/\getT st.T 24=.int (x.2.2.1.length:Nat)/\st.S=x.1/\st.tk=tk/\st.n=x.2.1) (fun x=>x.2.2.2.1.length) ((S++[⟨k,ceW b⟩]),(k+1),([]:List Q),row,false) ?_ ?_
 case refine_2=>exact ⟨rfl,by simp,by simpa using j7,by simp only [List.nil_append,qh,Bool.or_false]; exact ag.app _,Ai rfl,by simp,fun j hj _=>A6 hj,kn,rfl,rfl,rfl,rfl,rfl,rfl,rfl,rfl,rfl,rfl⟩
 rintro ⟨SS,n1,p,u,fp⟩ ⟨T,S',tk',n'⟩ ⟨hl,hR,kw,hT,zk,ee,aw,ou,e0,e1,e2,e6,e7,e23,e24,eS,eT,eN⟩ IH
 simp only at hR kw hT zk ee aw ou e0 e1 e2 e6 e7 e23 e24 eS eT eN
 subst eS eT eN
 obtain ⟨g,hg,hT⟩:=Av hl
 rw [hg] at e0 e1 e2 e6 e7 e23 e24
 subst hT
 clear hg hl
 by_cases cu:p.length<t.cost.length
 ·have c1:decide ((p.length:Int)<(t.cost.length:Int))=true:=by simpa using cu
  obtain ⟨a0,u,rfl⟩:∃ a0 u',u=a0 :: u':=by
   cases u with
   | nil=>simp at kw; omega
   | cons x u=>exact ⟨x,u,rfl⟩
  have oa0:=ou a0 (by simp)
  have td:=Ar (ce:=ceW) Ap (Ee (p:=p) (u:=u) (x:=a0))
  have wu:nth (put t.rows i (p++a0 :: u)) i=some (p++a0 :: u):=B3 hi
  have he:=hT.rowE i pi _ lg wu
  have bv:=hT.top
  have hs:=Zz S' tk' n' iq eq (Bool.or t.fl fp) a0 oa0 hT.fa
  have uz:u.length<(a0 :: u).length:=by simp
  have hw:IntKind.i64.wrap ((p.length:Int)+1)=(((p++[a0]).length:Nat):Int):=by rw [Ad (by unfold i64; omega)]; simp
  by_cases hz:sgn a0=0
  ·have c2:(sgn a0 != 0)=false:=by simpa using hz
   have aj:dvS wF b a0=(a0,false):=by unfold dvS; rw [if_pos hz]
   simp (maxSteps:=10^6)+contextual(disch:=try exact dqd)only[evg1,simprocAttr,AV.int,AV.bool,AV.str,results114,e0,e1,e2,e6,e7,e23,e24,c1,c2,hw,bv,he,td,cu,hs,Et,xfs,puW,tkW]
   exact IH (S',n'+0,p++[a0],u,fp) _ (by first|omega|(simp only; omega)) ⟨rfl,by rw [hR]; simp only [divL,aj,List.append_assoc,List.cons_append,List.nil_append,Bool.false_or],by show (p++[a0]).length+u.length=t.cost.length; simp only [List.length_append,List.length_cons,List.length_nil] at kw ⊢; omega,by simpa using hT,zk,ee,aw,fun q hq=>ou q (by simp [hq]),by and_intros <;> first|rfl|simp only [getT,List.map_append]⟩
  ·have c2:(sgn a0 != 0)=true:=by simpa using hz
   obtain ⟨y,hy⟩:∃ y,y=wF.over a0 b:=⟨_,rfl⟩
   have oy:wF.ok y.1:=by rw [hy]; exact B7.over _ _ oa0 ob
   have aj:dvS wF b a0=y:=by unfold dvS; rw [if_neg hz,hy]
   have re:IntKind.i64.wrap ((p.length:Int)+1)=(((p++[y.1]).length:Nat):Int):=by rw [Ad (by unfold i64; omega)]; simp
   have db:=Apv S' tk' (n'+0) iq eq (Bool.or t.fl fp) a0 b oa0 ob hT.fa
   have hg1:=Eg (c:=y.2) hT.fa
   rw [<- hy] at db
   obtain ⟨S2,a8⟩:∃ S2,S2=flW S' iq eq y.2:=⟨_,rfl⟩
   rw [<- a8] at db hg1
   have b8:FAw S2 iq eq (Bool.or (Bool.or t.fl fp) y.2):=by rw [a8]; exact hT.fa.fS
   have hl2:S2.length=S'.length:=by rw [a8,Bq]
   have a7:∀ j,j≠iq->nth S2 j=nth S' j:=fun j hj=>by rw [a8,Bi hj]
   have jm:nth S2 S.length=nth S' S.length:=by rw [a8]; rfl
   have he2:entAt S2 pi.1 pi.2=some (flat ceW (p++a0 :: u)):=by rw [Ab (a7 _ m6.2.2.2.2)]; exact he
   have ho:=A4 (ce:=ceW) Ap (l:=p++a0 :: u) (k:=p.length) (q':=y.1) (by simp)
   rw [Ge] at ho
   have io:∀ x,List.take S'.length (put S2 pi.1 x)=put S2 pi.1 x:=fun x=>List.take_of_length_le (by simp [Ah,hl2])
   simp (maxSteps:=10^6)+contextual(disch:=try exact dqd)only[evg1,simprocAttr,AV.int,AV.bool,AV.str,results114,e0,e1,e2,e6,e7,e23,e24,c1,c2,re,io,bv,he,td,zk,cu,hs,db,hg1,he2,ho,Et,xfs,puW,Ap,A9,tkW]
   have ig:Bool.or t.fl (Bool.or fp y.2)=Bool.or (Bool.or t.fl fp) y.2:=(Bool.or_assoc _ _ _).symm
   have co:=hT.row (S':=put S2 pi.1 ⟨pi.2,flat ceW (p++y.1 :: u)⟩) (r':=p++y.1 :: u) (fl':=Bool.or (Bool.or t.fl fp) y.2) lg wu (by simp only [List.length_append,List.length_cons] at kw ⊢; exact kw) (fun q hq=>by
    rcases List.mem_append.1 hq with h|h
    ·exact hT.okr _ (Al wu) q (by simp [h])
    ·rcases List.mem_cons.1 h with rfl|h
     ·exact oy
     ·exact ou q (by simp [h])) (fun j h1 h2=>by rw [Ac (Ne.symm h1),a7 j h2]) (Af (A7 he2)) (b8.put m6.2.2.2.2)
   simp only [Mw] at co
   exact IH (put S2 pi.1 ⟨pi.2,flat ceW (p++y.1 :: u)⟩,n'+0+Ahs b,p++[y.1],u,Bool.or fp y.2) _ (by first|omega|(simp only; omega)) ⟨rfl,by rw [hR]; simp only [divL,aj,List.append_assoc,List.cons_append,List.nil_append,Bool.or_assoc],by show (p++[y.1]).length+u.length=t.cost.length; simp only [List.length_append,List.length_cons,List.length_nil] at kw ⊢; omega,by simp only [List.append_assoc,List.cons_append,List.nil_append,ig]; exact co,by rw [Aj (by first|omega|(dsimp only; omega)),Ab jm]; exact zk,by rw [Ah,hl2]; exact ee,fun j h1 h2=>by rw [Ac (Ne.symm (h2.2.2.2 pi (Al lg))),a7 j h2.1]; exact aw j h1 h2,fun q hq=>ou q (by simp [hq]),by and_intros <;> first|rfl|simp only [getT,List.map_append]⟩
 ·have c1:decide ((p.length:Int)<(t.cost.length:Int))=false:=by simpa using cu
  have yp:u=[]:=List.length_eq_zero_iff.1 (by omega)
  subst yp
  simp only [divL] at hR
  simp only [List.append_nil,List.length_nil,Nat.add_zero,Bool.or_false] at hR kw hT
  have a0z:Dq wF t i c={ t with rows:=(lessRows wF p c i 0 (put t.rows i p)).1,cost:=(lessT wF t.cost p c).1,basis:=put t.basis i c,fl:=Bool.or (Bool.or (Bool.or t.fl fp) (lessRows wF p c i 0 (put t.rows i p)).2) (lessT wF t.cost p c).2 }:=by
   unfold Dq Bx
   rw [Az cr,Az hb,hR]
  have op:okL wF p:=by have:=Z7 B7 ob kn; rw [hR] at this; exact this
  have li:=hT.top
  simp only [Ak] at li
  rw [Ba bm,Ba bm] at li
  simp (maxSteps:=10^6)+contextual(disch:=try exact dqd)only[evg1,simprocAttr,AV.int,AV.bool,AV.str,results114,e0,e1,e2,e6,e7,e23,e24,c1,li]
  refine Ef (P:=prog) (fun x st=>st.T.length=89/\(lessRows wF p c i 0 (put t.rows i p)=(x.2.2.1++(lessRows wF p c i x.2.2.1.length x.2.2.2.1).1,Bool.or x.2.2.2.2 (lessRows wF p c i x.2.2.1.length x.2.2.2.1).2))/\(x.2.2.1.length+x.2.2.2.1.length=t.rows.length)/\(A2 x.1 iq eq I { t with rows:=x.2.2.1++x.2.2.2.1,fl:=Bool.or (Bool.or t.fl fp) x.2.2.2.2 } cc)/\(nth (x.2.2.1++x.2.2.2.1) i=some p)/\(x.1.length=S.length+1)/\(∀ j,j<S.length->OutW I iq j->nth x.1 j=nth S j)/\getT st.T 0=.ref I.it I.et 0/\getT st.T 1=.int (i:Nat)/\getT st.T 2=.int (c:Nat)/\getT st.T 6=.sref pi.1 pi.2 0 t.cost.length 4/\getT st.T 58=.sref I.ir I.er 0 t.rows.length 1/\getT st.T 59=.int (t.rows.length:Nat)/\getT st.T 60=.int (x.2.2.1.length:Nat)/\st.S=x.1/\st.tk=tk'/\st.n=x.2.1) (fun x=>x.2.2.2.1.length) (S',n',([]:List (List Q)),(put t.rows i p),false) ?_ ?_
  case refine_2=>exact ⟨rfl,by simp,by simp [Ak],by simp only [List.nil_append,Bool.or_false]; exact hT,by simp only [List.nil_append]; exact B3 hi,ee,aw,rfl,rfl,rfl,rfl,rfl,rfl,rfl,rfl,rfl,rfl⟩
  rintro ⟨SS,n1,P,U,fq⟩ ⟨T,S',tk',n'⟩ ⟨hl,fk,ez,ar,dj,rg,lj,e0,e1,e2,e6,e58,e59,e60,eS,eT,eN⟩ IH
  simp only at fk ez ar dj rg lj e0 e1 e2 e6 e58 e59 e60 eS eT eN
  subst eS eT eN
  obtain ⟨g,hg,hT⟩:=Av hl
  rw [hg] at e0 e1 e2 e6 e58 e59 e60
  subst hT
  clear hg hl
  by_cases ci:P.length<t.rows.length
  ·have c2:decide ((P.length:Int)<(t.rows.length:Int))=true:=by simpa using ci
   obtain ⟨r0,U,rfl⟩:∃ r0 U',U=r0 :: U':=by
    cases U with
    | nil=>simp at ez; omega
    | cons x u=>exact ⟨x,u,rfl⟩
   have uz:U.length<(r0 :: U).length:=by simp
   obtain ⟨pk,ef⟩:=Ag (show P.length<I.ids.length by rw [ag.nids]; exact ci)
   have cl:nth (List.drop P.length (I.ids.map (gt t.cost.length 4))) 0=some (.sref pk.1 pk.2 0 t.cost.length 4):=Dj (by rw [Ae] at ef ⊢; rw [List.getElem?_map,ef]; rfl)
   have fm:nth (P++r0 :: U) P.length=some r0:=Ee
   have wt:P++r0 :: U≠[]:=by simp
   have wv:=ar.rowsE wt
   have hw2:∀ z:List Q,IntKind.i64.wrap ((P.length:Int)+1)=(((P++[z]).length:Nat):Int):=fun z=>by rw [Ad (by unfold i64; omega)]; simp
   by_cases qi:P.length=i
   ·have c3:((P.length:Int) != (i:Int))=false:=by rw [qi]; simp
    have s8:lessK wF p c i P.length r0=(r0,false):=by unfold lessK; rw [if_pos qi]
    have hw3:=hw2 r0
    simp (maxSteps:=10^6)+contextual(disch:=try exact dqd)only[evg1,simprocAttr,AV.int,AV.bool,AV.str,results114,e0,e1,e2,e6,e58,e59,e60,c2,c3,wv,cl,ci,hw3,Nat.mul_one]
    exact IH (S',n',P++[r0],U,fq) _ (by first|omega|(simp only; omega)) ⟨rfl,by rw [fk]; simp only [lessRows,s8,List.append_assoc,List.cons_append,List.nil_append,Bool.false_or,List.length_append,List.length_cons,List.length_nil,Nat.zero_add],by show (P++[r0]).length+U.length=t.rows.length; simp only [List.length_append,List.length_cons,List.length_nil] at ez ⊢; omega,by simpa using ar,by simpa using dj,rg,lj,by and_intros <;> first|rfl|simp only [getT,List.map_append]⟩
   ·have c3:((P.length:Int) != (i:Int))=true:=by simp; omega
    have c9:=ar.rowE P.length pk r0 ef fm
    have rh:=ar.rowE i pi p lg dj
    have dn:=ar.rowW r0 (Al fm)
    have oe:=ag.ap.row pk (Al ef)
    obtain ⟨r,dm,S3,k3,rfl,dx,nq,df,b6⟩:=Aoy S' tk' n' iq eq _ I.it I.et pk.1 pk.2 pi.1 pi.2 t.cost.length c _ r0 p ar.top ar.fa c9 rh dn kw hc hW (ar.okr r0 (Al fm)) op (ag.ap.rows _ _ pk pi ef lg qi) oe.1 oe.2.2.2.2 ag.ap.qt m6.2.2.2.2.symm
    have s8:lessK wF p c i P.length r0=lessT wF r0 p c:=by unfold lessK; rw [if_neg qi]
    obtain ⟨z,hz⟩:∃ z,z=lessT wF r0 p c:=⟨_,rfl⟩
    rw [<- hz] at nq df s8
    have hw3:=hw2 z.1
    have io:List.take S'.length S3=S3:=List.take_of_length_le (by omega)
    simp (maxSteps:=10^6)+contextual(disch:=try exact dqd)only[evg1,simprocAttr,AV.int,AV.bool,AV.str,results114,e0,e1,e2,e6,e58,e59,e60,c2,c3,wv,cl,ci,hw3,dm,io,Nat.mul_one]
    have co:=ar.row (S':=S3) (r':=z.1) (fl':=Bool.or (Bool.or (Bool.or t.fl fp) fq) z.2) ef fm (by rw [hz,Np]; exact dn) (by rw [hz]; exact Wl B7 (ar.okr r0 (Al fm)) op) b6 nq df
    simp only [Ge] at co
    exact IH (S3,k3,P++[z.1],U,Bool.or fq z.2) _ (by first|omega|(simp only; omega)) ⟨rfl,by rw [fk]; simp only [lessRows,s8,List.append_assoc,List.cons_append,List.nil_append,Bool.or_assoc,List.length_append,List.length_cons,List.length_nil,Nat.zero_add],by show (P++[z.1]).length+U.length=t.rows.length; simp only [List.length_append,List.length_cons,List.length_nil] at ez ⊢; omega,by simpa [Bool.or_assoc] using co,by rw [List.append_assoc,List.singleton_append,<- Ge (x:=r0),U6 (by simp),if_neg (fun h=>qi h.symm)]; exact dj,by rw [dx]; exact rg,fun j h1 h2=>by rw [b6 j (h2.2.2.2 pk (Al ef)) h2.1]; exact lj j h1 h2,by and_intros <;> first|rfl|simp only [getT,List.map_append]⟩
  ·have c2:decide ((P.length:Int)<(t.rows.length:Int))=false:=by simpa using ci
   have ww:U=[]:=List.length_eq_zero_iff.1 (by omega)
   subst ww
   simp only [lessRows] at fk
   simp only [List.append_nil,List.length_nil,Nat.add_zero,Bool.or_false] at fk ez ar dj
   have pw:P≠[]:=fun h=>by rw [h] at ez; simp at ez; omega
   have i6:=ar.top
   simp only [ez] at i6
   rw [Ba bm,Ba bm] at i6
   have rh:=ar.rowE i pi p lg dj
   obtain ⟨r,dm,S3,k3,rfl,dx,nq,df,b6⟩:=Aoy S' tk' n' iq eq _ I.it I.et I.ic I.ec pi.1 pi.2 t.cost.length c _ t.cost p ar.top ar.fa ar.costE rh rfl kw hc hW ag.okc op m6.2.2.1.symm ag.ap.tc.symm ag.ap.qc.symm ag.ap.qt m6.2.2.2.2.symm
   have co:=ar.setCost (S':=S3) (k':=(lessT wF t.cost p c).1) Np (Wl B7 ag.okc op) b6 nq df
   have ll:=co.top
   simp only [ez] at ll
   rw [Ba bm,Ba bm] at ll
   have pf:=co.basisE pw
   obtain ⟨b0,hb0⟩:=Ag (show i<t.basis.length by rw [ag.nb]; exact hi)
   have kt:over (t.basis.map intA) i [.prim (.int .i64 (c:Int))]=some ((put t.basis i c).map intA):=by
    rw [<- R2]
    exact Uk (w:=intA b0) (by rw [Ae] at hb0 ⊢; rw [List.getElem?_map,hb0]; rfl)
   have i7:=co.setBasis (i:=i) (b:=c) pw (by simp only [Np]; exact hc)
   simp (maxSteps:=10^6)+contextual(disch:=try exact dqd)only[evg1,simprocAttr,AV.int,AV.bool,AV.str,results114,e0,e1,e2,e6,e58,e59,e60,c2,i6,dm,ll,pf,kt,hi,Nat.mul_one]
   rw [hΦ,a0z,fk]
   have wx:LowW I iq S.length { t with rows:=P,cost:=(lessT wF t.cost p c).1,basis:=put t.basis i c,fl:=Bool.or (Bool.or (Bool.or t.fl fp) fq) (lessT wF t.cost p c).2 }:=az.of fun _=>jk
   exact ⟨_,_,rfl,by rw [List.length_take,Ah,dx]; omega,i7.take wx,fun j hj=>by
    by_cases fu:j<S.length
    ·rw [Du fu,Ac (Ne.symm hj.2.2.1),b6 j hj.2.1 hj.1]; exact lj j fu hj
    ·rw [Ae,Ae,List.getElem?_eq_none (by rw [List.length_take]; omega),List.getElem?_eq_none (by omega)]⟩
end
end
section
open Go Go.Proofs.Tryz
def Mv:Option (Nat × Q)->AV
 | none=>.int (-1)
 | some (i,_)=>.int (i:Nat)
theorem K7 {F:Fld} {basis:List Nat} {c W m:Nat} : ∀ {l:List (List Q)} {k:Nat} {b:Option (Nat × Q)} {i:Nat} {q:Q} {f:Bool},k+l.length<=m->(∀ i q,b=some (i,q)->i<m)->Bs F basis c W k l b=(some (i,q),f)->i<m
 | [],k,b,i,q,f,_,hb,h=>by
  simp only [Bs,Prod.mk.injEq] at h
  exact hb i q h.1
 | r :: l,k,b,i,q,f,hl,hb,h=>by
  simp only [List.length_cons] at hl
  unfold Bs at h
  split at h
  ·exact K7 (by omega) hb h
  ·split at h
   ·simp only [Prod.mk.injEq] at h
    exact K7 (k:=k+1) (l:=l) (by omega) (fun i q e=>by simp only [Option.some.injEq,Prod.mk.injEq] at e; omega) (Prod.ext h.1 rfl)
   ·rename_i bi least
    simp only [Prod.mk.injEq] at h
    refine K7 (k:=k+1) (l:=l) (by omega) (fun i' q' e=>?_) (Prod.ext h.1 rfl)
    split at e
    ·simp only [Option.some.injEq,Prod.mk.injEq] at e
     exact hb i' least (by rw [e.1])
    ·simp only [Option.some.injEq,Prod.mk.injEq] at e; omega
theorem Aez {F:Fld} {t:Tb} {c i:Nat} {q:Q} {f:Bool} (h:Bl F t c=(some (i,q),f)):i<t.rows.length :=
 K7 (k:=0) (by simp) (fun _ _ e=>by cases e) h
section
variable (S:List Ent) (tk:List Nat) (k iq eq:Nat)
set_option maxHeartbeats 8000000 in
set_option maxRecDepth 100000 in
theorem Aik (I:TI) (t:Tb) (cc:Cap) (c:Nat) (ag:A2 S iq eq I t cc) (hc:c<t.cost.length) :
  ∃ r,cL prog 113 [.ref I.it I.et 0,.int c] S tk k=some r/\Xq S tk iq eq I { t with fl:=Bool.or t.fl (Bl wF t c).2 } cc (Mv (Bl wF t c).1) r:=by
 obtain ⟨Φ,hΦ⟩:∃ Φ,Φ=Xq S tk iq eq I { t with fl:=Bool.or t.fl (Bl wF t c).2 } cc (Mv (Bl wF t c).1):=⟨_,rfl⟩
 rw [<- hΦ]
 have ai:=ag.top
 by_cases bo:t.rows=[]
 ·have dt:t.rows.length=0:=by rw [bo]; rfl
  rw [dt] at ai
  simp only [cw] at ai
  have m8:Bl wF t c=(none,false):=by unfold Bl; rw [bo]; rfl
  refine opG func113 ntmps113 ?_
  have d0:decide ((0:Int)<((0:Nat):Int))=false:=rfl
  simp (maxSteps:=10^6)+contextual(disch:=try exact dqd)only[evg1,simprocAttr,AV.int,AV.bool,AV.str,results113,ai]
  refine Ef (P:=prog) (fun x st=>st.T.length=93/\getT st.T 5=.int (-1)/\getT st.T 15=.int ((0:Nat):Int)/\getT st.T 16=.int 0/\st.S=S++[⟨k,[.prim (.bool false),.frz [] .nilc,.prim (.bool false),.frz [] .nilc]⟩]/\st.tk=tk/\st.n=x) (fun x=>0) (k+1) ?_ ?_
  case refine_2=>exact ⟨rfl,rfl,rfl,rfl,rfl,rfl,rfl⟩
  rintro n1 ⟨T,S',tk',n'⟩ ⟨hl,e5,e15,e16,eS,eT,eN⟩ IH
  subst eS eT eN
  obtain ⟨g,hg,hT⟩:=Av hl
  rw [hg] at e5 e15 e16
  subst hT
  clear hg hl
  simp (maxSteps:=10^6)+contextual(disch:=try exact dqd)only[evg1,simprocAttr,AV.int,AV.bool,AV.str,results113,e5,e15,e16,d0,Hb]
  rw [hΦ,m8]
  exact ⟨S,_,rfl,rfl,by simp only [Bool.or_false]; exact ag,fun j _=>rfl⟩
 have bm:0<t.rows.length:=List.length_pos_iff.2 bo
 rw [Ba bm,Ba bm] at ai
 have lh:=ag.rowsE bo
 have hW:=ag.bigW
 have hM:=ag.bigM
 have az:=ag.low
 have cn:=ag.real
 refine opG func113 ntmps113 ?_
 simp (maxSteps:=10^6)+contextual(disch:=try exact dqd)only[evg1,simprocAttr,AV.int,AV.bool,AV.str,results113,ai]
 refine Ef (P:=prog) (fun x st=>st.T.length=93/\(Bl wF t c=((Bs wF t.basis c t.cost.length x.2.2.1.length x.2.2.2.1 x.2.2.2.2.1).1,Bool.or x.2.2.2.2.2 (Bs wF t.basis c t.cost.length x.2.2.1.length x.2.2.2.1 x.2.2.2.2.1).2))/\(t.rows=x.2.2.1++x.2.2.2.1)/\(A2 x.1 iq eq I { t with fl:=Bool.or t.fl x.2.2.2.2.2 } cc)/\(∃ lc,entAt x.1 S.length k=some lc/\lc.length=4/\∀ bi q,x.2.2.2.2.1=some (bi,q)->lc=ceW q/\bi<x.2.2.1.length/\wF.ok q)/\(x.1.length=S.length+1)/\(∀ j,j<S.length->OutW I iq j->nth x.1 j=nth S j)/\getT st.T 0=.ref I.it I.et 0/\getT st.T 1=.int (c:Nat)/\getT st.T 5=Mv x.2.2.2.2.1/\getT st.T 6=.ref S.length k 0/\getT st.T 14=.sref I.ir I.er 0 t.rows.length 1/\getT st.T 15=.int (t.rows.length:Nat)/\getT st.T 16=.int (x.2.2.1.length:Nat)/\st.S=x.1/\st.tk=tk/\st.n=x.2.1) (fun x=>x.2.2.2.1.length) ((S++[⟨k,[.prim (.bool false),.frz [] .nilc,.prim (.bool false),.frz [] .nilc]⟩]),(k+1),([]:List (List Q)),t.rows,(none:Option (Nat × Q)),false) ?_ ?_
 case refine_2=>exact ⟨rfl,by simp [Bl],rfl,by simp only [Bool.or_false]; exact ag.app _,⟨_,Ai rfl,rfl,fun _ _ h=>by cases h⟩,by simp,fun j hj _=>A6 hj,rfl,rfl,rfl,rfl,rfl,rfl,rfl,rfl,rfl,rfl⟩
 rintro ⟨SS,n1,P,U,bst,fq⟩ ⟨T,S',tk',n'⟩ ⟨hl,hR,ez,hT,j4,ee,aw,e0,e1,e5,e6,e14,e15,e16,eS,eT,eN⟩ IH
 simp only at hR ez hT j4 ee aw e0 e1 e5 e6 e14 e15 e16 eS eT eN
 subst eS eT eN
 obtain ⟨g,hg,hT⟩:=Av hl
 rw [hg] at e0 e1 e5 e6 e14 e15 e16
 subst hT
 clear hg hl
 have uq:t.rows.length=P.length+U.length:=by rw [ez]; simp
 obtain ⟨lc,zl,wy,hlb⟩:=j4
 by_cases ci:P.length<t.rows.length
 ·have c1:decide ((P.length:Int)<(t.rows.length:Int))=true:=by simpa using ci
  obtain ⟨r0,U,rfl⟩:∃ r0 U',U=r0 :: U':=by
   cases U with
   | nil=>simp at uq; omega
   | cons x u=>exact ⟨x,u,rfl⟩
  have uz:U.length<(r0 :: U).length:=by simp
  obtain ⟨pk,ef⟩:=Ag (show P.length<I.ids.length by rw [ag.nids]; exact ci)
  have cl:nth (List.drop P.length (I.ids.map (gt t.cost.length 4))) 0=some (.sref pk.1 pk.2 0 t.cost.length 4):=Dj (by rw [Ae] at ef ⊢; rw [List.getElem?_map,ef]; rfl)
  have fm:nth t.rows P.length=some r0:=by rw [ez]; exact Ee
  have dn:=ag.rowW r0 (Al fm)
  have kn:=ag.okr r0 (Al fm)
  have jn:=hT.rowsE bo
  have c9:=hT.rowE P.length pk r0 ef fm
  have bv:=hT.top
  simp only at bv
  rw [Ba bm,Ba bm] at bv
  obtain ⟨x,hx⟩:=Ag (show c<r0.length by omega)
  obtain ⟨z,hz⟩:=Ag (show t.cost.length - 1<r0.length by omega)
  have ox:=kn x (Al hx)
  have oz:=kn z (Al hz)
  have gv:=Ar (ce:=ceW) Ap hx
  have oh:=Ar (ce:=ceW) Ap hz
  have hs:=Zz S' tk' n' iq eq (Bool.or t.fl fq) x ox hT.fa
  have hw2:IntKind.i64.wrap ((P.length:Int)+1)=(((P++[r0]).length:Nat):Int):=by rw [Ad (by unfold i64; omega)]; simp
  have jo:t.rows=(P++[r0])++U:=by rw [ez]; simp
  have lm:(P++[r0]).length=P.length+1:=by simp
  by_cases mr:sgn x<=0
  ·have c2:decide (sgn x<=0)=true:=by simpa using mr
   simp (maxSteps:=10^6)+contextual(disch:=try exact dqd)only[evg1,simprocAttr,AV.int,AV.bool,AV.str,results113,e0,e1,e5,e6,e14,e15,e16,c1,c2,hw2,bv,jn,cl,c9,gv,ci,hc,hs,Et,xfs,puW,tkW,Nat.mul_one]
   exact IH (S',n'+0,P++[r0],U,bst,fq) _ (by first|omega|(simp only; omega)) ⟨rfl,by rw [hR,lm]; simp only [Bs,Az hx]; rw [if_pos mr],jo,hT,⟨lc,zl,wy,fun bi q h=>by obtain ⟨h1,h2,h3⟩:=hlb bi q h; exact ⟨h1,by rw [lm]; omega,h3⟩⟩,ee,aw,by and_intros <;> first|rfl|simp only [getT,List.map_append]⟩
  ·have c2:decide (sgn x<=0)=false:=by simpa using mr
   obtain ⟨y,hy⟩:∃ y,y=wF.over z x:=⟨_,rfl⟩
   have oy:wF.ok y.1:=by rw [hy]; exact B7.over _ _ oz ox
   have db:=Apv S' tk' (n'+0) iq eq (Bool.or t.fl fq) z x oz ox hT.fa
   have hg1:=Eg (c:=y.2) hT.fa
   rw [<- hy] at db
   obtain ⟨S2,a8⟩:∃ S2,S2=flW S' iq eq y.2:=⟨_,rfl⟩
   rw [<- a8] at db hg1
   have b8:FAw S2 iq eq (Bool.or (Bool.or t.fl fq) y.2):=by rw [a8]; exact hT.fa.fS
   have hl2:S2.length=S'.length:=by rw [a8,Bq]
   have a7:∀ j,j≠iq->nth S2 j=nth S' j:=fun j hj=>by rw [a8,Bi hj]
   have jm:nth S2 S.length=nth S' S.length:=by rw [a8]; rfl
   have oi:entAt S2 S.length k=some lc:=by rw [Ab jm]; exact zl
   have i8:IntKind.i64.wrap ((t.cost.length:Int) - 1)=((t.cost.length - 1:Nat):Int):=by rw [Ad (by unfold i64; omega)]; omega
   have oj:t.cost.length - 1<t.cost.length:=by omega
   obtain ⟨n2,ri⟩:∃ n2,n2=n'+0+Ahs x:=⟨_,rfl⟩
   rw [<- ri] at db
   obtain ⟨E,hE⟩:∃ E:Ent,E=⟨n2,ceW y.1⟩:=⟨_,rfl⟩
   have wz:entAt (S2++[⟨n2,ceW y.1⟩]) S2.length n2=some (ceW y.1):=Bf
   have lp:=Aa (L:=[⟨n2,ceW y.1⟩]) oi
   have a00:over lc 0 (ceW y.1)=some (ceW y.1):=by
    have:=Ps (e:=lc) (r:=[]) (e':=ceW y.1) (by rw [wy]; rfl)
    simpa using this
   have hSl:S.length<S2.length:=by omega
   have w7:∀ v,List.take S'.length (put S2 S.length v++[⟨n2,ceW y.1⟩])=put S2 S.length v:=fun v=>by rw [<- hl2,<- Ah (l:=S2) (i:=S.length) (v:=v)]; simp
   have a01:=fun v=>Dd (L:=[⟨n2,ceW y.1⟩]) (x:=v) hSl
   cases bst with
   | none =>
    have c3:decide ((-1:Int) >= 0)=false:=rfl
    simp only [Mv] at e5
    simp (maxSteps:=10^6)+contextual(disch:=try exact dqd)only[evg1,simprocAttr,AV.int,AV.bool,AV.str,results113,e0,e1,e5,e6,e14,e15,e16,c1,c2,c3,hw2,bv,jn,cl,c9,gv,oh,i8,oj,ci,hc,hs,db,hg1,wz,lp,a00,a01,w7,Et,xfs,puW,tkW,Ap,A9,ovW,Nat.mul_one]
    have co:=hT.frame (S':=put S2 S.length ⟨k,ceW y.1⟩) (n:=S.length) (fl':=Bool.or (Bool.or t.fl fq) y.2) (az.of fun h=>h) (fun j h1 h2=>by rw [Ac (by omega),a7 j h2]) (⟨⟩)
    exact IH (put S2 S.length ⟨k,ceW y.1⟩,n2+1,P++[r0],U,some (P.length,y.1),Bool.or fq y.2) _ (by first|omega|(simp only; omega)) ⟨rfl,by rw [hR,lm]; simp only [Bs,Az hx,Az hz]; rw [if_neg mr,<- hy,<- Bool.or_assoc],jo,by simpa only [Bool.or_assoc] using co,⟨_,Af hSl,Ap _,fun bi q h=>by simp only [Option.some.injEq,Prod.mk.injEq] at h; obtain ⟨rfl,rfl⟩:=h; exact ⟨rfl,by rw [lm]; omega,oy⟩⟩,by rw [Ah,hl2]; exact ee,fun j h1 h2=>by rw [Ac (by first|omega|(dsimp only; omega)),a7 j h2.1]; exact aw j h1 h2,by and_intros <;> first|rfl|simp only [getT,List.map_append]⟩
   | some bq =>
    obtain ⟨bi,least⟩:=bq
    obtain ⟨a02,hbi,ol⟩:=hlb bi least rfl
    subst a02
    have c3:decide ((bi:Int) >= 0)=true:=by simp
    simp only [Mv] at e5
    obtain ⟨d,hd⟩:∃ d,d=wF.minus y.1 least:=⟨_,rfl⟩
    have fi:=Lo (S2++[⟨n2,ceW y.1⟩]) tk' (n2+1) iq eq (Bool.or (Bool.or t.fl fq) y.2) y.1 least oy ol (b8.app (L:=[⟨n2,ceW y.1⟩]))
    have hg2:=Eg (c:=d.2) (b:=Bool.or (Bool.or t.fl fq) y.2) (b8.app (L:=[⟨n2,ceW y.1⟩]))
    rw [<- hd] at fi
    rw [Ha b8] at fi hg2
    obtain ⟨S3,da⟩:∃ S3,S3=flW S2 iq eq d.2:=⟨_,rfl⟩
    rw [<- da] at fi hg2
    have od:wF.ok d.1:=by rw [hd]; exact B7.minus _ _ oy ol
    have df:FAw S3 iq eq (Bool.or (Bool.or (Bool.or t.fl fq) y.2) d.2):=by rw [da]; exact b8.fS
    have nv:=Zz (S3++[⟨n2,ceW y.1⟩]) tk' (n2+1+0) iq eq (Bool.or (Bool.or (Bool.or t.fl fq) y.2) d.2) d.1 od (df.app (L:=[⟨n2,ceW y.1⟩]))
    have dx:S3.length=S2.length:=by rw [da,Bq]
    have b6:∀ j,j≠iq->nth S3 j=nth S2 j:=fun j hj=>by rw [da,Bi hj]
    have lq:nth S3 S.length=nth S2 S.length:=by rw [da]; rfl
    have ls:entAt (S2++[⟨n2,ceW y.1⟩]) I.it I.et=some [.ifc 100 (.agg []),intA t.vars,intA t.real,.sref I.ir I.er 0 t.rows.length 1,.sref I.ic I.ec 0 t.cost.length 4,.sref I.ib I.eb 0 t.rows.length 1,.frz (t.flip.map D5) cc]:=Aa (by rw [Ab (a7 _ ag.ap.qt.symm)]; exact bv)
    have nk:entAt (S3++[⟨n2,ceW y.1⟩]) I.it I.et=some [.ifc 100 (.agg []),intA t.vars,intA t.real,.sref I.ir I.er 0 t.rows.length 1,.sref I.ic I.ec 0 t.cost.length 4,.sref I.ib I.eb 0 t.rows.length 1,.frz (t.flip.map D5) cc]:=Aa (by rw [Ab (b6 _ ag.ap.qt.symm),Ab (a7 _ ag.ap.qt.symm)]; exact bv)
    have ws:entAt (S3++[⟨n2,ceW y.1⟩]) I.ib I.eb=some (t.basis.map intA):=Aa (by rw [Ab (b6 _ ag.ap.qb.symm),Ab (a7 _ ag.ap.qb.symm)]; exact hT.basisE bo)
    obtain ⟨bk,jp⟩:=Ag (show P.length<t.basis.length by rw [ag.nb]; exact ci)
    obtain ⟨bb,hbb⟩:=Ag (show bi<t.basis.length by rw [ag.nb]; omega)
    have fo:nth (List.drop P.length (t.basis.map intA)) 0=some (.prim (.int .i64 (bk:Int))):=Dj (by rw [Ae] at jp ⊢; rw [List.getElem?_map,jp]; rfl)
    have rj:nth (List.drop bi (t.basis.map intA)) 0=some (.prim (.int .i64 (bb:Int))):=Dj (by rw [Ae] at hbb ⊢; rw [List.getElem?_map,hbb]; rfl)
    have om:bi<t.rows.length:=by omega
    have xa:entAt (S3++[⟨n2,ceW y.1⟩]) S2.length n2=some (ceW y.1):=Ai dx
    have xb:entAt (S3++[⟨n2,ceW y.1⟩]) S.length k=some (ceW least):=Aa (by rw [Ab lq]; exact oi)
    have xc:List.take S'.length (S3++[⟨n2,ceW y.1⟩])=S3:=by rw [<- hl2,<- dx]; simp
    have xd:∀ v,List.take S'.length (put S3 S.length v++[⟨n2,ceW y.1⟩])=put S3 S.length v:=fun v=>by rw [<- hl2,<- dx,<- Ah (l:=S3) (i:=S.length) (v:=v)]; simp
    have xe:=fun v=>Dd (L:=[⟨n2,ceW y.1⟩]) (x:=v) (show S.length<S3.length by omega)
    have hw:worse t.basis (sgn d.1) P.length bi=(decide (0<sgn d.1) || (sgn d.1 == 0 && decide (bb<bk))):=by unfold worse; rw [Az jp,Az hbb]
    have rk:Bool.or fq (Bool.or (Bool.or y.2 d.2) (Bs wF t.basis c t.cost.length (P++[r0]).length U (if worse t.basis (sgn d.1) P.length bi=true then some (bi,least) else some (P.length,y.1))).2)=Bool.or (Bool.or fq (Bool.or y.2 d.2)) (Bs wF t.basis c t.cost.length (P++[r0]).length U (if worse t.basis (sgn d.1) P.length bi=true then some (bi,least) else some (P.length,y.1))).2:=(Bool.or_assoc _ _ _).symm
    have ii:Bl wF t c=((Bs wF t.basis c t.cost.length (P++[r0]).length U (if worse t.basis (sgn d.1) P.length bi=true then some (bi,least) else some (P.length,y.1))).1,Bool.or (Bool.or fq (Bool.or y.2 d.2)) (Bs wF t.basis c t.cost.length (P++[r0]).length U (if worse t.basis (sgn d.1) P.length bi=true then some (bi,least) else some (P.length,y.1))).2):=by
     rw [hR,<- rk,lm]; simp only [Bs,Az hx,Az hz]; rw [if_neg mr,<- hy,<- hd]
    have u0:A2 S3 iq eq I { t with fl:=Bool.or t.fl (Bool.or fq (Bool.or y.2 d.2)) } cc:=by
     have:=hT.frame (S':=S3) (n:=S.length) (fl':=Bool.or (Bool.or (Bool.or t.fl fq) y.2) d.2) (az.of fun h=>h) (fun j h1 h2=>by rw [b6 j h2,a7 j h2]) df
     simpa only [Bool.or_assoc] using this
    have hTn:A2 (put S3 S.length ⟨k,ceW y.1⟩) iq eq I { t with fl:=Bool.or t.fl (Bool.or fq (Bool.or y.2 d.2)) } cc:=u0.frame (n:=S.length) (az.of fun h=>h) (fun j h1 h2=>by rw [Ac (by omega)]) (⟨⟩)
    by_cases h1:0<sgn d.1
    ·have k1:decide (sgn d.1 > 0)=true:=by simpa using h1
     have ik:worse t.basis (sgn d.1) P.length bi=true:=by rw [hw]; simp [h1]
     rw [if_pos ik] at ii
     simp (maxSteps:=10^6)+contextual(disch:=try exact dqd)only[evg1,simprocAttr,AV.int,AV.bool,AV.str,results113,e0,e1,e5,e6,e14,e15,e16,c1,c2,c3,k1,hw2,bv,ls,nk,ws,jn,cl,c9,gv,oh,i8,oj,ci,om,hc,hs,nv,db,fi,hg1,hg2,wz,lp,fo,rj,xc,Et,xfs,puW,tkW,Ap,A9,ovW,Nat.mul_one]
     exact IH (S3,n2+1+0+0,P++[r0],U,some (bi,least),Bool.or fq (Bool.or y.2 d.2)) _ (by first|omega|(simp only; omega)) ⟨rfl,ii,jo,u0,⟨_,by rw [Ab lq]; exact oi,Ap _,fun bi' q h=>by simp only [Option.some.injEq,Prod.mk.injEq] at h; obtain ⟨rfl,rfl⟩:=h; exact ⟨rfl,by rw [lm]; omega,ol⟩⟩,by first|omega|(dsimp only; omega),fun j h1 h2=>by rw [b6 j h2.1,a7 j h2.1]; exact aw j h1 h2,by and_intros <;> first|rfl|simp only [getT,List.map_append]⟩
    have k1:decide (sgn d.1 > 0)=false:=by simpa using h1
    by_cases h2:sgn d.1=0
    ·have k2:(sgn d.1 == 0)=true:=by simpa using h2
     by_cases h3:bb<bk
     ·have k3:decide ((bk:Int) > (bb:Int))=true:=by simpa using h3
      have ik:worse t.basis (sgn d.1) P.length bi=true:=by rw [hw]; simp [h2,h3]
      rw [if_pos ik] at ii
      simp (maxSteps:=10^6)+contextual(disch:=try exact dqd)only[evg1,simprocAttr,AV.int,AV.bool,AV.str,results113,e0,e1,e5,e6,e14,e15,e16,c1,c2,c3,k1,k2,k3,hw2,bv,ls,nk,ws,jn,cl,c9,gv,oh,i8,oj,ci,om,hc,hs,nv,db,fi,hg1,hg2,wz,lp,fo,rj,xc,Et,xfs,puW,tkW,Ap,A9,ovW,Nat.mul_one]
      exact IH (S3,n2+1+0+0,P++[r0],U,some (bi,least),Bool.or fq (Bool.or y.2 d.2)) _ (by first|omega|(simp only; omega)) ⟨rfl,ii,jo,u0,⟨_,by rw [Ab lq]; exact oi,Ap _,fun bi' q h=>by simp only [Option.some.injEq,Prod.mk.injEq] at h; obtain ⟨rfl,rfl⟩:=h; exact ⟨rfl,by rw [lm]; omega,ol⟩⟩,by first|omega|(dsimp only; omega),fun j h1 h2=>by rw [b6 j h2.1,a7 j h2.1]; exact aw j h1 h2,by and_intros <;> first|rfl|simp only [getT,List.map_append]⟩
     ·have k3:decide ((bk:Int) > (bb:Int))=false:=by simp; omega
      have ik:worse t.basis (sgn d.1) P.length bi=false:=by rw [hw]; simp [h2,h3]
      rw [ik,if_neg Bool.false_ne_true] at ii
      simp (maxSteps:=10^6)+contextual(disch:=try exact dqd)only[evg1,simprocAttr,AV.int,AV.bool,AV.str,results113,e0,e1,e5,e6,e14,e15,e16,c1,c2,c3,k1,k2,k3,hw2,bv,ls,nk,ws,jn,cl,c9,gv,oh,i8,oj,ci,om,hc,hs,nv,db,fi,hg1,hg2,wz,lp,xa,xb,fo,rj,xd,xe,ovW2,Et,xfs,puW,tkW,Ap,A9,ovW,Nat.mul_one]
      exact IH (put S3 S.length ⟨k,ceW y.1⟩,n2+1+0+0,P++[r0],U,some (P.length,y.1),Bool.or fq (Bool.or y.2 d.2)) _ (by first|omega|(simp only; omega)) ⟨rfl,ii,jo,hTn,⟨_,Af (by first|omega|(dsimp only; omega)),Ap _,fun bi' q h=>by simp only [Option.some.injEq,Prod.mk.injEq] at h; obtain ⟨rfl,rfl⟩:=h; exact ⟨rfl,by rw [lm]; omega,oy⟩⟩,by rw [Ah]; omega,fun j h1 h2=>by rw [Ac (by first|omega|(dsimp only; omega)),b6 j h2.1,a7 j h2.1]; exact aw j h1 h2,by and_intros <;> first|rfl|simp only [getT,List.map_append]⟩
    ·have k2:(sgn d.1 == 0)=false:=by simpa using h2
     have ik:worse t.basis (sgn d.1) P.length bi=false:=by rw [hw]; simp [h1,h2]
     rw [ik,if_neg Bool.false_ne_true] at ii
     simp (maxSteps:=10^6)+contextual(disch:=try exact dqd)only[evg1,simprocAttr,AV.int,AV.bool,AV.str,results113,e0,e1,e5,e6,e14,e15,e16,c1,c2,c3,k1,k2,hw2,bv,ls,nk,ws,jn,cl,c9,gv,oh,i8,oj,ci,om,hc,hs,nv,db,fi,hg1,hg2,wz,lp,xa,xb,xd,xe,ovW2,Et,xfs,puW,tkW,Ap,A9,ovW,Nat.mul_one]
     exact IH (put S3 S.length ⟨k,ceW y.1⟩,n2+1+0+0,P++[r0],U,some (P.length,y.1),Bool.or fq (Bool.or y.2 d.2)) _ (by first|omega|(simp only; omega)) ⟨rfl,ii,jo,hTn,⟨_,Af (by first|omega|(dsimp only; omega)),Ap _,fun bi' q h=>by simp only [Option.some.injEq,Prod.mk.injEq] at h; obtain ⟨rfl,rfl⟩:=h; exact ⟨rfl,by rw [lm]; omega,oy⟩⟩,by rw [Ah]; omega,fun j h1 h2=>by rw [Ac (by first|omega|(dsimp only; omega)),b6 j h2.1,a7 j h2.1]; exact aw j h1 h2,by and_intros <;> first|rfl|simp only [getT,List.map_append]⟩
 ·have c1:decide ((P.length:Int)<(t.rows.length:Int))=false:=by simpa using ci
  have ww:U=[]:=List.length_eq_zero_iff.1 (by omega)
  subst ww
  simp (maxSteps:=10^6)+contextual(disch:=try exact dqd)only[evg1,simprocAttr,AV.int,AV.bool,AV.str,results113,e0,e1,e5,e6,e14,e15,e16,c1]
  simp only [Bs,Bool.or_false] at hR
  have hfz:fz3 S.length S' (Mv bst)=Mv bst:=by cases bst <;> rfl
  rw [hΦ,hR,hfz]
  exact ⟨_,_,rfl,by rw [List.length_take]; omega,hT.take (az.of fun h=>h),fun j hj=>by
   by_cases fu:j<S.length
   ·rw [Du fu]; exact aw j fu hj
   ·rw [Ae,Ae,List.getElem?_eq_none (by rw [List.length_take]; omega),List.getElem?_eq_none (by omega)]⟩
end
end
section
open Go Go.Proofs.Tryz
section
variable (S:List Ent) (tk:List Nat) (k iq eq:Nat)
set_option maxHeartbeats 8000000 in
set_option maxRecDepth 100000 in
theorem Akp (I:TI) (t t':Tb) (cc:Cap) (K:Nat) (b:Bool) (ag:A2 S iq eq I t cc) (hK:Gu wF K t=some (b,t')) :
  ∃ r,cL prog 88 [.ref I.it I.et 0] S tk k=some r/\Xq S tk iq eq I t' cc (.bool b) r:=by
 obtain ⟨Φ,hΦ⟩:∃ Φ,Φ=Xq S tk iq eq I t' cc (.bool b):=⟨_,rfl⟩
 rw [<- hΦ]
 refine opG func88 ntmps88 ?_
 simp (maxSteps:=10^6)+contextual(disch:=try exact dqd)only[evg1,simprocAttr,AV.int,AV.bool,AV.str,results88]
 refine Ef (P:=prog) (fun x st=>st.T.length=46/\(Gu wF x.2.2.1 x.2.2.2=some (b,t'))/\(A2 x.1 iq eq I x.2.2.2 cc)/\(x.1.length=S.length)/\(∀ j,OutW I iq j->nth x.1 j=nth S j)/\getT st.T 0=.ref I.it I.et 0/\st.S=x.1/\st.tk=tk/\st.n=x.2.1) (fun x=>x.2.2.1) (S,k,K,t) ?_ ?_
 case refine_2=>exact ⟨rfl,hK,ag,rfl,fun j _=>rfl,rfl,rfl,rfl,rfl⟩
 rintro ⟨SS,n1,K1,t1⟩ ⟨T,S',tk',n'⟩ ⟨hl,d8,hT,ee,aw,e0,eS,eT,eN⟩ IH
 simp only at d8 hT ee aw e0 eS eT eN
 subst eS eT eN
 obtain ⟨g,hg,hT⟩:=Av hl
 rw [hg] at e0
 subst hT
 clear hg hl
 have IHA:=IH
 clear IH
 cases K1 with
 | zero=>simp [Gu] at d8
 | succ K1 =>
 have ai:=hT.top
 have cn:=hT.real
 have hW:=hT.bigW
 have f8:=Abb S' tk' n' iq eq t1.fl hT.fa
 have ig:List.take S.length S'=S':=List.take_of_length_le (by omega)
 unfold Gu at d8
 cases aj:(wF.stop && t1.fl) with
 | true =>
  rw [aj] at d8 f8
  rw [if_pos rfl] at d8
  simp only [Option.some.injEq,Prod.mk.injEq] at d8
  obtain ⟨rfl,rfl⟩:=d8
  simp (maxSteps:=10^6)+contextual(disch:=try exact dqd)only[evg1,simprocAttr,AV.int,AV.bool,AV.str,results88,e0,ai,f8,Et,xfs,puW]
  rw [hΦ,ig]
  exact ⟨S',n',rfl,ee,hT,aw⟩
 | false =>
 rw [aj] at d8 f8
 rw [if_neg Bool.false_ne_true] at d8
 simp only [intA] at ai
 simp (maxSteps:=10^6)+contextual(disch:=try exact dqd)only[evg1,simprocAttr,AV.int,AV.bool,AV.str,results88,e0,ai,f8,Et,xfs,puW]
 refine Ef (P:=prog) (fun x st=>st.T.length=46/\(x.2<=t1.real)/\(colF t1.cost t1.real 0=colF t1.cost (t1.real - x.2) x.2)/\getT st.T 0=.ref I.it I.et 0/\getT st.T 3=.int (-1)/\getT st.T 14=.int (t1.real:Nat)/\getT st.T 15=.int (x.2:Nat)/\st.S=S'/\st.tk=tk'/\st.n=x.1) (fun x=>t1.real - x.2) (n',0) ?_ ?_
 case refine_2=>exact ⟨rfl,Nat.zero_le _,rfl,rfl,rfl,rfl,rfl,rfl,rfl,rfl⟩
 rintro ⟨n2,j⟩ ⟨T,S',tk',n'⟩ ⟨hl,hj,hc,e0,e3,e14,e15,eS,eT,eN⟩ IH
 simp only at hj hc e0 e3 e14 e15 eS eT eN
 subst eS eT eN
 obtain ⟨g,hg,hT⟩:=Av hl
 rw [hg] at e0 e3 e14 e15
 subst hT
 clear hg hl
 by_cases rn:j<t1.real
 ·have c1:decide ((j:Int)<(t1.real:Int))=true:=by simpa using rn
  have hw:IntKind.i64.wrap ((j:Int)+1)=((j+1:Nat):Int):=by rw [Ad (by unfold i64; omega)]; rfl
  have oq:j<t1.cost.length:=by omega
  obtain ⟨x,hx⟩:=Ag oq
  have ox:=hT.okc x (Al hx)
  have gv:=Ar (ce:=ceW) Ap hx
  have hs:=Zz S' tk' n' iq eq t1.fl x ox hT.fa
  have jg:=hT.costE
  have tw:colF t1.cost (t1.real - j) j=if sgn x<0 then some j else colF t1.cost (t1.real - (j+1)) (j+1):=by
   rw [show t1.real - j=(t1.real - (j+1))+1 by omega]
   simp only [colF,Az hx]
  by_cases hneg:sgn x<0
  ·have c2:decide (sgn x<0)=true:=by simpa using hneg
   have c3:decide ((j:Int)<0)=false:=by simp
   rw [hc,tw,if_pos hneg] at d8
   simp only at d8
   obtain ⟨r,m8,S2,k2,rfl,hl2,ar,b8⟩:=Aik S' tk' (n'+0) iq eq I t1 cc j hT oq
   obtain ⟨lv,xf⟩:∃ lv,lv=Bl wF t1 j:=⟨_,rfl⟩
   rw [<- xf] at d8 m8 ar
   obtain ⟨lb,lf⟩:=lv
   cases lb with
   | none =>
    simp only [Option.some.injEq,Prod.mk.injEq] at d8
    obtain ⟨rfl,rfl⟩:=d8
    have c4:decide ((-1:Int)<0)=true:=rfl
    simp only [Mv] at m8
    have xg:List.take S.length S2=S2:=List.take_of_length_le (by omega)
    simp (maxSteps:=10^6)+contextual(disch:=try exact dqd)only[evg1,simprocAttr,AV.int,AV.bool,AV.str,results88,e0,e3,e14,e15,c1,c2,c3,c4,ai,jg,gv,oq,hs,m8,Et,xfs,puW,tkW]
    rw [hΦ,xg]
    exact ⟨S2,k2,rfl,by omega,ar,fun j hj=>by rw [b8 j hj]; exact aw j hj⟩
   | some bq =>
    obtain ⟨i,q⟩:=bq
    simp only at d8
    have yo:i<t1.rows.length:=Aez (F:=wF) (t:=t1) (c:=j) (q:=q) (f:=lf) xf.symm
    obtain ⟨r,kq,S3,k3,rfl,dx,co,df⟩:=Anw S2 tk' k2 iq eq I _ cc i j ar yo oq
    have c4:decide ((i:Int)<0)=false:=by simp
    simp only [Mv] at m8
    have xh:List.take S'.length S3=S3:=List.take_of_length_le (by omega)
    simp (maxSteps:=10^6)+contextual(disch:=try exact dqd)only[evg1,simprocAttr,AV.int,AV.bool,AV.str,results88,e0,e3,e14,e15,c1,c2,c3,c4,ai,jg,gv,oq,hs,m8,kq,xh,Et,xfs,puW,tkW]
    exact IHA (S3,k3,K1,Dq wF { t1 with fl:=Bool.or t1.fl lf } i j) _ (by first|omega|(simp only; omega)) ⟨rfl,d8,co,by first|omega|(dsimp only; omega),fun j hj=>by rw [df j hj,b8 j hj]; exact aw j hj,by and_intros <;> first|rfl|simp only [getT,List.map_append]⟩
  ·have c2:decide (sgn x<0)=false:=by simpa using hneg
   rw [tw,if_neg hneg] at hc
   simp (maxSteps:=10^6)+contextual(disch:=try exact dqd)only[evg1,simprocAttr,AV.int,AV.bool,AV.str,results88,e0,e3,e14,e15,c1,c2,hw,ai,jg,gv,oq,hs,Et,xfs,puW,tkW]
   exact IH (n'+0,j+1) _ (by first|omega|(simp only; omega)) ⟨rfl,by first|omega|(dsimp only; omega),hc,by and_intros <;> first|rfl|simp only [getT,List.map_append]⟩
 ·have c1:decide ((j:Int)<(t1.real:Int))=false:=by simpa using rn
  have c3:decide ((-1:Int)<0)=true:=rfl
  have q9:t1.real - j=0:=by omega
  rw [hc,q9] at d8
  simp only [colF,Option.some.injEq,Prod.mk.injEq] at d8
  obtain ⟨rfl,rfl⟩:=d8
  simp (maxSteps:=10^6)+contextual(disch:=try exact dqd)only[evg1,simprocAttr,AV.int,AV.bool,AV.str,results88,e0,e3,e14,e15,c1,c3,ai]
  rw [hΦ,ig]
  exact ⟨S',n',rfl,ee,hT,aw⟩
end
end
section
open Go Go.Proofs.Tryz
theorem W4 {basis:List Nat} {k:Nat} : ∀ {l:List (List Q)} {i j:Nat},Ka basis k i l=some j->i<=j/\j<i+l.length/\at_ 0 basis j=k
 | [],_,_,h=>by simp [Ka] at h
 | r :: l,i,j,h=>by
  unfold Ka at h
  split at h
  ·simp only [Option.some.injEq] at h; subst h; rename_i h; exact ⟨Nat.le_refl _,by simp,h⟩
  ·have:=W4 h; simp only [List.length_cons]; omega
def Aok (S:List Ent) (tk:List Nat) (iq eq:Nat) (y:Q × Bool) (r:Rs):Prop:=∃ k',r=(.agg (ceW y.1),flW S iq eq y.2,tk,k')
section
variable (S:List Ent) (tk:List Nat) (k iq eq:Nat)
set_option maxRecDepth 100000 in
theorem Agk (I:TI) (t:Tb) (cc:Cap) (hT:A2 S iq eq I t cc) :
  ∃ r,cL prog 89 [.ref I.it I.et 0] S tk k=some r/\Xq S tk iq eq I t cc (.bool (H5 t)) r:=by
 obtain ⟨Φ,hΦ⟩:∃ Φ,Φ=Xq S tk iq eq I t cc (.bool (H5 t)):=⟨_,rfl⟩
 rw [<- hΦ]
 have ai:=hT.top
 have hW:=hT.bigW
 have cn:=hT.real
 have jg:=hT.costE
 obtain ⟨z,hz⟩:=Ag (show t.cost.length - 1<t.cost.length by omega)
 have oz:=hT.okc z (Al hz)
 have oh:=Ar (ce:=ceW) Ap hz
 have hs:=Zz S tk k iq eq t.fl z oz hT.fa
 have i8:IntKind.i64.wrap ((t.cost.length:Int) - 1)=((t.cost.length - 1:Nat):Int):=by rw [Ad (by unfold i64; omega)]; omega
 have oj:t.cost.length - 1<t.cost.length:=by omega
 refine opG func89 ntmps89 ?_
 simp (maxSteps:=10^6)+contextual(disch:=try exact dqd)only[evg1,simprocAttr,AV.int,AV.bool,AV.str,results89,ai,jg,oh,i8,oj,hs,Et,xfs,puW,tkW]
 rw [hΦ]
 exact ⟨S,_,by simp only [H5,Az hz]; rfl,rfl,hT,fun j _=>rfl⟩
set_option maxHeartbeats 4000000 in
set_option maxRecDepth 100000 in
theorem Afi (I:TI) (t:Tb) (cc:Cap) (c:Nat) (hT:A2 S iq eq I t cc) :
  ∃ r,cL prog 115 [.ref I.it I.et 0,.int c] S tk k=some r/\Aok S tk iq eq (Db wF t c) r:=by
 obtain ⟨Φ,hΦ⟩:∃ Φ,Φ=Aok S tk iq eq (Db wF t c):=⟨_,rfl⟩
 rw [<- hΦ]
 have ai:=hT.top
 have hM:=hT.bigM
 have hW:=hT.bigW
 have cn:=hT.real
 have az:=hT.low
 obtain ⟨y,hy⟩:∃ y,y=wF.whole 0:=⟨_,rfl⟩
 obtain ⟨h,hh⟩:∃ h,h=cw I.ib I.eb 1 t.rows.length:=⟨_,rfl⟩
 have hlen:lenV false true h=some (.int (t.rows.length:Nat)):=by
  rw [hh]
  cases t.rows.length with
  | zero=>rfl
  | succ n=>rfl
 rw [<- hh] at ai
 have b9:=hT.fa.app (L:=[⟨k,[.prim (.bool false),.frz [] .nilc,.prim (.bool false),.frz [] .nilc]⟩])
 have dw:=Kd (S++[⟨k,[.prim (.bool false),.frz [] .nilc,.prim (.bool false),.frz [] .nilc]⟩]) tk (k+1) iq eq t.fl 0 (by unfold i64; omega) b9
 rw [<- hy,Ha hT.fa] at dw
 have hl1:(flW S iq eq y.2).length=S.length:=Bq
 have hE:=Ai (k:=k) (cs:=[.prim (.bool false),.frz [] .nilc,.prim (.bool false),.frz [] .nilc]) hl1
 have ro:=Ai (k:=k) (cs:=ceW y.1) hl1
 have hP:=fun e e'=>De (e:=e) (e':=e') hl1
 have u0:=fun L=>Je (L:=L) hl1
 have htA:=Aa (L:=[⟨k,[.prim (.bool false),.frz [] .nilc,.prim (.bool false),.frz [] .nilc]⟩]) ai
 refine opG func115 ntmps115 ?_
 simp (maxSteps:=10^6)+contextual(disch:=try exact dqd)only[evg1,simprocAttr,AV.int,AV.bool,AV.str,results115,ai,htA,hlen]
 refine Ef (P:=prog) (fun x st=>st.T.length=44/\(t.rows=x.1++x.2)/\(Ka t.basis c 0 t.rows=Ka t.basis c x.1.length x.2)/\getT st.T 0=.ref I.it I.et 0/\getT st.T 1=.int (c:Nat)/\getT st.T 4=.ref S.length k 0/\getT st.T 10=h/\getT st.T 11=.int (t.rows.length:Nat)/\getT st.T 12=.int (x.1.length:Nat)/\st.S=S++[⟨k,[.prim (.bool false),.frz [] .nilc,.prim (.bool false),.frz [] .nilc]⟩]/\st.tk=tk/\st.n=k+1) (fun x=>x.2.length) (([]:List (List Q)),t.rows) ?_ ?_
 case refine_2=>exact ⟨rfl,rfl,rfl,rfl,rfl,rfl,rfl,rfl,rfl,rfl,rfl,rfl⟩
 rintro ⟨P,U⟩ ⟨T,S',tk',n'⟩ ⟨hl,ez,hR,e0,e1,e4,e10,e11,e12,eS,eT,eN⟩ IH
 simp only at ez hR e0 e1 e4 e10 e11 e12 eS eT eN
 subst eS eT eN
 obtain ⟨g,hg,hT⟩:=Av hl
 rw [hg] at e0 e1 e4 e10 e11 e12
 subst hT
 clear hg hl
 have uq:t.rows.length=P.length+U.length:=by rw [ez]; simp
 by_cases ci:P.length<t.rows.length
 ·have c1:decide ((P.length:Int)<(t.rows.length:Int))=true:=by simpa using ci
  have bm:0<t.rows.length:=by omega
  have bo:t.rows≠[]:=fun h0=>by rw [h0] at bm; simp at bm
  rw [Ba bm] at hh
  subst hh
  have bv:=hT.top
  rw [Ba bm,Ba bm] at bv
  obtain ⟨r0,U,rfl⟩:∃ r0 U',U=r0 :: U':=by
   cases U with
   | nil=>simp at uq; omega
   | cons x u=>exact ⟨x,u,rfl⟩
  have uz:U.length<(r0 :: U).length:=by simp
  have hw2:IntKind.i64.wrap ((P.length:Int)+1)=(((P++[r0]).length:Nat):Int):=by rw [Ad (by unfold i64; omega)]; simp
  have lm:(P++[r0]).length=P.length+1:=by simp
  obtain ⟨bk,jp⟩:=Ag (show P.length<t.basis.length by rw [hT.nb]; exact ci)
  have fo:nth (List.drop P.length (t.basis.map intA)) 0=some (.prim (.int .i64 (bk:Int))):=Dj (by rw [Ae] at jp ⊢; rw [List.getElem?_map,jp]; rfl)
  have pf:=Aa (L:=[⟨k,[.prim (.bool false),.frz [] .nilc,.prim (.bool false),.frz [] .nilc]⟩]) (hT.basisE bo)
  have htB:=Aa (L:=[⟨k,[.prim (.bool false),.frz [] .nilc,.prim (.bool false),.frz [] .nilc]⟩]) bv
  by_cases hb:bk=c
  ·have c2:((bk:Int) == (c:Int))=true:=by simp [hb]
   obtain ⟨pk,ef⟩:=Ag (show P.length<I.ids.length by rw [hT.nids]; exact ci)
   have cl:nth (List.drop P.length (I.ids.map (gt t.cost.length 4))) 0=some (.sref pk.1 pk.2 0 t.cost.length 4):=Dj (by rw [Ae] at ef ⊢; rw [List.getElem?_map,ef]; rfl)
   have fm:nth t.rows P.length=some r0:=by rw [ez]; exact Ee
   have dn:=hT.rowW r0 (Al fm)
   have jn:=Aa (L:=[⟨k,[.prim (.bool false),.frz [] .nilc,.prim (.bool false),.frz [] .nilc]⟩]) (hT.rowsE bo)
   have c9:=Aa (L:=[⟨k,[.prim (.bool false),.frz [] .nilc,.prim (.bool false),.frz [] .nilc]⟩]) (hT.rowE P.length pk r0 ef fm)
   obtain ⟨z,hz⟩:=Ag (show t.cost.length - 1<r0.length by omega)
   have oh:=Ar (ce:=ceW) Ap hz
   have i8:IntKind.i64.wrap ((t.cost.length:Int) - 1)=((t.cost.length - 1:Nat):Int):=by rw [Ad (by unfold i64; omega)]; omega
   have oj:t.cost.length - 1<t.cost.length:=by omega
   have ey:Db wF t c=(z,false):=by
    unfold Db
    rw [hR]
    unfold Ka
    rw [Az jp,if_pos hb]
    simp only [Bx,Az fm,Az hz]
   have bl:entAt (S++[⟨k,ceW z⟩]) S.length k=some (ceW z):=Ai rfl
   have a7:∀ e e',put (S++[e]) S.length e'=S++[e']:=fun e e'=>De rfl
   simp (maxSteps:=10^6)+contextual(disch:=try exact dqd)only[evg1,simprocAttr,AV.int,AV.bool,AV.str,results115,e0,e1,e4,e10,e11,e12,c1,c2,htB,pf,fo,jn,cl,c9,oh,i8,oj,ci,bl,a7,Hb,Ag2,tkW,Ap,A9,ovW,Nat.mul_one]
   rw [hΦ,ey]
   exact ⟨_,rfl⟩
  ·have c2:((bk:Int) == (c:Int))=false:=by simp; omega
   simp (maxSteps:=10^6)+contextual(disch:=try exact dqd)only[evg1,simprocAttr,AV.int,AV.bool,AV.str,results115,e0,e1,e4,e10,e11,e12,c1,c2,htB,pf,fo,ci,hw2,Nat.mul_one]
   exact IH (P++[r0],U) _ (by first|omega|(simp only; omega)) ⟨rfl,by rw [ez]; simp,by rw [hR,lm]; simp only [Ka]; rw [Az jp,if_neg hb],by and_intros <;> first|rfl|simp only [getT,List.map_append]⟩
 ·have c1:decide ((P.length:Int)<(t.rows.length:Int))=false:=by simpa using ci
  have ww:U=[]:=List.length_eq_zero_iff.1 (by omega)
  subst ww
  have ey:Db wF t c=y:=by unfold Db; rw [hR]; simp only [Ka]; exact hy.symm
  simp (maxSteps:=10^6)+contextual(disch:=try exact dqd)only[evg1,simprocAttr,AV.int,AV.bool,AV.str,results115,e0,e1,e4,e10,e11,e12,c1,htA,dw,hE,ro,hP,u0,Et,xfs,puW,Ag2,tkW,Ap,A9,ovW]
  rw [hΦ,ey]
  exact ⟨_,rfl⟩
end
end
section
open Go
theorem En (n:Int) (hn:i64 n):wF.ok (wF.whole n).1:=B7.whole n hn
theorem Ahq {S:List Ent} {iq eq:Nat} {I:TI} {t:Tb} {cc:Cap} {c:Nat} (hT:A2 S iq eq I t cc):wF.ok (Db wF t c).1:=by
 unfold Db
 split
 ·rename_i i hi
  have hlt:=(W4 hi).2.1
  obtain ⟨r0,bo⟩:=Ag (show i<t.rows.length by omega)
  have dn:=hT.rowW r0 (Al bo)
  have cn:=hT.real
  obtain ⟨z,hz⟩:=Ag (show t.cost.length - 1<r0.length by omega)
  simp only [Bx,Az bo,Az hz]
  exact hT.okr r0 (Al bo) z (Al hz)
 ·exact En 0 (by unfold i64; omega)
end
section
open Go Go.Proofs.Tryz
def Kb (l:List Q):List (List AV):=l.map fun q=>ceW (wF.rat q)
theorem Abj (l:List Q):Da 4 (Kb l)=true:=by unfold Kb; exact Gx (sz:=4) (f:=fun q=>ceW (wF.rat q)) (fun _=>rfl) l
def Ajd (S:List Ent) (iq eq:Nat) (I:TI) (t':Tb) (cc:Cap) (l:List Q) (r:Rs):Prop :=
 ∃ S' k' tk' c,r=(.frz (Kb l) c,S',tk',k')/\S'.length=S.length/\A2 S' iq eq I t' cc/\∀ j,OutW I iq j->nth S' j=nth S j
section
variable (S:List Ent) (tk:List Nat) (k iq eq:Nat)
set_option maxHeartbeats 8000000 in
set_option maxRecDepth 100000 in
theorem Ao0 (I:TI) (t:Tb) (cc:Cap) (ag:A2 S iq eq I t cc) (hv:2*t.vars<=t.real) :
  ∃ r,cL prog 91 [.ref I.it I.et 0] S tk k=some r/\Ajd S iq eq I { t with fl:=Bool.or t.fl (B6 wF t).2 } cc (B6 wF t).1 r:=by
 obtain ⟨Φ,hΦ⟩:∃ Φ,Φ=Ajd S iq eq I { t with fl:=Bool.or t.fl (B6 wF t).2 } cc (B6 wF t).1:=⟨_,rfl⟩
 rw [<- hΦ]
 have ai:=ag.top
 have hW:=ag.bigW
 have cn:=ag.real
 simp only [intA] at ai
 refine opG func91 ntmps91 ?_
 simp (maxSteps:=10^6)+contextual(disch:=try exact dqd)only[evg1,simprocAttr,AV.int,AV.bool,AV.str,results91,ai]
 refine Ef (P:=prog) (fun x st=>st.T.length=40/\(x.2.2.2.2.1<=t.vars)/\(B6 wF t=(x.2.2.2.2.2.1++(Ek (ptF wF t) (t.vars - x.2.2.2.2.1) x.2.2.2.2.1).1,Bool.or x.2.2.2.2.2.2 (Ek (ptF wF t) (t.vars - x.2.2.2.2.1) x.2.2.2.2.1).2))/\(x.2.2.2.2.2.1.length=x.2.2.2.2.1)/\(Be x.2.2.1 x.2.2.2.1 4=true)/\(A2 x.1 iq eq I { t with fl:=Bool.or t.fl x.2.2.2.2.2.2 } cc)/\(x.1.length=S.length)/\(∀ v,OutW I iq v->nth x.1 v=nth S v)/\getT st.T 0=.ref I.it I.et 0/\getT st.T 3=.frz (Kb x.2.2.2.2.2.1) x.2.2.2.1/\getT st.T 8=.int (t.vars:Nat)/\getT st.T 9=.int (x.2.2.2.2.1:Nat)/\st.S=x.1/\st.tk=x.2.2.1/\st.n=x.2.1) (fun x=>t.vars - x.2.2.2.2.1) (S,k,tk,Cap.nilc,0,([]:List Q),false) ?_ ?_
 case refine_2=>exact ⟨rfl,Nat.zero_le _,by simp [B6],rfl,rfl,by simp only [Bool.or_false]; exact ag,rfl,fun j _=>rfl,rfl,rfl,rfl,rfl,rfl,rfl,rfl⟩
 rintro ⟨SS,n1,tk1,cp,j,out,fq⟩ ⟨T,S',tk',n'⟩ ⟨hl,hj,hR,qj,ab,hT,ee,aw,e0,e3,e8,e9,eS,eT,eN⟩ IH
 simp only at hj hR qj ab hT ee aw e0 e3 e8 e9 eS eT eN
 subst eS eT eN
 obtain ⟨g,hg,hT⟩:=Av hl
 rw [hg] at e0 e3 e8 e9
 subst hT
 clear hg hl
 have ig:List.take S.length S'=S':=List.take_of_length_le (by omega)
 by_cases hjv:j<t.vars
 ·have c1:decide ((j:Int)<(t.vars:Int))=true:=by simpa using hjv
  have hw:IntKind.i64.wrap ((j:Int)+1)=((j+1:Nat):Int):=by rw [Ad (by unfold i64; omega)]; rfl
  have hwm:IntKind.i64.wrap (2*(j:Int))=((2*j:Nat):Int):=by rw [Ad (by unfold i64; omega)]; rfl
  have a03:IntKind.i64.wrap (((2*j:Nat):Int)+1)=((2*j+1:Nat):Int):=by rw [Ad (by unfold i64; omega)]; rfl
  have bv:=hT.top
  obtain ⟨a,ha⟩:∃ a,a=Db wF t (2*j):=⟨_,rfl⟩
  obtain ⟨b,hb⟩:∃ b,b=Db wF t (2*j+1):=⟨_,rfl⟩
  obtain ⟨d,hd⟩:∃ d,d=wF.minus a.1 b.1:=⟨_,rfl⟩
  have oa:wF.ok a.1:=by rw [ha]; exact Ahq ag
  have ob:wF.ok b.1:=by rw [hb]; exact Ahq ag
  have od:wF.ok d.1:=by rw [hd]; exact B7.minus _ _ oa ob
  obtain ⟨r,fv,k1,rfl⟩:=Afi S' tk' n' iq eq I _ cc (2*j) hT
  have ea:Db wF { t with fl:=Bool.or t.fl fq } (2*j)=a:=ha.symm
  rw [ea] at fv
  have hg1:=Eg (c:=a.2) hT.fa
  have mn:=hT.fa.fS (c:=a.2)
  obtain ⟨S1,cj⟩:∃ S1,S1=flW S' iq eq a.2:=⟨_,rfl⟩
  have dy:=hT.flag (S':=flW S' iq eq a.2) (fun j hj=>Bi hj) mn
  rw [<- cj] at fv hg1 mn dy
  obtain ⟨r,hcb,k2,rfl⟩:=Afi S1 tk' k1 iq eq I _ cc (2*j+1) dy
  have eb:Db wF { t with fl:=Bool.or (Bool.or t.fl fq) a.2 } (2*j+1)=b:=hb.symm
  rw [eb] at hcb
  have hg2:=Eg (c:=b.2) mn
  have b8:=mn.fS (c:=b.2)
  obtain ⟨S2,a8⟩:∃ S2,S2=flW S1 iq eq b.2:=⟨_,rfl⟩
  rw [<- a8] at hcb hg2 b8
  have hm:=Lo S2 tk' k2 iq eq _ a.1 b.1 oa ob b8
  rw [<- hd] at hm
  have hg3:=Eg (c:=d.2) b8
  have df:=b8.fS (c:=d.2)
  obtain ⟨S3,da⟩:∃ S3,S3=flW S2 iq eq d.2:=⟨_,rfl⟩
  rw [<- da] at hm hg3 df
  have hr:=R4 S3 tk' (k2+0) iq eq _ d.1 od df
  have b6:∀ v,v≠iq->nth S3 v=nth S' v:=fun v hv=>by rw [da,Bi hv,a8,Bi hv,cj,Bi hv]
  have dx:S3.length=S'.length:=by rw [da,Bq,a8,Bq,cj,Bq]
  have a2u:entAt S1 I.it I.et=_:=dy.top
  have hpt:ptF wF t j=(d.1,Bool.or (Bool.or a.2 b.2) d.2):=by rw [hd,hb,ha]; rfl
  have lu:Ek (ptF wF t) (t.vars - j) j=(d.1 :: (Ek (ptF wF t) (t.vars - (j+1)) (j+1)).1,Bool.or (Bool.or (Bool.or a.2 b.2) d.2) (Ek (ptF wF t) (t.vars - (j+1)) (j+1)).2):=by
   rw [show t.vars - j=(t.vars - (j+1))+1 by omega]
   simp only [Ek,hpt]
  have j7:=Abj out
  have pu:(Kb out).length+1<=1048576:=by unfold Kb; rw [List.length_map]; omega
  have hle:Kb (out++[d.1])=Kb out++[ceW (wF.rat d.1)]:=by unfold Kb; simp
  have bp:=apB_one (y:=ceW (wF.rat d.1)) ab j7 rfl pu
  have d7:=Bv ab
  have px:List.take S'.length S3=S3:=List.take_of_length_le (by omega)
  simp (maxSteps:=10^6)+contextual(disch:=try exact dqd)only[evg1,simprocAttr,AV.int,AV.bool,AV.str,results91,e0,e3,e8,e9,c1,hw,hwm,a03,bv,fv,hcb,hm,hr,hg1,hg2,hg3,bp,px,Et,xfs,puW,tkW,Ap,A9,Qo,T5]
  have co:=hT.flag (S':=S3) b6 df
  exact IH (S3,k2+0+0,Ey tk' cp,Bb tk' cp 4,j+1,out++[d.1],Bool.or fq (Bool.or (Bool.or a.2 b.2) d.2)) _ (by first|omega|(simp only; omega)) ⟨rfl,by first|omega|(dsimp only; omega),by rw [hR,lu]; simp only [List.append_assoc,List.cons_append,List.nil_append,Bool.or_assoc],by simp [qj],d7,by simpa only [Bool.or_assoc] using co,by first|omega|(dsimp only; omega),fun v hv=>by rw [b6 v hv.1]; exact aw v hv,by and_intros <;> first|rfl|simp only [getT,Kb,List.map_append,List.map_cons,List.map_nil]⟩
 ·have c1:decide ((j:Int)<(t.vars:Int))=false:=by simpa using hjv
  have q9:t.vars - j=0:=by omega
  rw [q9] at hR
  simp only [Ek,List.append_nil,Bool.or_false] at hR
  simp (maxSteps:=10^6)+contextual(disch:=try exact dqd)only[evg1,simprocAttr,AV.int,AV.bool,AV.str,results91,e0,e3,e8,e9,c1]
  rw [hΦ,hR,ig]
  exact ⟨S',n',tk',cp,rfl,ee,hT,aw⟩
set_option maxHeartbeats 8000000 in
set_option maxRecDepth 100000 in
theorem Xf (I:TI) (t:Tb) (cc:Cap) (ag:A2 S iq eq I t cc) (hv:t.real+t.rows.length<t.cost.length) :
  ∃ r,cL prog 90 [.ref I.it I.et 0] S tk k=some r/\Ajd S iq eq I { t with fl:=Bool.or t.fl (Gw wF t).2 } cc (Gw wF t).1 r:=by
 obtain ⟨Φ,hΦ⟩:∃ Φ,Φ=Ajd S iq eq I { t with fl:=Bool.or t.fl (Gw wF t).2 } cc (Gw wF t).1:=⟨_,rfl⟩
 rw [<- hΦ]
 have ai:=ag.top
 have hW:=ag.bigW
 have hM:=ag.bigM
 have cn:=ag.real
 have az:=ag.low
 obtain ⟨one,bz⟩:∃ one,one=wF.whole 1:=⟨_,rfl⟩
 obtain ⟨z0,hz0⟩:∃ z0,z0=wF.whole 0:=⟨_,rfl⟩
 have o1:wF.ok one.1:=by rw [bz]; exact En 1 (by unfold i64; omega)
 have o0:wF.ok z0.1:=by rw [hz0]; exact En 0 (by unfold i64; omega)
 have hw1:=Kd S tk k iq eq t.fl 1 (by unfold i64; omega) ag.fa
 rw [<- bz] at hw1
 have mn:=ag.fa.fS (c:=one.2)
 obtain ⟨S1,cj⟩:∃ S1,S1=flW S iq eq one.2:=⟨_,rfl⟩
 have dy:=ag.flag (S':=flW S iq eq one.2) (fun j hj=>Bi hj) mn
 have hl1:(flW S iq eq one.2).length=S.length:=Bq
 have bl:∀ v,v≠iq->nth (flW S iq eq one.2) v=nth S v:=fun v hv=>Bi hv
 rw [<- cj] at hw1 mn dy hl1 bl
 obtain ⟨h,hh⟩:∃ h,h=cw I.ir I.er 1 t.rows.length:=⟨_,rfl⟩
 have hlen:lenV false true h=some (.int (t.rows.length:Nat)):=by
  rw [hh]
  cases t.rows.length with
  | zero=>rfl
  | succ n=>rfl
 rw [<- hh] at ai
 have bv:entAt (S1++[⟨k+0,ceW one.1⟩]) I.it I.et=_:=Aa dy.top
 simp only at bv
 rw [<- hh] at bv
 refine opG func90 ntmps90 ?_
 simp (maxSteps:=10^6)+contextual(disch:=try exact dqd)only[evg1,simprocAttr,AV.int,AV.bool,AV.str,results90,ai,hw1,bv,hlen,Et,xfs,puW,Ap,A9,ovW]
 rw [hl1]
 refine Ef (P:=prog) (fun x st=>st.T.length=71/\(x.2.2.2.2.1<=t.rows.length)/\(Ek (mulF wF t) t.rows.length 0=(x.2.2.2.2.2.1++(Ek (mulF wF t) (t.rows.length - x.2.2.2.2.1) x.2.2.2.2.1).1,Bool.or x.2.2.2.2.2.2 (Ek (mulF wF t) (t.rows.length - x.2.2.2.2.1) x.2.2.2.2.1).2))/\(x.2.2.2.2.2.1.length=x.2.2.2.2.1)/\(Be x.2.2.1 x.2.2.2.1 4=true)/\(A2 x.1 iq eq I { t with fl:=Bool.or (Bool.or t.fl one.2) x.2.2.2.2.2.2 } cc)/\(x.1.length=S.length+1)/\(∀ v,v<S.length->OutW I iq v->nth x.1 v=nth S v)/\(entAt x.1 S.length (k+0)=some (ceW one.1))/\getT st.T 0=.ref I.it I.et 0/\getT st.T 3=.frz (Kb x.2.2.2.2.2.1) x.2.2.2.1/\getT st.T 4=.ref S.length (k+0) 0/\getT st.T 16=.int (t.rows.length:Nat)/\getT st.T 17=.int (x.2.2.2.2.1:Nat)/\st.S=x.1/\st.tk=x.2.2.1/\st.n=x.2.1) (fun x=>t.rows.length - x.2.2.2.2.1) ((S1++[⟨k+0,ceW one.1⟩]),(k+0+1),tk,Cap.nilc,0,([]:List Q),false) ?_ ?_
 case refine_2=>exact ⟨rfl,Nat.zero_le _,by simp,rfl,rfl,by simp only [Bool.or_false]; exact dy.app _,by simp [hl1],fun v hv ho=>by rw [A6 (by omega)]; exact bl v ho.1,Ai hl1,rfl,rfl,rfl,rfl,rfl,rfl,rfl,rfl⟩
 rintro ⟨SS,n1,tk1,cp,j,out,fq⟩ ⟨T,S',tk',n'⟩ ⟨hl,hj,hR,qj,ab,hT,ee,aw,xi,e0,e3,e4,e16,e17,eS,eT,eN⟩ IH
 simp only at hj hR qj ab hT ee aw xi e0 e3 e4 e16 e17 eS eT eN
 subst eS eT eN
 obtain ⟨g,hg,hT⟩:=Av hl
 rw [hg] at e0 e3 e4 e16 e17
 subst hT
 clear hg hl
 by_cases hjm:j<t.rows.length
 ·have c1:decide ((j:Int)<(t.rows.length:Int))=true:=by simpa using hjm
  have hw:IntKind.i64.wrap ((j:Int)+1)=((j+1:Nat):Int):=by rw [Ad (by unfold i64; omega)]; rfl
  have wj:IntKind.i64.wrap ((t.real:Int)+(j:Int))=((t.real+j:Nat):Int):=by rw [Ad (by unfold i64; omega)]; rfl
  have hrc:t.real+j<t.cost.length:=by omega
  have htj:=hT.top
  simp only [intA] at htj
  have jg:=hT.costE
  obtain ⟨x,hx⟩:=Ag hrc
  have ox:=ag.okc x (Al hx)
  have gv:=Ar (ce:=ceW) Ap hx
  obtain ⟨y,hy⟩:∃ y,y=wF.minus x one.1:=⟨_,rfl⟩
  have oy:wF.ok y.1:=by rw [hy]; exact B7.minus _ _ ox o1
  have db:=Lo S' tk' n' iq eq (Bool.or (Bool.or t.fl one.2) fq) x one.1 ox o1 hT.fa
  rw [<- hy] at db
  have hg1:=Eg (c:=y.2) hT.fa
  have b8:=hT.fa.fS (c:=y.2)
  obtain ⟨S2,a8⟩:∃ S2,S2=flW S' iq eq y.2:=⟨_,rfl⟩
  have ar:=hT.flag (S':=flW S' iq eq y.2) (fun j hj=>Bi hj) b8
  have hl2:(flW S' iq eq y.2).length=S'.length:=Bq
  have a7:∀ v,v≠iq->nth (flW S' iq eq y.2) v=nth S' v:=fun v hv=>Bi hv
  have jm:nth S2 S.length=nth S' S.length:=by rw [a8]; rfl
  rw [<- a8] at db hg1 b8 ar hl2 a7
  obtain ⟨n2,ri⟩:∃ n2,n2=n'+0:=⟨_,rfl⟩
  rw [<- ri] at db
  have pg:entAt (S2++[⟨n2,ceW y.1⟩]) S2.length n2=some (ceW y.1):=Bf
  obtain ⟨bf,zm⟩:=Ag (show j<t.flip.length by rw [ag.nf]; exact hjm)
  have xj:nth (t.flip.map D5) j=some [.prim (.bool bf)]:=by rw [Ae] at zm ⊢; rw [List.getElem?_map,zm]; rfl
  have ot:=ar.app [⟨n2,ceW y.1⟩]
  have ls:=ot.top
  simp only [intA] at ls
  have j2:∀ v,mulF wF t j=v->Ek (mulF wF t) (t.rows.length - j) j=(v.1 :: (Ek (mulF wF t) (t.rows.length - (j+1)) (j+1)).1,Bool.or v.2 (Ek (mulF wF t) (t.rows.length - (j+1)) (j+1)).2):=by
   intro v hv
   rw [show t.rows.length - j=(t.rows.length - (j+1))+1 by omega]
   simp only [Ek,hv]
  have j7:=Abj out
  have pu:(Kb out).length+1<=1048576:=by unfold Kb; rw [List.length_map]; omega
  have d7:=Bv ab
  cases bf with
  | false =>
   have zd:mulF wF t j=y:=by
    unfold mulF
    rw [Az hx,Az zm,<- bz,<- hy]; rfl
   have hr:=R4 (S2++[⟨n2,ceW y.1⟩]) tk' (n2+1) iq eq _ y.1 oy ot.fa
   have bp:=apB_one (y:=ceW (wF.rat y.1)) ab j7 rfl pu
   have il:List.take S'.length (S2++[⟨n2,ceW y.1⟩])=S2:=by rw [<- hl2]; simp
   simp (maxSteps:=10^6)+contextual(disch:=try exact dqd)only[evg1,simprocAttr,AV.int,AV.bool,AV.str,results90,e0,e3,e4,e16,e17,c1,hw,wj,htj,jg,gv,hrc,xi,db,hg1,pg,ls,xj,hr,bp,il,Et,xfs,puW,tkW,Ap,A9,ovW,Ap,A9,Qo,T5]
   exact IH (S2,n2+1+0,Ey tk' cp,Bb tk' cp 4,j+1,out++[y.1],Bool.or fq y.2) _ (by first|omega|(simp only; omega)) ⟨rfl,by first|omega|(dsimp only; omega),by rw [hR,j2 y zd]; simp only [List.append_assoc,List.cons_append,List.nil_append,Bool.or_assoc],by simp [qj],d7,by simpa only [Bool.or_assoc] using ar,by first|omega|(dsimp only; omega),fun v hv ho=>by rw [a7 v ho.1]; exact aw v hv ho,by rw [Ab jm]; exact xi,by and_intros <;> first|rfl|simp only [getT,Kb,List.map_append,List.map_cons,List.map_nil]⟩
  | true =>
   obtain ⟨d,hd⟩:∃ d,d=wF.minus z0.1 y.1:=⟨_,rfl⟩
   have od:wF.ok d.1:=by rw [hd]; exact B7.minus _ _ o0 oy
   have zd:mulF wF t j=(d.1,Bool.or y.2 (Bool.or z0.2 d.2)):=by
    unfold mulF
    rw [Az hx,Az zm,<- bz,<- hy,<- hz0,hd]; rfl
   have zn:=Kd (S2++[⟨n2,ceW y.1⟩]) tk' (n2+1) iq eq _ 0 (by unfold i64; omega) ot.fa
   have hg2:=Eg (c:=z0.2) ot.fa
   rw [<- hz0] at zn
   rw [Ha b8] at zn hg2
   have df:=b8.fS (c:=z0.2)
   obtain ⟨S3,da⟩:∃ S3,S3=flW S2 iq eq z0.2:=⟨_,rfl⟩
   have co:=ar.flag (S':=flW S2 iq eq z0.2) (fun j hj=>Bi hj) df
   have dx:(flW S2 iq eq z0.2).length=S2.length:=Bq
   have b6:∀ v,v≠iq->nth (flW S2 iq eq z0.2) v=nth S2 v:=fun v hv=>Bi hv
   have lq:nth S3 S.length=nth S2 S.length:=by rw [da]; rfl
   rw [<- da] at zn hg2 df co dx b6
   have xk:=df.app (L:=[⟨n2,ceW y.1⟩])
   have fi:=Lo (S3++[⟨n2,ceW y.1⟩]) tk' (n2+1+0) iq eq _ z0.1 y.1 o0 oy xk
   have hg3:=Eg (c:=d.2) xk
   rw [<- hd] at fi
   rw [Ha df] at fi hg3
   have hf4:=df.fS (c:=d.2)
   obtain ⟨S4,hS4⟩:∃ S4,S4=flW S3 iq eq d.2:=⟨_,rfl⟩
   have i7:=co.flag (S':=flW S3 iq eq d.2) (fun j hj=>Bi hj) hf4
   have n0:(flW S3 iq eq d.2).length=S3.length:=Bq
   have hn4:∀ v,v≠iq->nth (flW S3 iq eq d.2) v=nth S3 v:=fun v hv=>Bi hv
   have a04:nth S4 S.length=nth S3 S.length:=by rw [hS4]; rfl
   rw [<- hS4] at fi hg3 hf4 i7 n0 hn4
   have hE3:entAt (S3++[⟨n2,ceW y.1⟩]) S2.length n2=some (ceW y.1):=Ai dx
   have ov:S4.length=S2.length:=by omega
   have py:entAt (S4++[⟨n2,ceW y.1⟩]) S2.length n2=some (ceW y.1):=Ai ov
   have pz:entAt (S4++[⟨n2,ceW d.1⟩]) S2.length n2=some (ceW d.1):=Ai ov
   have hP4:=fun e e'=>De (e:=e) (e':=e') ov
   have xl:=i7.app [⟨n2,ceW d.1⟩]
   have u3:=xl.top
   simp only [intA] at u3
   have hr:=R4 (S4++[⟨n2,ceW d.1⟩]) tk' (n2+1+0+0) iq eq _ d.1 od xl.fa
   have bp:=apB_one (y:=ceW (wF.rat d.1)) ab j7 rfl pu
   have il:List.take S'.length (S4++[⟨n2,ceW d.1⟩])=S4:=by rw [<- hl2,<- ov]; simp
   simp (maxSteps:=10^6)+contextual(disch:=try exact dqd)only[evg1,simprocAttr,AV.int,AV.bool,AV.str,results90,e0,e3,e4,e16,e17,c1,hw,wj,htj,jg,gv,hrc,xi,db,hg1,pg,ls,xj,zn,hg2,hE3,fi,hg3,py,hP4,pz,u3,hr,bp,il,Et,xfs,puW,tkW,Ap,A9,ovW,ovW2,Ap,A9,Qo,T5]
   exact IH (S4,n2+1+0+0+0,Ey tk' cp,Bb tk' cp 4,j+1,out++[d.1],Bool.or fq (Bool.or y.2 (Bool.or z0.2 d.2))) _ (by first|omega|(simp only; omega)) ⟨rfl,by first|omega|(dsimp only; omega),by rw [hR,j2 _ zd]; simp only [List.append_assoc,List.cons_append,List.nil_append,Bool.or_assoc],by simp [qj],d7,by simpa only [Bool.or_assoc] using i7,by first|omega|(dsimp only; omega),fun v hv ho=>by rw [hn4 v ho.1,b6 v ho.1,a7 v ho.1]; exact aw v hv ho,by rw [Ab a04,Ab lq,Ab jm]; exact xi,by and_intros <;> first|rfl|simp only [getT,Kb,List.map_append,List.map_cons,List.map_nil]⟩
 ·have c1:decide ((j:Int)<(t.rows.length:Int))=false:=by simpa using hjm
  have q9:t.rows.length - j=0:=by omega
  rw [q9] at hR
  simp only [Ek,List.append_nil,Bool.or_false] at hR
  have hmf:Gw wF t=(out,Bool.or one.2 fq):=by unfold Gw; rw [hR,<- bz]
  simp (maxSteps:=10^6)+contextual(disch:=try exact dqd)only[evg1,simprocAttr,AV.int,AV.bool,AV.str,results90,e0,e3,e4,e16,e17,c1]
  rw [hΦ,hmf]
  have th:=hT.take (n:=S.length) (az.of fun h=>h)
  exact ⟨_,n',tk',cp,rfl,by rw [List.length_take]; omega,by simpa only [Bool.or_assoc] using th,fun v hv=>by
   by_cases fu:v<S.length
   ·rw [Du fu]; exact aw v fu hv
   ·rw [Ae,Ae,List.getElem?_eq_none (by rw [List.length_take]; omega),List.getElem?_eq_none (by omega)]⟩
end
end
section
open Go
theorem A2.add {S S':List Ent} {iq eq:Nat} {I:TI} {t:Tb} {c c':Cap} {ir er ib eb id nr b:Nat} {f fl':Bool} {row:List Q} (h:A2 S iq eq I t c)
  (ai:entAt S' I.it I.et=some [.ifc 100 (.agg []),intA t.vars,intA t.real,.sref ir er 0 (t.rows.length+1) 1,.sref I.ic I.ec 0 t.cost.length 4,.sref ib eb 0 (t.rows.length+1) 1,.frz ((t.flip++[f]).map D5) c'])
  (iv:entAt S' ir er=some ((I.ids++[(id,nr)]).map (gt t.cost.length 4))) (rp:entAt S' ib eb=some ((t.basis++[b]).map intA)) (cr:entAt S' id nr=some (flat ceW row)) (j7:row.length=t.cost.length) (kn:okL wF row)
  (jq:∀ p ∈ I.ids,nth S' p.1=nth S p.1) (xm:nth S' I.ic=nth S I.ic) (cz:FAw S' iq eq fl') (bp:Apart ⟨I.it,I.et,ir,er,I.ic,I.ec,ib,eb,I.ids++[(id,nr)]⟩ iq) (hm:t.rows.length+1<=1000000) (hb:b<t.cost.length) :
  A2 S' iq eq ⟨I.it,I.et,ir,er,I.ic,I.ec,ib,eb,I.ids++[(id,nr)]⟩ { t with rows:=t.rows++[row],basis:=t.basis++[b],flip:=t.flip++[f],fl:=fl' } c':=by
 have hlen:(t.rows++[row]).length=t.rows.length+1:=by simp
 refine ⟨?_,by simp [h.nids],fun _=>iv,fun i p r hp hr=>?_,fun r hr=>?_,?_,fun _=>rp,by simp [h.nb],by simp [h.nf],cz,bp,fun r hr=>?_,h.okc,h.bigW,by rw [hlen]; exact hm,h.real,fun x hx=>?_⟩
 ·rw [ai]; simp only [hlen,cw]
 ·rw [Ae] at hp hr
  by_cases hi:i<I.ids.length
  ·rw [List.getElem?_append_left hi,<- Ae] at hp
   rw [List.getElem?_append_left (by rw [<- h.nids]; exact hi),<- Ae] at hr
   rw [Ab (jq p (Al hp))]
   exact h.rowE i p r hp hr
  ·have u4:i=I.ids.length:=by
    have:=(List.getElem?_eq_some_iff.1 hp).1
    simp at this; omega
   rw [u4,List.getElem?_append_right (Nat.le_refl _),Nat.sub_self] at hp
   rw [u4,h.nids,List.getElem?_append_right (Nat.le_refl _),Nat.sub_self] at hr
   simp only [List.getElem?_cons_zero,Option.some.injEq] at hp hr
   subst hp; subst hr
   exact cr
 ·rcases List.mem_append.1 hr with hr|hr
  ·exact h.rowW r hr
  ·simp only [List.mem_singleton] at hr; subst hr; exact j7
 ·rw [Ab xm]; exact h.costE
 ·rcases List.mem_append.1 hr with hr|hr
  ·exact h.okr r hr
  ·simp only [List.mem_singleton] at hr; subst hr; exact kn
 ·rcases List.mem_append.1 hx with hx|hx
  ·exact h.bB x hx
  ·simp only [List.mem_singleton] at hx; subst hx; exact hb
structure Gf (S SS:List Ent) (iq eq:Nat) (I:TI) (t:Tb) (cp:Cap) (L nz n15 n16 n19:Nat) (z:Q) (r:RowT) (row:List Q) (u:Q):Prop where
 T:A2 SS iq eq I t cp
 low:LowW I iq L t
 Z:entAt SS (S.length+1) nz=some (ceW z)
 E15:entAt SS L n15=some (rowC r)
 E16:entAt SS (L+1) n16=some (flat ceW row)
 E19:entAt SS (L+2) n19=some (ceW u)
 len:SS.length=L+3
 fr:∀ j,j<S.length->j≠iq->nth SS j=nth S j
 qL:iq<S.length
 SL:S.length+3<=L
 ic:I.ic=S.length+2
section
variable {S SS S':List Ent} {iq eq:Nat} {I:TI} {t:Tb} {cp:Cap} {L nz n15 n16 n19:Nat} {z u:Q} {r:RowT} {row:List Q}
theorem Gf.flag {fl':Bool} (h:Gf S SS iq eq I t cp L nz n15 n16 n19 z r row u) (hS:∀ j,j≠iq->nth S' j=nth SS j) (hl:S'.length=SS.length) (hf:FAw S' iq eq fl') :
  Gf S S' iq eq I { t with fl:=fl' } cp L nz n15 n16 n19 z r row u:=by
 have hq:=h.qL
 have hL:=h.SL
 exact ⟨h.T.flag hS hf,h.low.of fun h=>h,by rw [Ab (hS _ (by omega))]; exact h.Z,by rw [Ab (hS _ (by omega))]; exact h.E15,by rw [Ab (hS _ (by omega))]; exact h.E16,by rw [Ab (hS _ (by omega))]; exact h.E19,by rw [hl]; exact h.len,fun j h1 h2=>by rw [hS j h2]; exact h.fr j h1 h2,hq,hL,h.ic⟩
theorem Gf.put (h:Gf S SS iq eq I t cp L nz n15 n16 n19 z r row u) (row':List Q):Gf S (put SS (L+1) ⟨n16,flat ceW row'⟩) iq eq I t cp L nz n15 n16 n19 z r row' u:=by
 have hq:=h.qL
 have hL:=h.SL
 have hl:=h.len
 have key:∀ j,j≠L+1->nth (Go.Proofs.YtcjffhadclngmaaGreat.put SS (L+1) ⟨n16,flat ceW row'⟩) j=nth SS j:=fun j hj=>Ac (Ne.symm hj)
 have hT:=h.T.frame (S':=Go.Proofs.YtcjffhadclngmaaGreat.put SS (L+1) ⟨n16,flat ceW row'⟩) (fl':=t.fl) h.low (fun j h1 h2=>key j (by omega)) (h.T.fa.put (by omega))
 exact ⟨hT,h.low,by rw [Ab (key _ (by omega))]; exact h.Z,by rw [Ab (key _ (by omega))]; exact h.E15,Af (by omega),by rw [Ab (key _ (by omega))]; exact h.E19,by rw [Ah]; exact hl,fun j h1 h2=>by rw [key j (by omega)]; exact h.fr j h1 h2,hq,hL,h.ic⟩
theorem Gf.unit (h:Gf S SS iq eq I t cp L nz n15 n16 n19 z r row u) (u':Q):Gf S (Go.Proofs.YtcjffhadclngmaaGreat.put SS (L+2) ⟨n19,ceW u'⟩) iq eq I t cp L nz n15 n16 n19 z r row u':=by
 have hq:=h.qL
 have hL:=h.SL
 have hl:=h.len
 have key:∀ j,j≠L+2->nth (Go.Proofs.YtcjffhadclngmaaGreat.put SS (L+2) ⟨n19,ceW u'⟩) j=nth SS j:=fun j hj=>Ac (Ne.symm hj)
 have hT:=h.T.frame (S':=Go.Proofs.YtcjffhadclngmaaGreat.put SS (L+2) ⟨n19,ceW u'⟩) (fl':=t.fl) h.low (fun j h1 h2=>key j (by omega)) (h.T.fa.put (by omega))
 exact ⟨hT,h.low,by rw [Ab (key _ (by omega))]; exact h.Z,by rw [Ab (key _ (by omega))]; exact h.E15,by rw [Ab (key _ (by omega))]; exact h.E16,Af (by omega),by rw [Ah]; exact hl,fun j h1 h2=>by rw [key j (by omega)]; exact h.fr j h1 h2,hq,hL,h.ic⟩
theorem Gf.cost {k':List Q} (h:Gf S SS iq eq I t cp L nz n15 n16 n19 z r row u) (hk:k'.length=t.cost.length) (ho:okL wF k'):Gf S (Go.Proofs.YtcjffhadclngmaaGreat.put SS I.ic ⟨I.ec,flat ceW k'⟩) iq eq I { t with cost:=k' } cp L nz n15 n16 n19 z r row u:=by
 have hq:=h.qL
 have hL:=h.SL
 have hl:=h.len
 have hic:=h.ic
 have key:∀ j,j≠I.ic->nth (Go.Proofs.YtcjffhadclngmaaGreat.put SS I.ic ⟨I.ec,flat ceW k'⟩) j=nth SS j:=fun j hj=>Ac (Ne.symm hj)
 have hT:=h.T.setCost (S':=Go.Proofs.YtcjffhadclngmaaGreat.put SS I.ic ⟨I.ec,flat ceW k'⟩) (fl':=t.fl) hk ho (fun j h1 h2=>key j h1) (Af (by omega)) (h.T.fa.put (by omega))
 exact ⟨hT,h.low.of fun h=>h,by rw [Ab (key _ (by omega))]; exact h.Z,by rw [Ab (key _ (by omega))]; exact h.E15,by rw [Ab (key _ (by omega))]; exact h.E16,by rw [Ab (key _ (by omega))]; exact h.E19,by rw [Ah]; exact hl,fun j h1 h2=>by rw [key j (by omega)]; exact h.fr j h1 h2,hq,hL,h.ic⟩
end
end
section
open Go
def Aef (S:List Ent) (l:List RowT) (vars:List ByteArray) (fl:Bool) (k iq eq c W nz:Nat) (z:Q) (i:Nat) (st:St):Prop :=
 ∃ sl t1 I cp,i<=l.length/\Bj wF l vars fl=begS wF z vars c W (l.drop i) i sl t1/\A2 st.S iq eq I t1 cp/\t1.rows.length=i/\t1.cost.length=W/\t1.real=c/\t1.vars=vars.length/\sl+neqs (l.drop i)=c/\Be st.tk cp 1=true/\entAt st.S (S.length+1) nz=some (ceW z)/\S.length+3<=st.S.length/\(∀ j,j<S.length->j≠iq->nth st.S j=nth S j)/\(I.it=S.length/\I.et=k/\I.ic=S.length+2)/\(S.length+2<I.ir/\S.length+2<I.ib/\∀ p ∈ I.ids,S.length+2<p.1) /\
  st.T.length=270/\getT st.T 0=.ifc 100 (.agg [])/\getT st.T 1=.frz (l.map rowC) .unk/\getT st.T 2=.frz (vars.map strC) .unk/\getT st.T 7=.ref S.length k 0/\getT st.T 10=.int (sl:Nat)/\getT st.T 11=.int (W:Nat)/\getT st.T 12=.ref (S.length+1) nz 0/\getT st.T 83=.frz (l.map rowC) .unk/\getT st.T 84=.int (l.length:Nat)/\getT st.T 85=.int (i:Nat)
end
section
open Go Go.Proofs.Tryz
section
variable (S:List Ent) (l:List RowT) (vars:List ByteArray) (fl:Bool) (k iq eq c W nz:Nat) (z:Q)
set_option maxHeartbeats 20000000 in
set_option maxRecDepth 100000 in
theorem Ao1 (hB:BegC S l vars iq c W) (Φ:Rs->Prop) (i:Nat) (bg:i<l.length) (r:RowT) (hr:nth l i=some r) (sl2:Nat) (jr:sl2+neqs (l.drop (i+1))=c) (t1:Tb) (I:TI) (cp:Cap) (tk:List Nat)
  (f9:t1.rows.length=i) (hcl:t1.cost.length=W) (dk:t1.real=c) (i9:t1.vars=vars.length) (ab:Be tk cp 1=true) (ba:I.it=S.length/\I.et=k/\I.ic=S.length+2) (ja:S.length+2<I.ir/\S.length+2<I.ib/\∀ p ∈ I.ids,S.length+2<p.1)
  (rowZ:List Q) (fr:Bool) (o3:rowZ.length=W) (orowZ:okL wF rowZ) (L m0 nu:Nat) (u:Q × Bool) (fb:Bool) (js:fb=D2 r) (SZ:List Ent) (n7 lv:Nat) (lw:Gf S SZ iq eq I { t1 with fl:=Bool.or t1.fl fr } cp L nz m0 (m0+1) nu z r rowZ u.1)
  (hR:Bj wF l vars fl=begS wF z vars c W (l.drop (i+1)) (i+1) sl2 { t1 with rows:=t1.rows++[rowZ],cost:=(costL wF c W 0 t1.cost rowZ).1,basis:=t1.basis++[c+i],flip:=t1.flip++[fb],fl:=Bool.or (Bool.or t1.fl fr) (costL wF c W 0 t1.cost rowZ).2 })
  (back:∀ st,Aef S l vars fl k iq eq c W nz z (i+1) st->Gd finM Φ (KA prog Tryz.f87 18 [] st))
  (T:List AV) (hT:T.length=270) (e0:getT T 0=.ifc 100 (.agg [])) (e1:getT T 1=.frz (l.map rowC) .unk) (e2:getT T 2=.frz (vars.map strC) .unk) (e7:getT T 7=.ref S.length k 0) (e10:getT T 10=.int (sl2:Nat)) (e11:getT T 11=.int (W:Nat)) (e12:getT T 12=.ref (S.length+1) nz 0) (e14:getT T 14=.int (i:Nat)) (e15:getT T 15=.ref L m0 0) (e16:getT T 16=.sref (L+1) (m0+1) 0 W 4) (e18:getT T 18=.prim (.bool fb)) (e19:getT T 19=.ref (L+2) nu 0) (e83:getT T 83=.frz (l.map rowC) .unk) (e84:getT T 84=.int (l.length:Nat)) (e85:getT T 85=.int (i:Nat)) (e194:getT T 194=.int (W:Nat)) (e195:getT T 195=.int ((0:Nat):Int)) :
  Gd finM Φ (KA prog Tryz.f87 43 [lv] ⟨T,SZ,tk,n7⟩):=by
 obtain ⟨hl,jl,hv,hc,dd,k8,tf,uw⟩:=hB
 have y9:=Lx l
 have rq:IntKind.i64.wrap ((W:Int) - 1)=((W - 1:Nat):Int):=by rw [Ad (by unfold i64; omega)]; omega
 have i8:W - 1<W:=by omega
 have jt:IntKind.i64.wrap ((c:Int)+(i:Int))=((c+i:Nat):Int):=by rw [Ad (by unfold i64; omega)]; rfl
 have hwi:IntKind.i64.wrap ((i:Int)+1)=((i+1:Nat):Int):=by rw [Ad (by unfold i64; omega)]; rfl
 have tx:c+i<W:=by omega
 refine Ade rfl (t:=.mk) ?_
 refine Ef (P:=prog) (fun x st=>st.T.length=270/\(costL wF c W 0 t1.cost rowZ=(x.2.2.1++(costL wF c W x.2.2.1.length x.2.2.2.1 (rowZ.drop x.2.2.1.length)).1,Bool.or x.2.2.2.2 (costL wF c W x.2.2.1.length x.2.2.2.1 (rowZ.drop x.2.2.1.length)).2))/\(x.2.2.1.length+x.2.2.2.1.length=W)/\(Gf S x.1 iq eq I { t1 with cost:=x.2.2.1++x.2.2.2.1,fl:=Bool.or (Bool.or t1.fl fr) x.2.2.2.2 } cp L nz m0 (m0+1) nu z r rowZ u.1)/\getT st.T 0=.ifc 100 (.agg [])/\getT st.T 1=.frz (l.map rowC) .unk/\getT st.T 2=.frz (vars.map strC) .unk/\getT st.T 7=.ref S.length k 0/\getT st.T 10=.int (sl2:Nat)/\getT st.T 11=.int (W:Nat)/\getT st.T 12=.ref (S.length+1) nz 0/\getT st.T 14=.int (i:Nat)/\getT st.T 15=.ref L m0 0/\getT st.T 16=.sref (L+1) (m0+1) 0 W 4/\getT st.T 18=.prim (.bool fb)/\getT st.T 19=.ref (L+2) nu 0/\getT st.T 83=.frz (l.map rowC) .unk/\getT st.T 84=.int (l.length:Nat)/\getT st.T 85=.int (i:Nat)/\getT st.T 194=.int (W:Nat)/\getT st.T 195=.int (x.2.2.1.length:Nat)/\st.S=x.1/\st.tk=tk/\st.n=x.2.1) (fun x=>x.2.2.2.1.length) (SZ,n7,([]:List Q),t1.cost,false) ?_ ?_
 case refine_2=>exact ⟨(by first|rfl|assumption),rfl,by simpa using hcl,by simp only [List.nil_append,Bool.or_false]; exact lw,(by first|rfl|assumption),(by first|rfl|assumption),(by first|rfl|assumption),(by first|rfl|assumption),(by first|rfl|assumption),(by first|rfl|assumption),(by first|rfl|assumption),(by first|rfl|assumption),(by first|rfl|assumption),(by first|rfl|assumption),(by first|rfl|assumption),(by first|rfl|assumption),(by first|rfl|assumption),(by first|rfl|assumption),(by first|rfl|assumption),(by first|rfl|assumption),(by first|rfl|assumption),(by first|rfl|assumption),(by first|rfl|assumption),(by first|rfl|assumption)⟩
 rintro ⟨SS,n1,p,v,fq⟩ ⟨T,S',tk',n'⟩ ⟨hl,j8,kq,ah,e0,e1,e2,e7,e10,e11,e12,e14,e15,e16,e18,e19,e83,e84,e85,e194,e195,eS,eT,eN⟩ IH
 simp only at j8 kq ah e0 e1 e2 e7 e10 e11 e12 e14 e15 e16 e18 e19 e83 e84 e85 e194 e195 eS eT eN
 subst eS eT eN
 obtain ⟨g,hg,hT⟩:=Av hl
 rw [hg] at e0 e1 e2 e7 e10 e11 e12 e14 e15 e16 e18 e19 e83 e84 e85 e194 e195
 subst hT
 clear hg hl
 have ft:(p++v).length=W:=by simpa using kq
 have fc:=ah.T.top
 simp only [ba.1,ba.2.1,ba.2.2,ft,dk,i9,f9,intA] at fc
 by_cases tj:p.length<W
 ·have c2:decide ((p.length:Int)<(W:Int))=true:=by simpa using tj
  obtain ⟨a0,v,rfl⟩:∃ a0 v',v=a0 :: v':=by
   cases v with
   | nil=>simp at kq; omega
   | cons x v=>exact ⟨x,v,rfl⟩
  obtain ⟨r0,bo⟩:=Ag (show p.length<rowZ.length by omega)
  have gt:=Bc bo
  have oa0:wF.ok a0:=ah.T.okc a0 (by simp)
  have or0:wF.ok r0:=orowZ r0 (Al bo)
  have hw:IntKind.i64.wrap ((p.length:Int)+1)=(((p++[a0]).length:Nat):Int):=by rw [Ad (by unfold i64; omega)]; simp
  have uz:v.length<(a0 :: v).length:=by simp
  have zo:∀ a:Q,(p++[a]).length=p.length+1:=fun a=>by simp
  rw [gt] at j8
  simp only [costL] at j8
  by_cases yv:p.length<c
  ·have c6:decide ((p.length:Int)<(c:Int))=true:=by simpa using yv
   have aj:H8 wF c W p.length a0 r0=wF.minus a0 r0:=by unfold H8; rw [if_pos (Or.inl yv)]
   have c7:=c6
   have c7b:=c6
   obtain ⟨y,hy⟩:∃ y,y=wF.minus a0 r0:=⟨_,rfl⟩
   have oy:wF.ok y.1:=by rw [hy]; exact B7.minus _ _ oa0 or0
   rw [aj,<- hy] at j8
   have re:IntKind.i64.wrap ((p.length:Int)+1)=(((p++[y.1]).length:Nat):Int):=by rw [Ad (by unfold i64; omega)]; simp
   have cz:=ah.T.fa
   have jg:=ah.T.costE
   have m9:entAt S' (S.length+2) I.ec=some (flat ceW (p++a0 :: v)):=by have h:=jg; rw [ba.2.2] at h; exact h
   have q6:=Ar (ce:=ceW) Ap (Ee (p:=p) (u:=v) (x:=a0))
   have hrt:=Ar (ce:=ceW) Ap bo
   have d9:=ah.E16
   have cq:=Lo S' tk' n' iq eq _ a0 r0 oa0 or0 cz
   have hg1:=Eg (c:=y.2) cz
   rw [<- hy] at cq
   obtain ⟨S1a,ju⟩:∃ S1a,S1a=flW S' iq eq y.2:=⟨_,rfl⟩
   have jb:=ah.flag (S':=flW S' iq eq y.2) (fun j hj=>Bi hj) Bq cz.fS
   rw [<- ju] at cq hg1 jb
   have o4:entAt S1a (S.length+2) I.ec=some (flat ceW (p++a0 :: v)):=by have h:=jb.T.costE; rw [ba.2.2] at h; exact h
   have ho:=A4 (ce:=ceW) Ap (l:=p++a0 :: v) (k:=p.length) (q':=y.1) (by simp)
   rw [Ge] at ho
   have fk:=jb.cost (k':=p++y.1 :: v) (by simp) (fun q hq=>by
    rcases List.mem_append.1 hq with h|h
    ·exact ah.T.okc q (by simp [h])
    ·rcases List.mem_cons.1 h with rfl|h
     ·exact oy
     ·exact ah.T.okc q (by simp [h]))
   rw [ba.2.2] at fk
   have io:∀ x,List.take S'.length (put S1a (S.length+2) x)=put S1a (S.length+2) x:=fun x=>List.take_of_length_le (by rw [Ah,jb.len,ah.len]; exact Nat.le_refl _)
   simp (maxSteps:=10^6)+contextual(disch:=try exact dqd)only[evg1,simprocAttr,AV.int,AV.bool,AV.str,results87,e0,e1,e2,e7,e10,e11,e12,e14,e15,e16,e18,e19,e83,e84,e85,e194,e195,c2,c6,c7,c7b,re,rq,fc,m9,q6,hrt,d9,tj,cq,hg1,o4,ho,io,Et,xfs,puW,tkW,Ap,A9]
   exact IH (put S1a (S.length+2) ⟨I.ec,flat ceW (p++y.1 :: v)⟩,n'+0,p++[y.1],v,Bool.or fq y.2) _ (by first|omega|(simp only; omega)) ⟨rfl,by rw [j8,zo]; simp only [List.append_assoc,List.cons_append,List.nil_append,Bool.or_assoc],by show (p++[y.1]).length+v.length=W; simp only [List.length_append,List.length_cons,List.length_nil] at kq ⊢; omega,by simpa only [List.append_assoc,List.cons_append,List.nil_append,Bool.or_assoc] using fk,by and_intros <;> first|rfl|simp only [getT,List.map_append,List.map_cons,List.map_nil]⟩
  ·have c6:decide ((p.length:Int)<(c:Int))=false:=by simpa using yv
   by_cases ci:p.length=W - 1
   ·have c7:decide ((p.length:Int)=((W - 1:Nat):Int))=true:=by exact decide_eq_true (by omega)
    have c7b:((p.length:Int) == ((W - 1:Nat):Int))=true:=by exact decide_eq_true (by omega)
    have aj:H8 wF c W p.length a0 r0=wF.minus a0 r0:=by unfold H8; rw [if_pos (Or.inr ci)]
    obtain ⟨y,hy⟩:∃ y,y=wF.minus a0 r0:=⟨_,rfl⟩
    have oy:wF.ok y.1:=by rw [hy]; exact B7.minus _ _ oa0 or0
    rw [aj,<- hy] at j8
    have re:IntKind.i64.wrap ((p.length:Int)+1)=(((p++[y.1]).length:Nat):Int):=by rw [Ad (by unfold i64; omega)]; simp
    have cz:=ah.T.fa
    have jg:=ah.T.costE
    have m9:entAt S' (S.length+2) I.ec=some (flat ceW (p++a0 :: v)):=by have h:=jg; rw [ba.2.2] at h; exact h
    have q6:=Ar (ce:=ceW) Ap (Ee (p:=p) (u:=v) (x:=a0))
    have hrt:=Ar (ce:=ceW) Ap bo
    have d9:=ah.E16
    have cq:=Lo S' tk' n' iq eq _ a0 r0 oa0 or0 cz
    have hg1:=Eg (c:=y.2) cz
    rw [<- hy] at cq
    obtain ⟨S1a,ju⟩:∃ S1a,S1a=flW S' iq eq y.2:=⟨_,rfl⟩
    have jb:=ah.flag (S':=flW S' iq eq y.2) (fun j hj=>Bi hj) Bq cz.fS
    rw [<- ju] at cq hg1 jb
    have o4:entAt S1a (S.length+2) I.ec=some (flat ceW (p++a0 :: v)):=by have h:=jb.T.costE; rw [ba.2.2] at h; exact h
    have ho:=A4 (ce:=ceW) Ap (l:=p++a0 :: v) (k:=p.length) (q':=y.1) (by simp)
    rw [Ge] at ho
    have fk:=jb.cost (k':=p++y.1 :: v) (by simp) (fun q hq=>by
     rcases List.mem_append.1 hq with h|h
     ·exact ah.T.okc q (by simp [h])
     ·rcases List.mem_cons.1 h with rfl|h
      ·exact oy
      ·exact ah.T.okc q (by simp [h]))
    rw [ba.2.2] at fk
    have io:∀ x,List.take S'.length (put S1a (S.length+2) x)=put S1a (S.length+2) x:=fun x=>List.take_of_length_le (by rw [Ah,jb.len,ah.len]; exact Nat.le_refl _)
    simp (maxSteps:=10^6)+contextual(disch:=try exact dqd)only[evg1,simprocAttr,AV.int,AV.bool,AV.str,results87,e0,e1,e2,e7,e10,e11,e12,e14,e15,e16,e18,e19,e83,e84,e85,e194,e195,c2,c6,c7,c7b,re,rq,fc,m9,q6,hrt,d9,tj,cq,hg1,o4,ho,io,Et,xfs,puW,tkW,Ap,A9]
    exact IH (put S1a (S.length+2) ⟨I.ec,flat ceW (p++y.1 :: v)⟩,n'+0,p++[y.1],v,Bool.or fq y.2) _ (by first|omega|(simp only; omega)) ⟨rfl,by rw [j8,zo]; simp only [List.append_assoc,List.cons_append,List.nil_append,Bool.or_assoc],by show (p++[y.1]).length+v.length=W; simp only [List.length_append,List.length_cons,List.length_nil] at kq ⊢; omega,by simpa only [List.append_assoc,List.cons_append,List.nil_append,Bool.or_assoc] using fk,by and_intros <;> first|rfl|simp only [getT,List.map_append,List.map_cons,List.map_nil]⟩
   ·have xn:¬ ((p.length:Int)=((W - 1:Nat):Int)):=fun h=>ci (by omega)
    have c7:decide ((p.length:Int)=((W - 1:Nat):Int))=false:=by simpa using xn
    have c7b:((p.length:Int) == ((W - 1:Nat):Int))=false:=by simpa using xn
    have aj:H8 wF c W p.length a0 r0=(a0,false):=by unfold H8; rw [if_neg (by omega)]
    rw [aj] at j8
    simp (maxSteps:=10^6)+contextual(disch:=try exact dqd)only[evg1,simprocAttr,AV.int,AV.bool,AV.str,results87,e0,e1,e2,e7,e10,e11,e12,e14,e15,e16,e18,e19,e83,e84,e85,e194,e195,c2,c6,c7,c7b,hw,rq,fc]
    exact IH (S',n',p++[a0],v,fq) _ (by first|omega|(simp only; omega)) ⟨rfl,by rw [j8,zo]; simp only [List.append_assoc,List.cons_append,List.nil_append,Bool.false_or],by show (p++[a0]).length+v.length=W; simp only [List.length_append,List.length_cons,List.length_nil] at kq ⊢; omega,by simpa using ah,by and_intros <;> first|rfl|simp only [getT,List.map_append,List.map_cons,List.map_nil]⟩
 ·have c2:decide ((p.length:Int)<(W:Int))=false:=by simpa using tj
  have xo:v=[]:=List.length_eq_zero_iff.1 (by omega)
  subst xo
  simp only [costL,List.append_nil,Bool.or_false] at j8 ah ft fc
  rw [j8] at hR
  simp only at hR
  clear IH j8
  obtain ⟨m7,hm7⟩:∃ m7,m7=n':=⟨_,rfl⟩
  subst hm7
  obtain ⟨SW,hSW⟩:∃ SW,SW=S':=⟨_,rfl⟩
  subst hSW
  have zp:=ah.len
  have hSL:=ah.SL
  have hqL:=ah.qL
  have pu:(t1.flip.map D5).length+1<=1048576:=by rw [List.length_map,ah.T.nf]; simp only; omega
  have hfo:Da 1 (t1.flip.map D5)=true:=by
   unfold Da
   rw [List.all_eq_true]
   intro e he
   obtain ⟨b,-,rfl⟩:=List.mem_map.1 he
   rfl
  have bp:=apB_one (y:=[.prim (.bool fb)]) ab hfo rfl pu
  have d7:=Bv ab
  have xp:(t1.flip++[fb]).map D5=t1.flip.map D5++[[.prim (.bool fb)]]:=by simp [D5]
  rcases Nat.eq_zero_or_pos i with j9|j9
  ·rw [j9] at fc
   simp only [cw] at fc
   have xq:S.length<SW.length:=by omega
   have hP:∀ e x:Ent,put (SW++[e]) S.length x=put SW S.length x++[e]:=fun e x=>Dd xq
   have hQ:∀ y e x:Ent,put (put SW S.length y++[e]) S.length x=put SW S.length x++[e]:=fun y e x=>by rw [Dd (by rw [Ah]; exact xq),Mw]
   have zh:∀ y e e' x:Ent,put (put SW S.length y++[e]++[e']) S.length x=put SW S.length x++[e]++[e']:=fun y e e' x=>by rw [Dd (by rw [List.length_append,Ah]; omega),hQ]
   have hE:∀ cs,entAt (put SW S.length ⟨k,cs⟩) S.length k=some cs:=fun cs=>Af xq
   have hEa:∀ cs e,entAt (put SW S.length ⟨k,cs⟩++[e]) S.length k=some cs:=fun cs e=>Aa (hE cs)
   have hEb:∀ cs e e',entAt (put SW S.length ⟨k,cs⟩++[e]++[e']) S.length k=some cs:=fun cs e e'=>Aa (hEa cs e)
   have j0:∀ e,entAt (SW++[e]) S.length k=_:=fun e=>Aa fc
   have uc:∀ y e:Ent,(put SW S.length y++[e]).length=L+4:=fun y e=>by rw [List.length_append,Ah,zp]; rfl
   have rt:∀ S n,apO prog 72 (.frz [] .nilc) (.lit 1 [.sref (L+1) (m0+1) 0 W 4]) S n=some (.sref S.length n 0 1 1,S++[⟨n,[.sref (L+1) (m0+1) 0 W 4]⟩],n+1):=fun S n=>Adv (by kernel_rfl) rfl
   have ru:∀ (c:Cap) x S n,apO prog 37 (.frz [] .nilc) (.frz [[.prim (.int .i64 x)]] c) S n=some (.sref S.length n 0 1 1,S++[⟨n,[.prim (.int .i64 x)]⟩],n+1):=fun c x S n=>Ah7 (by kernel_rfl) rfl
   simp (maxSteps:=10^6)+contextual(disch:=try exact dqd)only[evg1,simprocAttr,AV.int,AV.bool,AV.str,results87,e0,e1,e2,e7,e10,e11,e12,e14,e15,e16,e18,e19,e83,e84,e85,e194,e195,c2,fc,j0,jt,hwi,bp,rt,ru,P6,hP,hQ,zh,hE,hEa,hEb,uc,zp]
   have hne:0<i->t1.rows≠[]:=fun h=>by omega
   have jq:I.ids=[]:=List.length_eq_zero_iff.1 (by rw [ah.T.nids]; simp only; omega)
   have rp:t1.basis=[]:=List.length_eq_zero_iff.1 (by have:=ah.T.nb; simp only at this; omega)
   obtain ⟨SF,jv⟩:∃ SF,SF=put SW S.length ⟨k,[.ifc 100 (.agg []),.int (vars.length:Nat),.int (c:Nat),.sref (L+3) m7 0 1 1,.sref (S.length+2) I.ec 0 W 4,.sref (L+4) (m7+1) 0 1 1,.frz (t1.flip.map D5++[[.prim (.bool fb)]]) (Bb tk' cp 1)]⟩++[⟨m7,[.sref (L+1) (m0+1) 0 W 4]⟩]++[⟨m7+1,[.prim (.int .i64 ((c+i:Nat):Int))]⟩]:=⟨_,rfl⟩
   rw [<- jv]
   have t6:(put SW S.length ⟨k,[.ifc 100 (.agg []),.int (vars.length:Nat),.int (c:Nat),.sref (L+3) m7 0 1 1,.sref (S.length+2) I.ec 0 W 4,.sref (L+4) (m7+1) 0 1 1,.frz (t1.flip.map D5++[[.prim (.bool fb)]]) (Bb tk' cp 1)]⟩).length=L+3:=by rw [Ah,zp]
   have htF:entAt SF S.length k=some [.ifc 100 (.agg []),.int (vars.length:Nat),.int (c:Nat),.sref (L+3) m7 0 (i+1) 1,.sref (S.length+2) I.ec 0 W 4,.sref (L+4) (m7+1) 0 (i+1) 1,.frz (t1.flip.map D5++[[.prim (.bool fb)]]) (Bb tk' cp 1)]:=by rw [jv,hEb,j9]
   have hrF:entAt SF (L+3) m7=some ((I.ids++[(L+1,m0+1)]).map (gt W 4)):=by rw [jv,jq]; exact Aa (Ai t6)
   have hbF:entAt SF (L+4) (m7+1)=some ((t1.basis++[c+i]).map intA):=by rw [jv,rp]; exact Ai (by rw [List.length_append,t6]; rfl)
   have jw:∀ j,j<L+3->j≠S.length->(0<i->j≠I.ir/\j≠I.ib)->nth SF j=nth SW j:=fun j h1 h2 _=>by
    rw [jv,A6 (by rw [List.length_append,t6]; omega),A6 (by rw [t6]; exact h1),Ac (Ne.symm h2)]
   have hlF:SF.length=L+5:=by rw [jv,List.length_append,List.length_append,t6]; rfl
   have hIR:S.length+2<L+3:=by omega
   have hIB:S.length+2<L+4:=by omega
   have hAp:Apart ⟨I.it,I.et,L+3,m7,I.ic,I.ec,L+4,m7+1,I.ids++[(L+1,m0+1)]⟩ iq:=by
    rw [jq]
    constructor <;> first|(simp only; omega)|skip
    ·intro q hq
     simp only [List.nil_append,List.mem_singleton] at hq
     subst hq
     simp only
     exact ⟨by omega,by omega,by omega,by omega,by omega⟩
    ·intro a b x y hx hy hab
     have h1:=Bk hx
     have h2:=Bk hy
     simp only [List.nil_append,List.length_cons,List.length_nil] at h1 h2
     omega
   have hRA:A2 SF iq eq ⟨I.it,I.et,(L+3),m7,I.ic,I.ec,(L+4),(m7+1),I.ids++[(L+1,m0+1)]⟩ { t1 with rows:=t1.rows++[rowZ],cost:=p,basis:=t1.basis++[c+i],flip:=t1.flip++[fb],fl:=Bool.or (Bool.or t1.fl fr) fq } (Bb tk' cp 1):=by
    have di:p.length=W:=ft
    refine ah.T.add (b:=c+i) (f:=fb) ?_ ?_ hbF ?_ (by show rowZ.length=p.length; omega) orowZ (fun q hq=>?_) ?_ (ah.T.fa.of (jw iq (by omega) (by omega) (fun _=>⟨by omega,by omega⟩))) hAp (by show t1.rows.length+1<=1000000; omega) (by show c+i<p.length; omega)
    ·rw [ba.1,ba.2.1,htF,xp]; simp only [ba.2.2,di,dk,i9,f9,intA]
    ·rw [hrF]; simp only [di]
    ·rw [Ab (jw (L+1) (by omega) (by omega) (fun h=>⟨by have:=ah.low.ir (hne h); omega,by have:=ah.low.ib (hne h); omega⟩))]; exact ah.E16
    ·have b9:=ah.T.ap.row q hq
     have hq2:=ah.low.row q hq
     exact jw q.1 (by omega) (by have:=ja.2.2 q hq; omega) (fun _=>⟨b9.2.1,b9.2.2.2.1⟩)
    ·exact jw _ (by have:=ah.low.ic; omega) (by omega) (fun _=>⟨ah.T.ap.rc.symm,ah.T.ap.cb⟩)
   refine Ph rfl (back _ ⟨sl2,_,_,Bb tk' cp 1,by omega,hR,hRA,by simp [f9],ft,dk,i9,jr,d7,?_,?_,fun j h1 h2=>?_,⟨ba.1,ba.2.1,ba.2.2⟩,⟨hIR,hIB,fun q hq=>?_⟩,rfl,rfl,rfl,rfl,rfl,rfl,rfl,rfl,rfl,rfl,rfl⟩)
   ·show entAt SF _ _=_
    rw [Ab (jw _ (by omega) (by omega) (fun _=>⟨by omega,by omega⟩))]; exact ah.Z
   ·show _<=SF.length
    omega
   ·show nth SF j=_
    rw [jw j (by omega) (by omega) (fun _=>⟨by omega,by omega⟩)]; exact ah.fr j h1 h2
   ·rcases List.mem_append.1 hq with hq|hq
    ·exact ja.2.2 q hq
    ·simp only [List.mem_singleton] at hq; subst hq; simp only; omega
  ·rw [Ba j9,Ba j9] at fc
   have hne:0<i->t1.rows≠[]:=fun h h0=>by rw [h0] at f9; simp only [List.length_nil] at f9; omega
   have xq:S.length<SW.length:=by omega
   have bp:=ah.T.ap
   have a2v:I.ir<L:=ah.low.ir (hne j9)
   have a2w:I.ib<L:=ah.low.ib (hne j9)
   have hrb:=bp.rb
   have jn:entAt SW I.ir I.er=some (I.ids.map (gt W 4)):=by have h:=ah.T.rowsE (hne j9); simp only [ft] at h; exact h
   have pf:entAt SW I.ib I.eb=some (t1.basis.map intA):=ah.T.basisE (hne j9)
   have j7:(I.ids.map (gt W 4)).length=i:=by rw [List.length_map,ah.T.nids]; exact f9
   have zq:(t1.basis.map intA).length=i:=by rw [List.length_map]; have:=ah.T.nb; simp only at this; omega
   obtain ⟨U1,ud⟩:∃ U1,U1=put SW I.ir ⟨m7,I.ids.map (gt W 4)++[.sref (L+1) (m0+1) 0 W 4]⟩:=⟨_,rfl⟩
   have hl1:U1.length=L+3:=by rw [ud,Ah]; exact zp
   have bv:entAt U1 S.length k=some [.ifc 100 (.agg []),.int (vars.length:Nat),.int (c:Nat),.sref I.ir I.er 0 i 1,.sref (S.length+2) I.ec 0 W 4,.sref I.ib I.eb 0 i 1,.frz (t1.flip.map D5) cp]:=by rw [ud,Aj (by omega)]; exact fc
   obtain ⟨U2,ue⟩:∃ U2,U2=put U1 S.length ⟨k,[.ifc 100 (.agg []),.int (vars.length:Nat),.int (c:Nat),.sref I.ir m7 0 (i+1) 1,.sref (S.length+2) I.ec 0 W 4,.sref I.ib I.eb 0 i 1,.frz (t1.flip.map D5) cp]⟩:=⟨_,rfl⟩
   have hl2:U2.length=L+3:=by rw [ue,Ah]; exact hl1
   have ls:entAt U2 S.length k=some [.ifc 100 (.agg []),.int (vars.length:Nat),.int (c:Nat),.sref I.ir m7 0 (i+1) 1,.sref (S.length+2) I.ec 0 W 4,.sref I.ib I.eb 0 i 1,.frz (t1.flip.map D5) cp]:=by rw [ue]; exact Af (by omega)
   have hb2:entAt U2 I.ib I.eb=some (t1.basis.map intA):=by rw [ue,Aj (by omega),ud,Aj hrb]; exact pf
   obtain ⟨U3,uf⟩:∃ U3,U3=put U2 I.ib ⟨m7+1,t1.basis.map intA++[.prim (.int .i64 ((c+i:Nat):Int))]⟩:=⟨_,rfl⟩
   have dx:U3.length=L+3:=by rw [uf,Ah]; exact hl2
   have nk:entAt U3 S.length k=some [.ifc 100 (.agg []),.int (vars.length:Nat),.int (c:Nat),.sref I.ir m7 0 (i+1) 1,.sref (S.length+2) I.ec 0 W 4,.sref I.ib I.eb 0 i 1,.frz (t1.flip.map D5) cp]:=by rw [uf,Aj (by omega)]; exact ls
   obtain ⟨U4,ug⟩:∃ U4,U4=put U3 S.length ⟨k,[.ifc 100 (.agg []),.int (vars.length:Nat),.int (c:Nat),.sref I.ir m7 0 (i+1) 1,.sref (S.length+2) I.ec 0 W 4,.sref I.ib (m7+1) 0 (i+1) 1,.frz (t1.flip.map D5) cp]⟩:=⟨_,rfl⟩
   have n0:U4.length=L+3:=by rw [ug,Ah]; exact dx
   have u3:entAt U4 S.length k=some [.ifc 100 (.agg []),.int (vars.length:Nat),.int (c:Nat),.sref I.ir m7 0 (i+1) 1,.sref (S.length+2) I.ec 0 W 4,.sref I.ib (m7+1) 0 (i+1) 1,.frz (t1.flip.map D5) cp]:=by rw [ug]; exact Af (by omega)
   obtain ⟨SF,jv⟩:∃ SF,SF=put U4 S.length ⟨k,[.ifc 100 (.agg []),.int (vars.length:Nat),.int (c:Nat),.sref I.ir m7 0 (i+1) 1,.sref (S.length+2) I.ec 0 W 4,.sref I.ib (m7+1) 0 (i+1) 1,.frz (t1.flip.map D5++[[.prim (.bool fb)]]) (Bb tk' cp 1)]⟩:=⟨_,rfl⟩
   have hlF:SF.length=L+3:=by rw [jv,Ah]; exact n0
   have a05:=apB_one (y:=[.prim (.bool fb)]) ab hfo rfl pu
   have rt:apO prog 72 (.sref I.ir I.er 0 i 1) (.lit 1 [.sref (L+1) (m0+1) 0 W 4]) SW m7=some (.sref I.ir m7 0 (i+1) 1,U1,m7+1):=by rw [ud]; exact Abz (by kernel_rfl) rfl jn j7 j9 (by omega)
   have ru:∀ cc:Cap,apO prog 37 (.sref I.ib I.eb 0 i 1) (.frz [[.prim (.int .i64 ((c+i:Nat):Int))]] cc) U2 (m7+1)=some (.sref I.ib (m7+1) 0 (i+1) 1,U3,m7+1+1):=fun cc=>by rw [uf]; exact Aad (by kernel_rfl) rfl hb2 zq j9 (by omega)
   have d6:=ue.symm
   have uh:=ug.symm
   have hs5:=jv.symm
   simp (maxSteps:=10^6)+contextual(disch:=try exact dqd)only[evg1,simprocAttr,AV.int,AV.bool,AV.str,results87,e0,e1,e2,e7,e10,e11,e12,e14,e15,e16,e18,e19,e83,e84,e85,e194,e195,c2,fc,jt,hwi,a05,rt,ru,P6,bv,ls,nk,u3,d6,uh,hs5]
   have htF:entAt SF S.length k=some [.ifc 100 (.agg []),.int (vars.length:Nat),.int (c:Nat),.sref I.ir m7 0 (i+1) 1,.sref (S.length+2) I.ec 0 W 4,.sref I.ib (m7+1) 0 (i+1) 1,.frz (t1.flip.map D5++[[.prim (.bool fb)]]) (Bb tk' cp 1)]:=by rw [jv]; exact Af (by omega)
   have hrF:entAt SF I.ir m7=some ((I.ids++[(L+1,m0+1)]).map (gt W 4)):=by
    rw [jv,Aj (by omega),ug,Aj (by omega),uf,Aj (Ne.symm hrb),ue,Aj (by omega),ud,Af (by omega)]
    simp [gt]
   have hbF:entAt SF I.ib (m7+1)=some ((t1.basis++[c+i]).map intA):=by
    rw [jv,Aj (by omega),ug,Aj (by omega),uf,Af (by omega)]
    simp [intA]
   have jw:∀ j,j<L+3->j≠S.length->(0<i->j≠I.ir/\j≠I.ib)->nth SF j=nth SW j:=fun j h1 h2 h3=>by
    have h4:=h3 j9
    rw [jv,Ac (Ne.symm h2),ug,Ac (Ne.symm h2),uf,Ac (Ne.symm h4.2),ue,Ac (Ne.symm h2),ud,Ac (Ne.symm h4.1)]
   have hIR:S.length+2<I.ir:=ja.1
   have hIB:S.length+2<I.ib:=ja.2.1
   have hAp:Apart ⟨I.it,I.et,I.ir,m7,I.ic,I.ec,I.ib,m7+1,I.ids++[(L+1,m0+1)]⟩ iq:=by
    refine ⟨bp.tr,bp.tc,bp.tb,bp.rc,bp.rb,bp.cb,bp.qt,bp.qr,bp.qc,bp.qb,fun q hq=>?_,fun a b x y hx hy hab=>?_⟩
    ·rcases List.mem_append.1 hq with hq|hq
     ·exact bp.row q hq
     ·simp only [List.mem_singleton] at hq
      subst hq
      simp only
      exact ⟨by omega,by omega,by omega,by omega,by omega⟩
    ·have h1:=Bk hx
     have h2:=Bk hy
     rw [List.length_append] at h1 h2
     simp only [List.length_cons,List.length_nil] at h1 h2
     rw [Ae] at hx hy
     by_cases ha:a<I.ids.length
     ·rw [List.getElem?_append_left ha,<- Ae] at hx
      by_cases hb:b<I.ids.length
      ·rw [List.getElem?_append_left hb,<- Ae] at hy
       exact bp.rows a b x y hx hy hab
      ·have hb2:b=I.ids.length:=by omega
       rw [hb2,List.getElem?_append_right (Nat.le_refl _),Nat.sub_self] at hy
       simp only [List.getElem?_cons_zero,Option.some.injEq] at hy
       subst hy
       have:=ah.low.row x (Al hx)
       simp only; omega
     ·have mz:a=I.ids.length:=by omega
      have hb:b<I.ids.length:=by omega
      rw [mz,List.getElem?_append_right (Nat.le_refl _),Nat.sub_self] at hx
      simp only [List.getElem?_cons_zero,Option.some.injEq] at hx
      subst hx
      rw [List.getElem?_append_left hb,<- Ae] at hy
      have:=ah.low.row y (Al hy)
      simp only; omega
   have hRA:A2 SF iq eq ⟨I.it,I.et,I.ir,m7,I.ic,I.ec,I.ib,(m7+1),I.ids++[(L+1,m0+1)]⟩ { t1 with rows:=t1.rows++[rowZ],cost:=p,basis:=t1.basis++[c+i],flip:=t1.flip++[fb],fl:=Bool.or (Bool.or t1.fl fr) fq } (Bb tk' cp 1):=by
    have di:p.length=W:=ft
    refine ah.T.add (b:=c+i) (f:=fb) ?_ ?_ hbF ?_ (by show rowZ.length=p.length; omega) orowZ (fun q hq=>?_) ?_ (ah.T.fa.of (jw iq (by omega) (by omega) (fun _=>⟨by omega,by omega⟩))) hAp (by show t1.rows.length+1<=1000000; omega) (by show c+i<p.length; omega)
    ·rw [ba.1,ba.2.1,htF,xp]; simp only [ba.2.2,di,dk,i9,f9,intA]
    ·rw [hrF]; simp only [di]
    ·rw [Ab (jw (L+1) (by omega) (by omega) (fun h=>⟨by have:=ah.low.ir (hne h); omega,by have:=ah.low.ib (hne h); omega⟩))]; exact ah.E16
    ·have b9:=ah.T.ap.row q hq
     have hq2:=ah.low.row q hq
     exact jw q.1 (by omega) (by have:=ja.2.2 q hq; omega) (fun _=>⟨b9.2.1,b9.2.2.2.1⟩)
    ·exact jw _ (by have:=ah.low.ic; omega) (by omega) (fun _=>⟨ah.T.ap.rc.symm,ah.T.ap.cb⟩)
   refine Ph rfl (back _ ⟨sl2,_,_,Bb tk' cp 1,by omega,hR,hRA,by simp [f9],ft,dk,i9,jr,d7,?_,?_,fun j h1 h2=>?_,⟨ba.1,ba.2.1,ba.2.2⟩,⟨hIR,hIB,fun q hq=>?_⟩,rfl,rfl,rfl,rfl,rfl,rfl,rfl,rfl,rfl,rfl,rfl⟩)
   ·show entAt SF _ _=_
    rw [Ab (jw _ (by omega) (by omega) (fun _=>⟨by omega,by omega⟩))]; exact ah.Z
   ·show _<=SF.length
    omega
   ·show nth SF j=_
    rw [jw j (by omega) (by omega) (fun _=>⟨by omega,by omega⟩)]; exact ah.fr j h1 h2
   ·rcases List.mem_append.1 hq with hq|hq
    ·exact ja.2.2 q hq
    ·simp only [List.mem_singleton] at hq; subst hq; simp only; omega
end
end
section
open Go Go.Proofs.Tryz
section
variable (S:List Ent) (l:List RowT) (vars:List ByteArray) (fl:Bool) (k iq eq c W nz:Nat) (z:Q)
set_option maxHeartbeats 20000000 in
set_option maxRecDepth 100000 in
theorem Anx (hB:BegC S l vars iq c W) (oz:wF.ok z) (Φ:Rs->Prop) (i:Nat) (bg:i<l.length) (r:RowT) (hr:nth l i=some r) (sl:Nat) (mw:sl+neqs (l.drop i)=c) (t1:Tb) (I:TI) (cp:Cap) (tk:List Nat)
  (f9:t1.rows.length=i) (hcl:t1.cost.length=W) (dk:t1.real=c) (i9:t1.vars=vars.length) (ab:Be tk cp 1=true) (ba:I.it=S.length/\I.et=k/\I.ic=S.length+2) (ja:S.length+2<I.ir/\S.length+2<I.ib/\∀ p ∈ I.ids,S.length+2<p.1)
  (L m0 nu:Nat) (u:Q × Bool) (hU:Jr wF (D2 r)=u) (ou:wF.ok u.1) (SX:List Ent) (nx lv:Nat) (gb:Gf S SX iq eq I { t1 with fl:=Bool.or t1.fl u.2 } cp L nz m0 (m0+1) nu z r (List.replicate W z) u.1)
  (hR:Bj wF l vars fl=begS wF z vars c W (l.drop i) i sl t1)
  (back:∀ st,Aef S l vars fl k iq eq c W nz z (i+1) st->Gd finM Φ (KA prog Tryz.f87 18 [] st))
  (T:List AV) (hT:T.length=270) (e0:getT T 0=.ifc 100 (.agg [])) (e1:getT T 1=.frz (l.map rowC) .unk) (e2:getT T 2=.frz (vars.map strC) .unk) (e7:getT T 7=.ref S.length k 0) (e10:getT T 10=.int (sl:Nat)) (e11:getT T 11=.int (W:Nat)) (e12:getT T 12=.ref (S.length+1) nz 0) (e14:getT T 14=.int (i:Nat)) (e15:getT T 15=.ref L m0 0) (e16:getT T 16=.sref (L+1) (m0+1) 0 W 4) (e18:getT T 18=.prim (.bool (D2 r))) (e19:getT T 19=.ref (L+2) nu 0) (e83:getT T 83=.frz (l.map rowC) .unk) (e84:getT T 84=.int (l.length:Nat)) (e85:getT T 85=.int (i:Nat)) (e113:getT T 113=.frz (r.1.map Dv) .unk) (e114:getT T 114=.int (r.1.length:Nat)) (e115:getT T 115=.int ((0:Nat):Int)) :
  Gd finM Φ (KA prog Tryz.f87 31 [lv] ⟨T,SX,tk,nx⟩):=by
 have hB2:=hB
 obtain ⟨hl,jl,hv,hc,dd,k8,tf,uw⟩:=hB2
 have y9:=Lx l
 have ui:r ∈ l:=Al hr
 have lx:i64 r.2.1:=(hc r ui).1
 refine Ade rfl (t:=.mk) ?_
 refine Ef (P:=prog) (fun x st=>st.T.length=270/\(x.2.2.1<=r.1.length)/\(coefsC wF u.1 z vars r.1 (List.replicate W z)=((coefsC wF u.1 z vars (r.1.drop x.2.2.1) x.2.2.2.1).1,Bool.or x.2.2.2.2 (coefsC wF u.1 z vars (r.1.drop x.2.2.1) x.2.2.2.1).2))/\(x.2.2.2.1.length=W)/\(okL wF x.2.2.2.1)/\(Gf S x.1 iq eq I { t1 with fl:=Bool.or (Bool.or t1.fl u.2) x.2.2.2.2 } cp L nz m0 (m0+1) nu z r x.2.2.2.1 u.1)/\getT st.T 0=.ifc 100 (.agg [])/\getT st.T 1=.frz (l.map rowC) .unk/\getT st.T 2=.frz (vars.map strC) .unk/\getT st.T 7=.ref S.length k 0/\getT st.T 10=.int (sl:Nat)/\getT st.T 11=.int (W:Nat)/\getT st.T 12=.ref (S.length+1) nz 0/\getT st.T 14=.int (i:Nat)/\getT st.T 15=.ref L m0 0/\getT st.T 16=.sref (L+1) (m0+1) 0 W 4/\getT st.T 18=.prim (.bool (D2 r))/\getT st.T 19=.ref (L+2) nu 0/\getT st.T 83=.frz (l.map rowC) .unk/\getT st.T 84=.int (l.length:Nat)/\getT st.T 85=.int (i:Nat)/\getT st.T 113=.frz (r.1.map Dv) .unk/\getT st.T 114=.int (r.1.length:Nat)/\getT st.T 115=.int (x.2.2.1:Nat)/\st.S=x.1/\st.tk=tk/\st.n=x.2.1) (fun x=>r.1.length - x.2.2.1) (SX,nx,0,(List.replicate W z),false) ?_ ?_
 case refine_2=>exact ⟨(by first|rfl|assumption),Nat.zero_le _,rfl,by simp,fun q hq=>by rw [List.mem_replicate] at hq; rw [hq.2]; exact oz,by simp only [Bool.or_false]; exact gb,(by first|rfl|assumption),(by first|rfl|assumption),(by first|rfl|assumption),(by first|rfl|assumption),(by first|rfl|assumption),(by first|rfl|assumption),(by first|rfl|assumption),(by first|rfl|assumption),(by first|rfl|assumption),(by first|rfl|assumption),(by first|rfl|assumption),(by first|rfl|assumption),(by first|rfl|assumption),(by first|rfl|assumption),(by first|rfl|assumption),(by first|rfl|assumption),(by first|rfl|assumption),(by first|rfl|assumption),(by first|rfl|assumption),(by first|rfl|assumption),(by first|rfl|assumption)⟩
 rintro ⟨SS,n1,j,row,f1⟩ ⟨T,S',tk',n'⟩ ⟨hl,oq,ke,dn,orow,gb,e0,e1,e2,e7,e10,e11,e12,e14,e15,e16,e18,e19,e83,e84,e85,e113,e114,e115,eS,eT,eN⟩ IH
 simp only at oq ke dn orow gb e0 e1 e2 e7 e10 e11 e12 e14 e15 e16 e18 e19 e83 e84 e85 e113 e114 e115 eS eT eN
 subst eS eT eN
 obtain ⟨g,hg,hT⟩:=Av hl
 rw [hg] at e0 e1 e2 e7 e10 e11 e12 e14 e15 e16 e18 e19 e83 e84 e85 e113 e114 e115
 subst hT
 clear hg hl
 have lj:=dd r ui
 by_cases rn:j<r.1.length
 ·have c2:decide ((j:Int)<(r.1.length:Int))=true:=by simpa using rn
  have hw:IntKind.i64.wrap ((j:Int)+1)=((j+1:Nat):Int):=by rw [Ad (by unfold i64; omega)]; rfl
  obtain ⟨ct,xr⟩:=Ag rn
  have xt:nth (r.1.map Dv) j=some [.prim (.string ct.1),.prim (.int .i64 ct.2)]:=by rw [El,xr]; rfl
  have p6:ct ∈ r.1:=Al xr
  have nh:=Lk (hv r ui ct p6)
  obtain ⟨x,hx⟩:∃ x,x=idxV vars ct.1:=⟨_,rfl⟩
  rw [<- hx] at nh
  have j1:=fun S tk k=>Nv S tk k vars ct.1 (by omega)
  simp only [nh.1] at j1
  have hb1:2*x<W:=by omega
  have hb2:2*x+1<W:=by omega
  have xu:IntKind.i64.wrap (2*(x:Int))=((2*x:Nat):Int):=by rw [Ad (by unfold i64; omega)]; rfl
  have xv:IntKind.i64.wrap (((2*x:Nat):Int)+1)=((2*x+1:Nat):Int):=by rw [Ad (by unfold i64; omega)]; rfl
  have k7:=Bc xr
  have hlX:=gb.len
  have cz:=gb.T.fa
  have p7:i64 ct.2:=(hc r ui).2 ct p6
  obtain ⟨w,gh⟩:∃ w,w=wF.whole ct.2:=⟨_,rfl⟩
  have ow:wF.ok w.1:=by rw [gh]; exact En _ p7
  have fj:=Kd (S'++[(⟨n',[.prim (.string ct.1),.prim (.int .i64 ct.2)]⟩:Ent)]) tk' (n'+1) iq eq _ ct.2 p7 cz.app
  have hg1:=Eg (c:=w.2) (cz.app (L:=[(⟨n',[.prim (.string ct.1),.prim (.int .i64 ct.2)]⟩:Ent)]))
  rw [<- gh] at fj
  rw [Ha cz] at fj hg1
  obtain ⟨S1a,ju⟩:∃ S1a,S1a=flW S' iq eq w.2:=⟨_,rfl⟩
  have jb:=gb.flag (S':=flW S' iq eq w.2) (fun j hj=>Bi hj) Bq cz.fS
  rw [<- ju] at fj hg1 jb
  have js:=jb.T.fa
  obtain ⟨y,ly⟩:∃ y,y=wF.times u.1 w.1:=⟨_,rfl⟩
  have oy:wF.ok y.1:=by rw [ly]; exact B7.times _ _ ou ow
  have kh:=Aaw (S1a++[(⟨n',[.prim (.string ct.1),.prim (.int .i64 ct.2)]⟩:Ent)]) tk' (n'+1+0) iq eq _ u.1 w.1 ou ow js.app
  have hg2:=Eg (c:=y.2) (js.app (L:=[(⟨n',[.prim (.string ct.1),.prim (.int .i64 ct.2)]⟩:Ent)]))
  rw [<- ly] at kh
  rw [Ha js] at kh hg2
  obtain ⟨S2a,uj⟩:∃ S2a,S2a=flW S1a iq eq y.2:=⟨_,rfl⟩
  have fk:=jb.flag (S':=flW S1a iq eq y.2) (fun j hj=>Bi hj) Bq js.fS
  rw [<- uj] at kh hg2 fk
  have ii:=fk.put (put row (2*x) y.1)
  obtain ⟨S3a,ry⟩:∃ S3a,S3a=put S2a (L+1) ⟨m0+1,flat ceW (put row (2*x) y.1)⟩:=⟨_,rfl⟩
  rw [<- ry] at ii
  have a2x:=fk.len
  have hP3:∀ e:Ent,put (S2a++[e]) (L+1) ⟨m0+1,flat ceW (put row (2*x) y.1)⟩=S3a++[e]:=fun e=>by rw [Dd (by omega),ry]
  have dq:=ii.T.fa
  obtain ⟨d,fe⟩:∃ d,d=wF.minus z y.1:=⟨_,rfl⟩
  have od:wF.ok d.1:=by rw [fe]; exact B7.minus _ _ oz oy
  have cq:=Lo (S3a++[(⟨n',[.prim (.string ct.1),.prim (.int .i64 ct.2)]⟩:Ent)]) tk' (n'+1+0+0) iq eq _ z y.1 oz oy dq.app
  have hg3:=Eg (c:=d.2) (dq.app (L:=[(⟨n',[.prim (.string ct.1),.prim (.int .i64 ct.2)]⟩:Ent)]))
  rw [<- fe] at cq
  rw [Ha dq] at cq hg3
  obtain ⟨S4a,uk⟩:∃ S4a,S4a=flW S3a iq eq d.2:=⟨_,rfl⟩
  have xw:=ii.flag (S':=flW S3a iq eq d.2) (fun j hj=>Bi hj) Bq dq.fS
  rw [<- uk] at cq hg3 xw
  have a2y:=xw.len
  have kk:=xw.put (put (put row (2*x) y.1) (2*x+1) d.1)
  obtain ⟨S5a,jx⟩:∃ S5a,S5a=put S4a (L+1) ⟨m0+1,flat ceW (put (put row (2*x) y.1) (2*x+1) d.1)⟩:=⟨_,rfl⟩
  rw [<- jx] at kk
  have hP5:∀ e:Ent,put (S4a++[e]) (L+1) ⟨m0+1,flat ceW (put (put row (2*x) y.1) (2*x+1) d.1)⟩=S5a++[e]:=fun e=>by rw [Dd (by omega),jx]
  have hl5:=kk.len
  have il:∀ e:Ent,List.take S'.length (S5a++[e])=S5a:=fun e=>by rw [hlX,<- hl5]; simp
  have pg:∀ e:Ent,entAt (S'++[e]) (L+2) nu=some (ceW u.1):=fun e=>Aa gb.E19
  have ro:∀ e:Ent,entAt (S2a++[e]) (L+1) (m0+1)=some (flat ceW row):=fun e=>Aa fk.E16
  have hE3:∀ e:Ent,entAt (S3a++[e]) (S.length+1) nz=some (ceW z):=fun e=>Aa ii.Z
  have py:∀ e:Ent,entAt (S3a++[e]) (L+1) (m0+1)=some (flat ceW (put row (2*x) y.1)):=fun e=>Aa ii.E16
  have pz:∀ e:Ent,entAt (S4a++[e]) (L+1) (m0+1)=some (flat ceW (put row (2*x) y.1)):=fun e=>Aa xw.E16
  have dw:=A4 (ce:=ceW) Ap (l:=row) (k:=2*x) (q':=y.1) (by omega)
  have gz:=A4 (ce:=ceW) Ap (l:=put row (2*x) y.1) (k:=2*x+1) (q':=d.1) (by rw [Ak]; omega)
  have htx:=Ar (ce:=ceW) Ap (l:=put row (2*x) y.1) (k:=2*x) (q:=y.1) (B3 (by omega))
  simp (maxSteps:=10^6)+contextual(disch:=try exact dqd)only[evg1,simprocAttr,AV.int,AV.bool,AV.str,results87,e0,e1,e2,e7,e10,e11,e12,e14,e15,e16,e18,e19,e83,e84,e85,e113,e114,e115,c2,hw,xt,j1,xu,xv,hb1,hb2,fj,hg1,kh,hg2,hP3,cq,hg3,hP5,il,pg,ro,hE3,py,pz,dw,gz,htx,Et,xfs,puW,tkW,Ap,A9]
  have zr:setC wF u.1 z (idxV vars ct.1) row ct.2=(put (put row (2*x) y.1) (2*x+1) d.1,Bool.or (Bool.or w.2 y.2) d.2):=by unfold setC; rw [<- hx,<- gh,<- ly,<- fe]
  rw [k7] at ke
  simp only [coefsC,zr] at ke
  have orow2:okL wF (put (put row (2*x) y.1) (2*x+1) d.1):=by
   intro q hq
   rcases Bw hq with rfl|hq
   ·exact od
   ·rcases Bw hq with rfl|hq
    ·exact oy
    ·exact orow q hq
  exact IH (S5a,n'+1+0+0+0,j+1,put (put row (2*x) y.1) (2*x+1) d.1,Bool.or f1 (Bool.or (Bool.or w.2 y.2) d.2)) _ (by first|omega|(simp only; omega)) ⟨rfl,by first|omega|(dsimp only; omega),by rw [ke]; simp only [Bool.or_assoc],by rw [Ak,Ak]; exact dn,orow2,by simpa only [Bool.or_assoc] using kk,by and_intros <;> first|rfl|simp only [getT,List.map_append,List.map_cons,List.map_nil]⟩
 ·have c2:decide ((j:Int)<(r.1.length:Int))=false:=by simpa using rn
  have ub:r.1.drop j=[]:=List.drop_eq_nil_of_le (by omega)
  rw [ub] at ke
  simp only [coefsC,Bool.or_false] at ke
  clear IH ub rn oq
  obtain ⟨n6,hn6⟩:∃ n6,n6=n':=⟨_,rfl⟩
  subst hn6
  obtain ⟨SU,hSU⟩:∃ SU,SU=S':=⟨_,rfl⟩
  subst hSU
  have xx:=Mn hr
  have lz:=gb.E15
  have p8:=gb.E19
  have d9:=gb.E16
  simp only [rowC,An] at lz
  have hlU:=gb.len
  cases heq:r.2.2
  ·rw [heq,if_neg Bool.false_ne_true] at xx
   have jz:sl<W:=by omega
   have d6:=A4 (ce:=ceW) Ap (l:=row) (k:=sl) (q':=u.1) (by omega)
   have nv:IntKind.i64.wrap ((sl:Int)+1)=((sl+1:Nat):Int):=by rw [Ad (by unfold i64; omega)]; rfl
   have ah:=gb.put (put row sl u.1)
   obtain ⟨rowY,ca⟩:∃ rowY,rowY=put row sl u.1:=⟨_,rfl⟩
   have hsF:M9 r.2.2 row sl u.1=rowY:=by rw [ca,heq]; rfl
   have rz:rowY.length=W:=by rw [ca,Ak]; exact dn
   have orowY:okL wF rowY:=by
    rw [ca]
    intro q hq
    rcases Bw hq with rfl|hq
    ·exact ou
    ·exact orow q hq
   rw [<- ca] at d6 ah
   obtain ⟨SY,xy⟩:∃ SY,SY=put SU (L+1) ⟨m0+1,flat ceW rowY⟩:=⟨_,rfl⟩
   rw [<- xy] at ah
   have uh:=xy.symm
   obtain ⟨sl2,xz⟩:∃ sl2,sl2=sl+1:=⟨_,rfl⟩
   have r6:(if r.2.2=true then sl else sl+1)=sl2:=by rw [heq,xz]; rfl
   have jr:sl2+neqs (l.drop (i+1))=c:=by omega
   rw [<- xz] at nv
   clear xy
   have x5:=ah.T.top
   simp only [ba.1,ba.2.1,ba.2.2,hcl,dk,i9,f9,intA] at x5
   have tx:c+i<W:=by omega
   have jt:IntKind.i64.wrap ((c:Int)+(i:Int))=((c+i:Nat):Int):=by rw [Ad (by unfold i64; omega)]; rfl
   have rq:IntKind.i64.wrap ((W:Int) - 1)=((W - 1:Nat):Int):=by rw [Ad (by unfold i64; omega)]; omega
   have i8:W - 1<W:=by omega
   have cz:=ah.T.fa
   obtain ⟨o,na⟩:∃ o,o=wF.whole 1:=⟨_,rfl⟩
   have oo:wF.ok o.1:=by rw [na]; exact En 1 (by unfold i64; omega)
   have r7:=Kd SY tk' n6 iq eq _ 1 (by unfold i64; omega) cz
   have my:=Eg (c:=o.2) cz
   rw [<- na] at r7
   obtain ⟨S5a,jx⟩:∃ S5a,S5a=flW SY iq eq o.2:=⟨_,rfl⟩
   have kk:=ah.flag (S':=flW SY iq eq o.2) (fun j hj=>Bi hj) Bq cz.fS
   rw [<- jx] at r7 my kk
   have x6:=A4 (ce:=ceW) Ap (l:=rowY) (k:=c+i) (q':=o.1) (by omega)
   have gi:=kk.put (put rowY (c+i) o.1)
   obtain ⟨row6,cd⟩:∃ row6,row6=put rowY (c+i) o.1:=⟨_,rfl⟩
   have r8:row6.length=W:=by rw [cd,Ak]; exact rz
   obtain ⟨S6a,l6⟩:∃ S6a,S6a=put S5a (L+1) ⟨m0+1,flat ceW row6⟩:=⟨_,rfl⟩
   rw [<- cd] at x6 gi
   rw [<- l6] at gi
   have l7:=kk.E16
   have js:=gi.T.fa
   have hZ6:=gi.Z
   have gc:=gi.E15
   have l8:=gi.E19
   simp only [rowC,An] at gc
   obtain ⟨w,gh⟩:∃ w,w=wF.whole r.2.1:=⟨_,rfl⟩
   have ow:wF.ok w.1:=by rw [gh]; exact En _ lx
   have fj:=Kd S6a tk' (n6+0) iq eq _ r.2.1 lx js
   have hg1:=Eg (c:=w.2) js
   rw [<- gh] at fj
   obtain ⟨S7a,r9⟩:∃ S7a,S7a=flW S6a iq eq w.2:=⟨_,rfl⟩
   have sa:=gi.flag (S':=flW S6a iq eq w.2) (fun j hj=>Bi hj) Bq js.fS
   rw [<- r9] at fj hg1 sa
   have dq:=sa.T.fa
   obtain ⟨y,ly⟩:∃ y,y=wF.times u.1 w.1:=⟨_,rfl⟩
   have oy:wF.ok y.1:=by rw [ly]; exact B7.times _ _ ou ow
   have kh:=Aaw S7a tk' (n6+0+0) iq eq _ u.1 w.1 ou ow dq
   have hg2:=Eg (c:=y.2) dq
   rw [<- ly] at kh
   obtain ⟨S8a,sb⟩:∃ S8a,S8a=flW S7a iq eq y.2:=⟨_,rfl⟩
   have sc:=sa.flag (S':=flW S7a iq eq y.2) (fun j hj=>Bi hj) Bq dq.fS
   rw [<- sb] at kh hg2 sc
   have sd:=sc.T.fa
   obtain ⟨d,fe⟩:∃ d,d=wF.minus z y.1:=⟨_,rfl⟩
   have od:wF.ok d.1:=by rw [fe]; exact B7.minus _ _ oz oy
   have cq:=Lo S8a tk' (n6+0+0+0) iq eq _ z y.1 oz oy sd
   have hg3:=Eg (c:=d.2) sd
   rw [<- fe] at cq
   obtain ⟨S9a,se⟩:∃ S9a,S9a=flW S8a iq eq d.2:=⟨_,rfl⟩
   have sf:=sc.flag (S':=flW S8a iq eq d.2) (fun j hj=>Bi hj) Bq sd.fS
   rw [<- se] at cq hg3 sf
   have x7:=A4 (ce:=ceW) Ap (l:=row6) (k:=W - 1) (q':=d.1) (by omega)
   have l9:=sf.E16
   have si:=sf.put (put row6 (W - 1) d.1)
   obtain ⟨rowZ,cg⟩:∃ rowZ,rowZ=put row6 (W - 1) d.1:=⟨_,rfl⟩
   have o3:rowZ.length=W:=by rw [cg,Ak]; exact r8
   have orowZ:okL wF rowZ:=by
    rw [cg,cd]
    intro q hq
    rcases Bw hq with rfl|hq
    ·exact od
    ·rcases Bw hq with rfl|hq
     ·exact oo
     ·exact orowY q hq
   obtain ⟨SZ,x8⟩:∃ SZ,SZ=put S9a (L+1) ⟨m0+1,flat ceW rowZ⟩:=⟨_,rfl⟩
   rw [<- cg] at x7 si
   rw [<- x8] at si
   have dz:Ri wF u.1 z r.2.1=(d.1,Bool.or (Bool.or w.2 y.2) d.2):=by unfold Ri; rw [<- gh,<- ly,<- fe]
   have gd:rowF wF z vars c W i sl r=(rowZ,Bool.or (Bool.or (Bool.or u.2 f1) o.2) (Bool.or (Bool.or w.2 y.2) d.2)):=by
    unfold rowF
    simp only [hU,ke,dz,hsF,<- na,<- cd,<- cg]
   obtain ⟨fr,ma⟩:∃ fr,fr=Bool.or (Bool.or (Bool.or u.2 f1) o.2) (Bool.or (Bool.or w.2 y.2) d.2):=⟨_,rfl⟩
   rw [<- ma] at gd
   have lw:Gf S SZ iq eq I { t1 with fl:=Bool.or t1.fl fr } cp L nz m0 (m0+1) nu z r rowZ u.1:=by
    rw [ma]
    simpa only [Bool.or_assoc] using si
   have sj:=l6.symm
   have sk:=x8.symm
   simp (maxSteps:=10^6)+contextual(disch:=try exact dqd)only[evg1,simprocAttr,AV.int,AV.bool,AV.str,results87,e0,e1,e2,e7,e10,e11,e12,e14,e15,e16,e18,e19,e83,e84,e85,e113,e114,e115,c2,lz,p8,d9,heq,jz,d6,nv,uh,x5,tx,jt,rq,i8,r7,my,x6,l7,sj,hZ6,gc,l8,fj,hg1,kh,hg2,cq,hg3,x7,l9,sk,Et,xfs,puW,tkW,Ap,A9]
   have lu:begS wF z vars c W (l.drop i) i sl t1=begS wF z vars c W (l.drop (i+1)) (i+1) sl2 { t1 with rows:=t1.rows++[rowZ],cost:=(costL wF c W 0 t1.cost rowZ).1,basis:=t1.basis++[c+i],flip:=t1.flip++[D2 r],fl:=Bool.or (Bool.or t1.fl fr) (costL wF c W 0 t1.cost rowZ).2 }:=by
    rw [Bc hr]
    simp only [begS,dk]
    rw [gd,r6]
   rw [lu] at hR
   exact Ph rfl (Ao1 S l vars fl k iq eq c W nz z hB Φ i bg r hr sl2 jr t1 I cp tk' f9 hcl dk i9 ab ba ja rowZ fr o3 orowZ L m0 nu u (D2 r) rfl SZ _ _ lw hR back _ rfl rfl rfl rfl rfl rfl rfl rfl rfl rfl rfl rfl rfl rfl rfl rfl rfl rfl)
  ·rw [heq,if_pos rfl] at xx
   have jz:0<W:=by omega
   have d6:=jz
   have nv:=jz
   have uh:=jz
   have ah:=gb
   obtain ⟨rowY,ca⟩:∃ rowY,rowY=row:=⟨_,rfl⟩
   have hsF:M9 r.2.2 row sl u.1=rowY:=by rw [ca,heq]; rfl
   have rz:rowY.length=W:=by rw [ca]; exact dn
   have orowY:okL wF rowY:=by rw [ca]; exact orow
   rw [<- ca] at ah
   obtain ⟨SY,xy⟩:∃ SY,SY=SU:=⟨_,rfl⟩
   subst xy
   have r6:(if r.2.2=true then sl else sl+1)=sl:=by rw [heq]; rfl
   have jr:sl+neqs (l.drop (i+1))=c:=by omega
   have x5:=ah.T.top
   simp only [ba.1,ba.2.1,ba.2.2,hcl,dk,i9,f9,intA] at x5
   have tx:c+i<W:=by omega
   have jt:IntKind.i64.wrap ((c:Int)+(i:Int))=((c+i:Nat):Int):=by rw [Ad (by unfold i64; omega)]; rfl
   have rq:IntKind.i64.wrap ((W:Int) - 1)=((W - 1:Nat):Int):=by rw [Ad (by unfold i64; omega)]; omega
   have i8:W - 1<W:=by omega
   have cz:=ah.T.fa
   obtain ⟨o,na⟩:∃ o,o=wF.whole 1:=⟨_,rfl⟩
   have oo:wF.ok o.1:=by rw [na]; exact En 1 (by unfold i64; omega)
   have r7:=Kd SY tk' n6 iq eq _ 1 (by unfold i64; omega) cz
   have my:=Eg (c:=o.2) cz
   rw [<- na] at r7
   obtain ⟨S5a,jx⟩:∃ S5a,S5a=flW SY iq eq o.2:=⟨_,rfl⟩
   have kk:=ah.flag (S':=flW SY iq eq o.2) (fun j hj=>Bi hj) Bq cz.fS
   rw [<- jx] at r7 my kk
   have x6:=A4 (ce:=ceW) Ap (l:=rowY) (k:=c+i) (q':=o.1) (by omega)
   have gi:=kk.put (put rowY (c+i) o.1)
   obtain ⟨row6,cd⟩:∃ row6,row6=put rowY (c+i) o.1:=⟨_,rfl⟩
   have r8:row6.length=W:=by rw [cd,Ak]; exact rz
   obtain ⟨S6a,l6⟩:∃ S6a,S6a=put S5a (L+1) ⟨m0+1,flat ceW row6⟩:=⟨_,rfl⟩
   rw [<- cd] at x6 gi
   rw [<- l6] at gi
   have l7:=kk.E16
   have js:=gi.T.fa
   have hZ6:=gi.Z
   have gc:=gi.E15
   have l8:=gi.E19
   simp only [rowC,An] at gc
   obtain ⟨w,gh⟩:∃ w,w=wF.whole r.2.1:=⟨_,rfl⟩
   have ow:wF.ok w.1:=by rw [gh]; exact En _ lx
   have fj:=Kd S6a tk' (n6+0) iq eq _ r.2.1 lx js
   have hg1:=Eg (c:=w.2) js
   rw [<- gh] at fj
   obtain ⟨S7a,r9⟩:∃ S7a,S7a=flW S6a iq eq w.2:=⟨_,rfl⟩
   have sa:=gi.flag (S':=flW S6a iq eq w.2) (fun j hj=>Bi hj) Bq js.fS
   rw [<- r9] at fj hg1 sa
   have dq:=sa.T.fa
   obtain ⟨y,ly⟩:∃ y,y=wF.times u.1 w.1:=⟨_,rfl⟩
   have oy:wF.ok y.1:=by rw [ly]; exact B7.times _ _ ou ow
   have kh:=Aaw S7a tk' (n6+0+0) iq eq _ u.1 w.1 ou ow dq
   have hg2:=Eg (c:=y.2) dq
   rw [<- ly] at kh
   obtain ⟨S8a,sb⟩:∃ S8a,S8a=flW S7a iq eq y.2:=⟨_,rfl⟩
   have sc:=sa.flag (S':=flW S7a iq eq y.2) (fun j hj=>Bi hj) Bq dq.fS
   rw [<- sb] at kh hg2 sc
   have sd:=sc.T.fa
   obtain ⟨d,fe⟩:∃ d,d=wF.minus z y.1:=⟨_,rfl⟩
   have od:wF.ok d.1:=by rw [fe]; exact B7.minus _ _ oz oy
   have cq:=Lo S8a tk' (n6+0+0+0) iq eq _ z y.1 oz oy sd
   have hg3:=Eg (c:=d.2) sd
   rw [<- fe] at cq
   obtain ⟨S9a,se⟩:∃ S9a,S9a=flW S8a iq eq d.2:=⟨_,rfl⟩
   have sf:=sc.flag (S':=flW S8a iq eq d.2) (fun j hj=>Bi hj) Bq sd.fS
   rw [<- se] at cq hg3 sf
   have x7:=A4 (ce:=ceW) Ap (l:=row6) (k:=W - 1) (q':=d.1) (by omega)
   have l9:=sf.E16
   have si:=sf.put (put row6 (W - 1) d.1)
   obtain ⟨rowZ,cg⟩:∃ rowZ,rowZ=put row6 (W - 1) d.1:=⟨_,rfl⟩
   have o3:rowZ.length=W:=by rw [cg,Ak]; exact r8
   have orowZ:okL wF rowZ:=by
    rw [cg,cd]
    intro q hq
    rcases Bw hq with rfl|hq
    ·exact od
    ·rcases Bw hq with rfl|hq
     ·exact oo
     ·exact orowY q hq
   obtain ⟨SZ,x8⟩:∃ SZ,SZ=put S9a (L+1) ⟨m0+1,flat ceW rowZ⟩:=⟨_,rfl⟩
   rw [<- cg] at x7 si
   rw [<- x8] at si
   have dz:Ri wF u.1 z r.2.1=(d.1,Bool.or (Bool.or w.2 y.2) d.2):=by unfold Ri; rw [<- gh,<- ly,<- fe]
   have gd:rowF wF z vars c W i sl r=(rowZ,Bool.or (Bool.or (Bool.or u.2 f1) o.2) (Bool.or (Bool.or w.2 y.2) d.2)):=by
    unfold rowF
    simp only [hU,ke,dz,hsF,<- na,<- cd,<- cg]
   obtain ⟨fr,ma⟩:∃ fr,fr=Bool.or (Bool.or (Bool.or u.2 f1) o.2) (Bool.or (Bool.or w.2 y.2) d.2):=⟨_,rfl⟩
   rw [<- ma] at gd
   have lw:Gf S SZ iq eq I { t1 with fl:=Bool.or t1.fl fr } cp L nz m0 (m0+1) nu z r rowZ u.1:=by
    rw [ma]
    simpa only [Bool.or_assoc] using si
   have sj:=l6.symm
   have sk:=x8.symm
   simp (maxSteps:=10^6)+contextual(disch:=try exact dqd)only[evg1,simprocAttr,AV.int,AV.bool,AV.str,results87,e0,e1,e2,e7,e10,e11,e12,e14,e15,e16,e18,e19,e83,e84,e85,e113,e114,e115,c2,lz,p8,d9,heq,jz,d6,nv,uh,x5,tx,jt,rq,i8,r7,my,x6,l7,sj,hZ6,gc,l8,fj,hg1,kh,hg2,cq,hg3,x7,l9,sk,Et,xfs,puW,tkW,Ap,A9]
   have lu:begS wF z vars c W (l.drop i) i sl t1=begS wF z vars c W (l.drop (i+1)) (i+1) sl { t1 with rows:=t1.rows++[rowZ],cost:=(costL wF c W 0 t1.cost rowZ).1,basis:=t1.basis++[c+i],flip:=t1.flip++[D2 r],fl:=Bool.or (Bool.or t1.fl fr) (costL wF c W 0 t1.cost rowZ).2 }:=by
    rw [Bc hr]
    simp only [begS,dk]
    rw [gd,r6]
   rw [lu] at hR
   exact Ph rfl (Ao1 S l vars fl k iq eq c W nz z hB Φ i bg r hr sl jr t1 I cp tk' f9 hcl dk i9 ab ba ja rowZ fr o3 orowZ L m0 nu u (D2 r) rfl SZ _ _ lw hR back _ rfl rfl rfl rfl rfl rfl rfl rfl rfl rfl rfl rfl rfl rfl rfl rfl rfl rfl)
end
end
end Go.Proofs.YtcjffhadclngmaaGreat
