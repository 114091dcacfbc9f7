/- Part 13. -/
import Derived.Test.YtcjffhadclngmaaGreatZC12
import Derived.Deep.OwnRows
import Derived.OwnWalk
open Go.Addr renaming add->kA
open Go.IntKind renaming i64->Ca
open Go.Lib renaming hid->Cr
open Go.Proofs.YtcjffhadclngmaaGreat.AV renaming bool->Bg,int->Cb,str->Cc
open Go.RowKit.Below renaming refl->Fp
open Int renaming tdiv_eq_ediv_of_nonneg->Fe,mul_comm->Hk,tmod_eq_emod_of_nonneg->Ic,mul_assoc->Ij,pow_succ->Oy,mul_add->O4,mul_zero->Sq,add_zero->iK
open List renaming map_cons->Ct,getElem?_eq_none->Cu,mem_append->C5,take_of_length_le->C6,map_nil->Ei,drop_zero->Fg,length_map->Fj,take_length->Fm,map_append->F4,take_succ_cons->F7,mem_of_getElem?->I8,getElem?_cons_zero->Oc,getElem?_take_of_lt->Ot,take_take->kU
open Nat renaming le_refl->Ce,zero_le->Cl,le_trans->Fs,lt_or_ge->Im,lt_of_le_of_lt->J9,gcd_zero_right->Og,mod_lt->Si,gcd_comm->jM
open Option renaming getD_some->Nl,bind_some->Ou
open Option.some renaming injEq->A8
namespace Go.Proofs.YtcjffhadclngmaaGreat
section
open Go Tryz Go.RowKit
set_option maxHeartbeats 4000000
set_option maxRecDepth 100000
structure Pq (X Y:List Int) (i:Nat) (zs:List Int) (c:Int):Prop where
 len:zs.length=i
 ok:okD zs
 c01:c=0\/c=1
 eqv:val zs - c*10000 ^ i=val (X.take i) - val (Y.take i)
theorem Adr {α:Type} : ∀ {l:List α} {i:Nat} {x:α},nth l i=some x->l.take (i+1)=l.take i++[x]
 | y :: l,0,x,h=>dS
 | y :: l,i+1,x,h=>by rw [F7,F7,Adr (l:=l) (i:=i) h]; rfl
 | [],_,_,h=>bK
theorem Jq (l:List Int) (i:Nat):val (l.take (i+1))=val (l.take i)+10000 ^ i*(nth l i).getD 0:=by
 by_cases h:i<l.length
 ·obtain ⟨x,hx⟩:=Af h;rw [Adr hx,Ha,hx];have:(l.take i).length=i:=aD
  rw [this]; simp [val]
 ·rw [C6 aA,C6 aA,Ag,Cu aA]; simp
theorem Pq.start (X Y:List Int):Pq X Y 0 [] 0:=⟨rfl,fun d hd=>by simp at hd,.inl rfl,by simp [val]⟩
theorem Pq.step {X Y zs:List Int} {i:Nat} {c x y d e:Int} (h:Pq X Y i zs c) (hx:nth X i=some x) (hy:y=(nth Y i).getD 0) (hd:0<=d/\d<10000) (he:e=0\/e=1) (hde:d - 10000*e=x - c - y):Pq X Y (i+1) (zs++[d]) e:=by
 refine ⟨eJ,fun a ha=>?_,he,?_⟩
 ·rcases C5.1 ha with ha|ha
  ·exact h.ok a ha
  ·have:a=d:=gH
   rw [this]; exact hd
 ·have hv:=h.eqv;rw [Ha,Jq,Jq,hx,<- hy,h.len,Oy];simp only [val,Nl];have e1:(10000:Int) ^ i*(d+10000*0) - e*(10000 ^ i*10000)=10000 ^ i*(x - c - y):=by
   rw [<- hde,Int.mul_sub,Sq,iK,Hk e,Ij]
  rw [Int.mul_sub,Int.mul_sub] at e1;have e2:c*(10000:Int) ^ i=10000 ^ i*c:=Hk _ _;omega
theorem Pq.done {a b:Nat} {zs:List Int} {c:Int} (h:Pq (dig a) (dig b) (dig a).length zs c) (hab:b<=a):D0 zs=dig (a - b):=by
 have hl:(dig b).length<=(dig a).length:=Bp.2 (J9 hab (Bp.1 (Ce _)));have hv:=h.eqv;rw [Fm,C6 hl,B5,B5] at hv;have h1:=Ar9 h.ok;rw [h.len] at h1;have h2:=E9 h.ok;have hc:c=0:=by
  rcases h.c01 with h|h
  ·exact h
  ·subst h; omega
 subst hc;rw [Ey h.ok];congr 1;omega
theorem Al5:(prog.info? 3).map (fun i=>(i.zero,i.size,i.bytes))=some (some (.int .i64 0),1,8):=aI
theorem row_app {w0 w1:World} {v:Value} {zs:List Int} {d:Int} (hO:OR w1 w0.heap.size v zs) (hB:Below w0.heap.size w0 w1) (hlen:zs.length<=1000000) {ops:Array Oper} {rest:List Oper} {op:Oper} {a:Act} {Q:Exit->Act->World->Prop} {s x:Operand}
  (hgd:op.guard=none) (ho:op.op=.call { callee:=.builtin .append,args:=#[s,x],argTypes:=#[37,37] }) (hs:a.eval s=v) (hx:a.eval x=.slice (some ⟨w1.heap.size,0,none⟩) 1 1)
  (h:∀ v' w',OR w' w0.heap.size v' (zs++[d])->Below w0.heap.size w0 w'->wpList prog ops Q rest (a.put op.dst v') w'):wpList prog ops Q (op :: rest) a (w1.alloc (.cells #[num d] 3)):=by
 obtain ⟨i0,hi,hz0,hz1,hz2⟩:=info_parts Al5;have hb2:Below w1.heap.size w1 (w1.alloc (.cells #[num d] 3)):=(Fp _ _).alloc (Ce _) _;refine wpList_append_own _ hgd _ _ 37 ho w0.heap.size 3 i0 (.int .i64 0) 1 8 underlying37 hi hz0 hz1 hz2 rfl aO v zs.length (zs.map num) hs (hO.below hb2) ⟨w1.heap.size,0,none⟩ 1 1 [num d] hx rfl (fun j u hj=>?_) (fun u hu=>?_) fC aA (Fs hB.size hb2.size) (fun v' w' hown hg hn=>?_)
 ·cases j with
  | zero =>
   simp only [Oc,A8] at hj;subst hj;have ha:kA ⟨w1.heap.size,0,none⟩ 0=⟨w1.heap.size,0,none⟩:=by simp [kA]
   rw [ha,Lib.cell_of_heap (A0 w1 _)];rfl
  | succ j=>simp at hj
 ·have:u=num d:=eG
  subst this; rfl
 ·refine h v' w' ?_ ((hB.trans (hb2.mono hB.size)).grown hg (Fs hB.size hb2.size) fun j hj=>?_)
  ·have e:(zs++[d]).length=zs.length+1:=by simp
   have e2:(zs++[d]).map num=zs.map num++[num d]:=by simp
   unfold OR;rw [e,e2]; exact hown
  ·exact (hO.lt j hj).1
theorem make0 {w:World} {N:Nat} (hN:N<=1000000) {ops:Array Oper} {rest:List Oper} {op:Oper} {a:Act} {Q:Exit->Act->World->Prop} {l c:Operand} (hgd:op.guard=none) (hop:op.op=.makeSlice 37 l c) (hl:a.eval l=.int .i64 0) (hc:a.eval c=.int .i64 (N:Nat))
  (h:∀ v w',OR w' w.heap.size v []->Below w.heap.size w w'->wpList prog ops Q rest (a.put op.dst v) w'):wpList prog ops Q (op :: rest) a w:=by
 obtain ⟨i0,hi,hz0,hz1,hz2⟩:=info_parts Al5;refine wpList_plain hgd fun K hK'=>?_;have hrun:=run_make (P:=prog) w 37 3 i0 (.int .i64 0) underlying37 hi hz0 .i64 .i64 0 N aA aA (by rw [hz2]; omega) aA;unfold Oper.wp;simp [execOp,hop,hl,hc,hrun,Result.andThen];refine hK' _ _ (h _ _ ?_ ((Fp _ _).alloc (Ce _) _));exact World.ownsRow_made w _ N (Ce _) fC (by simp [madeCells,hz1])
def Tu:Value->Int|.int _ n=>n|_=>0
theorem Aqe (w:World) (vx vy:Value) (a b:Nat) (hx:RD w vx (dig a)) (hy:RD w vy (dig b)) (hab:b<=a) (hlen:(dig a).length<=100000) (hp:0<w.heap.size) :
  Calls prog 178 #[vx,vy] w fun e w'=>∃ v,e=.returned v/\OR w' w.heap.size v (dig (a - b))/\Below w.heap.size w w':=by
 have hlb:(dig b).length<=100000:=Fs (Bp.2 (J9 hab (Bp.1 (Ce _)))) hlen;obtain ⟨ax,cx,rfl,hcx,hX⟩:=M8 hx;obtain ⟨ay,cy,rfl,hcy,hY⟩:=M8 hy;have HX:=Cr hX;have HY:=Cr hY;have HD:=Cr (fun (zs:List Int) (c:Int) (h:Pq (dig a) (dig b) (dig a).length zs c)=>h.done hab);have HS:=Cr (Pq.start (dig a) (dig b));have HKX:=Cr (Bo a);have HKY:=Cr (Bo b);clear hX hY hx hy hab;generalize hXX:dig a=X at *;generalize hYY:dig b=Y at *;generalize hN:X.length=N at *;generalize hM:Y.length=M at *;have HN:=Cr (show N<=1000000 by omega);go_enter func178,ntmps178;go_wp2_with (at_make; refine make0 HN.out rfl rfl rfl rfl ?_; intro v1 w1 hO1 hB1; have HO1:=Cr hO1; have HB1:=Cr hB1; clear hO1 hB1);go_loopw [5,6,14] (fun v c i wr=>∃ (n:Nat) (zs:List Int) (cc:Int),i=.int .i64 n/\n<=N/\c=.int .i64 cc/\(cc=0\/cc=1)/\Hid (Pq X Y n zs cc)/\Hid (OR wr w.heap.size v zs)/\Hid (Below w.heap.size w wr)) (fun _ _ i _=>N - (Tu i).toNat);case atStart=>exact ⟨0,[],0,rfl,Cl _,rfl,.inl rfl,HS,HO1,HB1⟩
 case round =>
  obtain ⟨n,zs,cc,rfl,hn,rfl,hcc,HI,HO,HB⟩:=hrel
  have hzl:zs.length=n:=HI.out.len
  by_cases hlt:n<N
  rotate_left
  ·have hne:n=N:=aA
   subst hne
   obtain ⟨av,cv,rfl,hcv,hcells⟩:=M8 (HO.out.rd hp)
   have hT:=Aaq wr av cv zs aA hcv fun j x hx=>by
    exact Ya42
   rw [hzl] at hT
   have HT:=Cr hT
   have HR:=Cr HO.out.trim
   clear hT hcv
   have HE:=Cr (HD.out zs cc HI.out)
   clear hcells
   go_wp2_with (go_at_call 175; refine HT.out.mono ?_; rintro e w6 ⟨rfl,rfl⟩)
   go_ret
   have hR:=HR.out
   rw [HE.out] at hR ⊢
   exact ⟨_,rfl,hR,HB.out⟩
  obtain ⟨x,hx⟩:=Af (show n<X.length by omega)
  obtain ⟨bx,ox,rfl,hcx0,-⟩:=HX.out n x hx
  have hxk:=HKX.out x eU
  have hcell:=(HB.out.cell (G5 hcx0)).trans hcx0
  have hi1:Ca.wrap ((n:Int)+1)=((n+1:Nat):Int):=aS
  have hg1:(n:Int)<(N:Int):=aA
  have hw1:Ca.wrap (x - cc)=x - cc:=Ac aC
  have HN2:=Cr (show zs.length<=1000000 by omega)
  have HXX:=Cr hx
  clear hx hcx0
  by_cases hm:n<M
  ·obtain ⟨y,hy⟩:=Af (show n<Y.length by omega)
   obtain ⟨by',oy,rfl,hcy0,-⟩:=HY.out n y hy
   have hyk:=HKY.out y (by rw [Ag] at hy; exact I8 hy)
   have hcelly:=(HB.out.cell (G5 hcy0)).trans hcy0
   have hg2:(n:Int)<(M:Int):=aA
   have hw2:Ca.wrap (x - cc - y)=x - cc - y:=Ac aC
   have HYY:=Cr (show y=(nth Y n).getD 0 by rw [hy]; rfl)
   clear hy hcy0
   by_cases hneg:x - cc - y<0
   ·have hw3:Ca.wrap (x - cc - y+10000)=x - cc - y+10000:=Ac aC
    have HL:=Cr (HI.out.step (d:=x - cc - y+10000) (e:=1) HXX.out HYY.out aA (.inr rfl) aA)
    go_wp2_with (at_builtin; refine row_app HO.out HB.out HN2.out rfl rfl rfl rfl ?_; intro v2 w2 hO2 hB2; have HO2:=Cr hO2; have HB2:=Cr hB2; clear hO2 hB2)
    exact ⟨⟨n+1,_,1,congrArg _ aA,aA,rfl,.inr rfl,HL,HO2,HB2⟩,fR⟩
   ·have HL:=Cr (HI.out.step (d:=x - cc - y) (e:=0) HXX.out HYY.out aA (.inl rfl) aA)
    go_wp2_with (at_builtin; refine row_app HO.out HB.out HN2.out rfl rfl rfl rfl ?_; intro v2 w2 hO2 hB2; have HO2:=Cr hO2; have HB2:=Cr hB2; clear hO2 hB2)
    exact ⟨⟨n+1,_,0,congrArg _ aA,aA,rfl,.inl rfl,HL,HO2,HB2⟩,fR⟩
  ·have hg2:¬ (n:Int)<(M:Int):=aA
   have HYY:=Cr (show (0:Int)=(nth Y n).getD 0 by rw [Ag,Cu aA]; rfl)
   by_cases hneg:x - cc<0
   ·have hw3:Ca.wrap (x - cc+10000)=x - cc+10000:=Ac aC
    have HL:=Cr (HI.out.step (d:=x - cc+10000) (e:=1) HXX.out HYY.out aA (.inr rfl) aA)
    go_wp2_with (at_builtin; refine row_app HO.out HB.out HN2.out rfl rfl rfl rfl ?_; intro v2 w2 hO2 hB2; have HO2:=Cr hO2; have HB2:=Cr hB2; clear hO2 hB2)
    exact ⟨⟨n+1,_,1,congrArg _ aA,aA,rfl,.inr rfl,HL,HO2,HB2⟩,fR⟩
   ·have HL:=Cr (HI.out.step (d:=x - cc) (e:=0) HXX.out HYY.out aA (.inl rfl) aA)
    go_wp2_with (at_builtin; refine row_app HO.out HB.out HN2.out rfl rfl rfl rfl ?_; intro v2 w2 hO2 hB2; have HO2:=Cr hO2; have HB2:=Cr hB2; clear hO2 hB2)
    exact ⟨⟨n+1,_,0,congrArg _ aA,aA,rfl,.inl rfl,HL,HO2,HB2⟩,fR⟩
end
section
open Go Tryz
set_option maxRecDepth 100000
structure SumI (X Y:List Int) (i:Nat) (zs:List Int) (c:Int):Prop where
 len:zs.length=i
 ok:okD zs
 c01:0<=c/\c<=1
 eqv:val zs+c*10000 ^ i=val (X.take i)+val (Y.take i)
theorem SumI.start (X Y:List Int):SumI X Y 0 [] 0:=⟨rfl,fun d hd=>by simp at hd,aA,by simp [val]⟩
theorem SumI.step {X Y zs:List Int} {i:Nat} {c x y n:Int} (h:SumI X Y i zs c) (hx:nth X i=some x) (hy:y=(nth Y i).getD 0) (hxk:0<=x/\x<10000) (hyk:0<=y/\y<10000) (hn:n=x+c+y):SumI X Y (i+1) (zs++[n.tmod 10000]) (n.tdiv 10000):=by
 have hc:=h.c01;have e1:n.tdiv 10000=n / 10000:=Fe aA;have e2:n.tmod 10000=n % 10000:=Ic aA;rw [e1,e2];refine ⟨eJ,fun a ha=>?_,aA,?_⟩
 ·rcases C5.1 ha with ha|ha
  ·exact h.ok a ha
  ·have:a=n % 10000:=gH
   omega
 ·have hv:=h.eqv;rw [Ha,Jq,Jq,hx,<- hy,h.len,Oy];simp only [val,Nl];have e3:(10000:Int) ^ i*(n % 10000+10000*0)+n / 10000*(10000 ^ i*10000)=10000 ^ i*x+10000 ^ i*c+10000 ^ i*y:=by
   rw [<- O4,<- O4,<- hn,Sq,iK,Hk (n / 10000),Ij,<- O4];congr 1;omega
  have e4:c*(10000:Int) ^ i=10000 ^ i*c:=Hk _ _;omega
theorem SumI.done {a b:Nat} {zs:List Int} {c:Int} (h:SumI (dig a) (dig b) (dig a).length zs c) (hl:(dig b).length<=(dig a).length):D0 (zs++[c])=dig (a+b):=by
 have hv:=h.eqv;rw [Fm,C6 hl,B5,B5] at hv;have hc:=h.c01;rw [Ey (fun d hd=>by
  rcases C5.1 hd with hd|hd
  ·exact h.ok d hd
  ·have:d=c:=by simpa using hd
   omega)]
 congr 1;rw [Ha,h.len];simp only [val,Sq,iK];rw [Hk (10000 ^ _)];omega
theorem Ae2 {P:Program} {t:TypeId} {n:Nat} (hz:(Be P t).bind (A3 P)=some [.prim (.int .i64 0)]) (hs:(Be P t).bind (szOf P)=some 1) (hb:(Be P t).bind (Ja P)=some 8) (hn:n<=1048576) :
  mkA P t (.prim (.int .i64 0)) (.prim (.int .i64 (n:Int)))=some (0,1,Ara n):=by
 unfold mkA;rw [hz,hs,hb,intN_cast,intN_zero];simp only [mkB];rw [if_pos ⟨Cl _,hn,aA,rfl⟩,Adv]; rfl
theorem Akf [Globs] {P:Program} [Ext P] {fn:Func} {M:Md} {call:Dv} {all l:List Oper} {d:Option Tmp} {ty:TypeId} {pos:String} {af:Array Edge} {T:List AV} {S:List Ent} {tk:List Nat} {n:Nat} {k:List Kont} {t:TypeId} {y:Operand} {tg:Tag (all,((⟨d,.makeSlice t (.const (.int .i64 0)) y,ty,pos,af,none⟩:Oper) :: l),k)} :
  RX P fn M call all (⟨d,.makeSlice t (.const (.int .i64 0)) y,ty,pos,af,none⟩ :: l) ⟨T,S,tk,n⟩ k tg=NS (mkA P t (opv T (.const (.int .i64 0))) (opv T y)) (fun (m,sz,cs)=>RX P fn M call all l ⟨putT T d (.frz [] (.tok tk.length 0 sz)),S,tk++[0],n⟩ k .mk) .mk:=RX_makeSlice0 ⟨rfl⟩
section
variable (S:List Ent) (tk:List Nat) (k:Nat)
theorem Z8 (l:List Int) (c:Cap) (hlen:l.length<=1000000):cL prog 175 [.frz (l.map digC) c] S tk k=some (digA (D0 l),S,tk,k):=by
 refine opP func175 ntmps175 ?_;simp (maxSteps:=10^6)+contextual(disch:=try exact dqd)only[ev0,simprocAttr,Cb,Bg,Cc,results175];refine loop1 (P:=prog) (fun x st=>st.T.length=21/\(x.1<=l.length)/\(∀ j,x.1<=j->∀ x,nth l j=some x->x=0)/\(x.2=l.take x.1)/\getT st.T 0=digA x.2/\st.S=[]) (fun x=>x.1) (fun x=>digA (D0 l)) (l.length,l) ?_ ?_;case refine_2=>exact ⟨rfl,Ce _,Qd l,(Fm).symm,rfl,rfl⟩
 rintro ⟨n,t⟩ ⟨T,S',tk',n'⟩ ⟨hl,hn,hz,yd,e0,eS⟩ IH;simp only at hn hz yd e0 eS;subst eS;obtain ⟨g,hg,hT⟩:=Au hl;rw [hg] at e0;subst hT;clear hg hl;subst yd;have hl:(l.take n).length=n:=aD
 by_cases h0:n=0
 ·have d1:decide ((n:Int) > 0)=false:=aD
  have ht:=G1 hn hz (.inl h0);simp (maxSteps:=10^6)+contextual(disch:=try exact dqd)only[ev0,simprocAttr,Cb,Bg,Cc,results175,e0,digA,hl,d1];rw [ht]
 ·have d1:decide ((n:Int) > 0)=true:=aD
  have hp:=Ud h0 aA;have bo:n - 1<l.length:=aA
  obtain ⟨x,hx⟩:=Af bo;have vf:nth (l.take n) (n - 1)=some x:=by rw [Ag,Ot aA,<- Ag]; exact hx
  have hx':=B2 vf;by_cases mc:x=0
  ·have d2:(x == 0)=true:=cM
   have hsl:Jg prog 37 (.frz ((l.take n).map digC) .unk) none (some (AV.prim (.int .i64 ((n - 1:Nat):Int)))) none=some (.frz ((l.take (n - 1)).map digC) .unk):=by
    have h1:(Be prog 37).bind (szOf prog)=some 1:=bA
    unfold Jg;simp only [h1,D5,if_true,bound,intN_cast,Fj,hl];rw [if_pos aA];simp only [Cl,if_true,Fg,<- List.map_take,kU];congr 4;omega
   simp (maxSteps:=10^6)+contextual(disch:=try exact dqd)only[ev0,simprocAttr,Cb,Bg,Cc,results175,e0,digA,hl,d1,d2,hp,hx',hsl];exact IH (n - 1,l.take (n - 1)) _ aF ⟨rfl,aE,Vr hz hx mc,rfl,aB,aB⟩
  ·have d2:(x == 0)=false:=cM
   have ht:=G1 hn hz (.inr ⟨x,hx,mc⟩);simp (maxSteps:=10^6)+contextual(disch:=try exact dqd)only[ev0,simprocAttr,Cb,Bg,Cc,results175,e0,digA,hl,d1,d2,hp,hx'];rw [ht]
theorem Atw (a b:Nat) (ha:(dig a).length<=100000) (hb:(dig b).length<=100000):cL prog 206 [digA (dig a),digA (dig b)] S tk k=some (digA (dig (a+b)),S,tk,k):=by
 refine opP func206 ntmps206 ?_;rcases Im (dig a).length (dig b).length with h|h
 ·have d1:decide (((dig a).length:Int)<((dig b).length:Int))=true:=aM
  rw [Nat.add_comm];have hle:(dig a).length<=(dig b).length:=aA
  have hw:Ca.wrap (((dig b).length:Int)+1)=(((dig b).length+1:Nat):Int):=B1 aA;have hbo:(Be prog 37).bind (Ja prog)=some 8:=aI
  have mh:=Ae2 (P:=prog) (t:=37) (n:=(dig b).length+1) bA bA hbo aA;simp (maxSteps:=10^6)+contextual(disch:=try exact dqd)only[ev0,simprocAttr,Cb,Bg,Cc,results206,digA,d1,hw,mh,↓Akf];refine loop1 (P:=prog) (fun x st=>st.T.length=53/\(x.1<=(dig b).length)/\(SumI (dig b) (dig a) x.1 x.2.1 x.2.2.1)/\(Bn st.tk x.2.2.2 1=true)/\getT st.T 1=digA (dig a)/\getT st.T 5=.frz (x.2.1.map digC) x.2.2.2/\getT st.T 6=.int x.2.2.1/\getT st.T 20=digA (dig b)/\getT st.T 21=.int (dig b).length/\getT st.T 22=.int (x.1:Nat)/\st.S=[]) (fun x=>(dig b).length - x.1) (fun x=>digA (dig (b+a))) (0,[],0,.tok 0 0 1) ?_ ?_;case refine_2=>exact ⟨rfl,Cl _,SumI.start _ _,rfl,rfl,rfl,rfl,rfl,rfl,rfl,rfl⟩
  rintro ⟨i,zs,c,cp⟩ ⟨T,S',tk',n'⟩ ⟨hl,hi,hI,ah,e1,e5,e6,e20,e21,e22,eS⟩ IH;simp only at hi hI ah e1 e5 e6 e20 e21 e22 eS;subst eS;obtain ⟨g,hg,hT⟩:=Au hl;rw [hg] at e1 e5 e6 e20 e21 e22;subst hT;clear hg hl;have ez:=B1 (i:=i) aA;have hzl:=hI.len;have hr:=D5 zs;have hc:=hI.c01;have ci:=B3 ah;have bo:(zs.map digC).length+1<=1048576:=aD
  by_cases hlt:i<(dig b).length
  ·have d2:decide ((i:Int)<((dig b).length:Int))=true:=aQ
   obtain ⟨x,hx⟩:=Af hlt;have hx':=B2 hx;have hxk:=Ed (Bo b) hx;have hw1:Ca.wrap (x+c)=x+c:=Ac aC;have iv:¬ ((10000:Int)=0):=aA
   by_cases hm:i<(dig a).length
   ·have d3:decide ((i:Int)<((dig a).length:Int))=true:=bV
    obtain ⟨y,hy⟩:=Af hm;have ng:=B2 hy;have hyk:=Ed (Bo a) hy;exact Yal
   ·have d3:decide ((i:Int)<((dig a).length:Int))=false:=bV
    exact Yam
  ·have d2:decide ((i:Int)<((dig b).length:Int))=false:=aQ
   have m6:i=(dig b).length:=aA
   exact Ya01
 ·have d1:decide (((dig a).length:Int)<((dig b).length:Int))=false:=aD
  have hle:(dig b).length<=(dig a).length:=aA
  have hw:Ca.wrap (((dig a).length:Int)+1)=(((dig a).length+1:Nat):Int):=B1 aA;have hbo:(Be prog 37).bind (Ja prog)=some 8:=aI
  have mh:=Ae2 (P:=prog) (t:=37) (n:=(dig a).length+1) bA bA hbo aA;simp (maxSteps:=10^6)+contextual(disch:=try exact dqd)only[ev0,simprocAttr,Cb,Bg,Cc,results206,digA,d1,hw,mh,↓Akf];refine loop1 (P:=prog) (fun x st=>st.T.length=53/\(x.1<=(dig a).length)/\(SumI (dig a) (dig b) x.1 x.2.1 x.2.2.1)/\(Bn st.tk x.2.2.2 1=true)/\getT st.T 1=digA (dig b)/\getT st.T 5=.frz (x.2.1.map digC) x.2.2.2/\getT st.T 6=.int x.2.2.1/\getT st.T 20=digA (dig a)/\getT st.T 21=.int (dig a).length/\getT st.T 22=.int (x.1:Nat)/\st.S=[]) (fun x=>(dig a).length - x.1) (fun x=>digA (dig (a+b))) (0,[],0,.tok 0 0 1) ?_ ?_;case refine_2=>exact ⟨rfl,Cl _,SumI.start _ _,rfl,rfl,rfl,rfl,rfl,rfl,rfl,rfl⟩
  rintro ⟨i,zs,c,cp⟩ ⟨T,S',tk',n'⟩ ⟨hl,hi,hI,ah,e1,e5,e6,e20,e21,e22,eS⟩ IH;simp only at hi hI ah e1 e5 e6 e20 e21 e22 eS;subst eS;obtain ⟨g,hg,hT⟩:=Au hl;rw [hg] at e1 e5 e6 e20 e21 e22;subst hT;clear hg hl;have ez:=B1 (i:=i) aA;have hzl:=hI.len;have hr:=D5 zs;have hc:=hI.c01;have ci:=B3 ah;have bo:(zs.map digC).length+1<=1048576:=aD
  by_cases hlt:i<(dig a).length
  ·have d2:decide ((i:Int)<((dig a).length:Int))=true:=aQ
   obtain ⟨x,hx⟩:=Af hlt;have hx':=B2 hx;have hxk:=Ed (Bo a) hx;have hw1:Ca.wrap (x+c)=x+c:=Ac aC;have iv:¬ ((10000:Int)=0):=aA
   by_cases hm:i<(dig b).length
   ·have d3:decide ((i:Int)<((dig b).length:Int))=true:=bV
    obtain ⟨y,hy⟩:=Af hm;have ng:=B2 hy;have hyk:=Ed (Bo b) hy;exact Yal
   ·have d3:decide ((i:Int)<((dig b).length:Int))=false:=bV
    exact Yam
  ·have d2:decide ((i:Int)<((dig a).length:Int))=false:=aQ
   have m6:i=(dig a).length:=aA
   exact Ya01
end
section
variable (S:List Ent) (tk:List Nat) (k:Nat)
theorem Ahr (a b:Nat) (hab:b<=a) (ha:(dig a).length<=100000):cL prog 178 [digA (dig a),digA (dig b)] S tk k=some (digA (dig (a - b)),S,tk,k):=by
 have hlb:(dig b).length<=(dig a).length:=Bp.2 (J9 hab (Bp.1 (Ce _)));have hbo:(Be prog 37).bind (Ja prog)=some 8:=aI
 have mh:=Ae2 (P:=prog) (t:=37) (n:=(dig a).length) bA bA hbo aA;refine opP func178 ntmps178 ?_;simp (maxSteps:=10^6)+contextual(disch:=try exact dqd)only[ev0,simprocAttr,Cb,Bg,Cc,results178,digA,mh,↓Akf];refine loop1 (P:=prog) (fun x st=>st.T.length=43/\(x.1<=(dig a).length)/\(Pq (dig a) (dig b) x.1 x.2.1 x.2.2.1)/\(Bn st.tk x.2.2.2 1=true)/\getT st.T 1=digA (dig b)/\getT st.T 5=.frz (x.2.1.map digC) x.2.2.2/\getT st.T 6=.int x.2.2.1/\getT st.T 12=digA (dig a)/\getT st.T 13=.int (dig a).length/\getT st.T 14=.int (x.1:Nat)/\st.S=[]) (fun x=>(dig a).length - x.1) (fun x=>digA (dig (a - b))) (0,[],0,.tok 0 0 1) ?_ ?_;case refine_2=>exact ⟨rfl,Cl _,Pq.start _ _,rfl,rfl,rfl,rfl,rfl,rfl,rfl,rfl⟩
 rintro ⟨i,zs,c,cp⟩ ⟨T,S',tk',n'⟩ ⟨hl,hi,hI,ah,e1,e5,e6,e12,e13,e14,eS⟩ IH;simp only at hi hI ah e1 e5 e6 e12 e13 e14 eS;subst eS;obtain ⟨g,hg,hT⟩:=Au hl;rw [hg] at e1 e5 e6 e12 e13 e14;subst hT;clear hg hl;have ez:=B1 (i:=i) aA;have hzl:=hI.len;have hr:=D5 zs;have hc:=hI.c01;have ci:=B3 ah;have bo:(zs.map digC).length+1<=1048576:=aD
 by_cases hlt:i<(dig a).length
 ·have d2:decide ((i:Int)<((dig a).length:Int))=true:=aQ
  obtain ⟨x,hx⟩:=Af hlt;have hx':=B2 hx;have hxk:=Ed (Bo a) hx;have hw1:Ca.wrap (x - c)=x - c:=Ac aC;by_cases hm:i<(dig b).length
  ·have d3:decide ((i:Int)<((dig b).length:Int))=true:=bV
   obtain ⟨y,hy⟩:=Af hm;have ng:=B2 hy;have hyk:=Ed (Bo b) hy;have hyg:y=(nth (dig b) i).getD 0:=gU
   have hw2:Ca.wrap (x - c - y)=x - c - y:=Ac aC;by_cases hneg:x - c - y<0
   ·have d4:decide (x - c - y<0)=true:=aX
    have hw3:Ca.wrap (x - c - y+10000)=x - c - y+10000:=Ac aC;simp (maxSteps:=10^6)+contextual(disch:=try exact dqd)only[ev0,simprocAttr,Cb,Bg,Cc,results178,e1,e5,e6,e12,e13,e14,digA,d2,d3,d4,hx',ng,ez,hw1,hw2,hw3,hr];exact IH (i+1,zs++[x - c - y+10000],1,A6 tk' cp 1) _ aF ⟨rfl,aE,hI.step hx hyg aE (.inr rfl) aE,ci,aB,aB,aB,aB,aB,aB,aB⟩
   ·have d4:decide (x - c - y<0)=false:=aX
    simp (maxSteps:=10^6)+contextual(disch:=try exact dqd)only[ev0,simprocAttr,Cb,Bg,Cc,results178,e1,e5,e6,e12,e13,e14,digA,d2,d3,d4,hx',ng,ez,hw1,hw2,hr];exact IH (i+1,zs++[x - c - y],0,A6 tk' cp 1) _ aF ⟨rfl,aE,hI.step hx hyg aE (.inl rfl) aE,ci,aB,aB,aB,aB,aB,aB,aB⟩
  ·have d3:decide ((i:Int)<((dig b).length:Int))=false:=bV
   have hyg:(0:Int)=(nth (dig b) i).getD 0:=by rw [Ag,Cu aA]; rfl
   by_cases hneg:x - c<0
   ·have d4:decide (x - c<0)=true:=aX
    have hw3:Ca.wrap (x - c+10000)=x - c+10000:=Ac aC;simp (maxSteps:=10^6)+contextual(disch:=try exact dqd)only[ev0,simprocAttr,Cb,Bg,Cc,results178,e1,e5,e6,e12,e13,e14,digA,d2,d3,d4,hx',ez,hw1,hw3,hr];exact IH (i+1,zs++[x - c+10000],1,A6 tk' cp 1) _ aF ⟨rfl,aE,hI.step hx hyg aE (.inr rfl) aE,ci,aB,aB,aB,aB,aB,aB,aB⟩
   ·have d4:decide (x - c<0)=false:=aX
    simp (maxSteps:=10^6)+contextual(disch:=try exact dqd)only[ev0,simprocAttr,Cb,Bg,Cc,results178,e1,e5,e6,e12,e13,e14,digA,d2,d3,d4,hx',ez,hw1,hr];exact IH (i+1,zs++[x - c],0,A6 tk' cp 1) _ aF ⟨rfl,aE,hI.step hx hyg aE (.inl rfl) aE,ci,aB,aB,aB,aB,aB,aB,aB⟩
 ·have d2:decide ((i:Int)<((dig a).length:Int))=false:=aQ
  have m6:i=(dig a).length:=aA
  subst m6;have hT:=fun c' S tk k=>Z8 S tk k zs c' aA;rw [hI.done hab] at hT;simp only [digC,digA] at hT;simp (maxSteps:=10^6)+contextual(disch:=try exact dqd)only[ev0,simprocAttr,Cb,Bg,Cc,results178,e1,e5,e6,e12,e13,e14,digA,d2,hT]
theorem R0 (a b:Nat) (ha:a<=1000000000000000000) (hb:b<=1000000000000000000):cL prog 172 [.int (a:Nat),.int (b:Nat)] S tk k=some (.int ((a.gcd b:Nat):Int),S,tk,k):=by
 refine opP func172 ntmps172 ?_;simp (maxSteps:=10^6)+contextual(disch:=try exact dqd)only[ev0,simprocAttr,Cb,Bg,Cc,results172];refine loop1 (P:=prog) (fun x st=>st.T.length=12/\(x.1.gcd x.2=a.gcd b)/\(x.1<=1000000000000000000)/\(x.2<=1000000000000000000)/\getT st.T 0=.int (x.1:Nat)/\getT st.T 1=.int (x.2:Nat)/\st.S=[]) (fun x=>x.2) (fun x=>.int ((a.gcd b:Nat):Int)) (a,b) ?_ ?_;case refine_2=>exact ⟨rfl,rfl,ha,hb,rfl,rfl,rfl⟩
 rintro ⟨x,y⟩ ⟨T,S',tk',n'⟩ ⟨hl,hg,hx,hy,e0,e1,eS⟩ IH;simp only at hg hx hy e0 e1 eS;subst eS;obtain ⟨g,hg,hT⟩:=Au hl;rw [hg] at e0 e1;subst hT;clear hg hl;by_cases h0:y=0
 ·subst h0;have d1:(((0:Nat):Int) != 0)=false:=rfl;rw [Og] at hg;simp (maxSteps:=10^6)+contextual(disch:=try exact dqd)only[ev0,simprocAttr,Cb,Bg,Cc,results172,e0,e1,d1];rw [hg]
 ·have d1:((y:Int) != 0)=true:=aW
  have iv:¬ ((y:Int)=0):=aA
  have hm:(x:Int).tmod (y:Int)=((x % y:Nat):Int):=bY
  simp (maxSteps:=10^6)+contextual(disch:=try exact dqd)only[ev0,simprocAttr,Cb,Bg,Cc,results172,e0,e1,d1,iv,hm];have hlt:=Si x (by omega:0<y);exact IH (y,x % y) _ aF ⟨rfl,Za09,hy,aE,aB,aB,aB⟩
end
end
end Go.Proofs.YtcjffhadclngmaaGreat
