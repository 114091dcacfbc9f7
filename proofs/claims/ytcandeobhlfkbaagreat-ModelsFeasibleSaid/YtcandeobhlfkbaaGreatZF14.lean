/- Part 14. -/
import Derived.Test.YtcandeobhlfkbaaGreatZF13
import Derived.Deep.OwnRows
import Derived.OwnWalk
open Go.Addr renaming add->iB
open Go.IntKind renaming i64->Cf
open Go.Lib renaming hid->Cm
open Go.Proofs.YtcandeobhlfkbaaGreat.AV renaming bool->Cb,int->Cd,str->Ce
open Go.RowKit.Below renaming refl->C5
open Int renaming tdiv_eq_ediv_of_nonneg->Fp,mul_comm->F6,mul_assoc->Ii,tmod_eq_emod_of_nonneg->Iq,pow_succ->Oi,mul_add->Ow,mul_zero->Su,add_zero->gI
open List renaming map_cons->Cp,mem_append->C4,getElem?_eq_none->C9,take_of_length_le->Fc,map_nil->Fi,length_map->Fq,take_succ_cons->F1,getElem?_cons_zero->F2,drop_zero->F7,take_length->Gl,map_append->Ij,mem_of_getElem?->Ik,getElem?_take_of_lt->Io,take_take->iV
open Nat renaming le_refl->Cc,zero_le->Co,le_trans->Fb,lt_or_ge->F3,lt_of_le_of_lt->I5,gcd_zero_right->Sv,mod_lt->gT
open Option renaming bind_some->I7,getD_some->fQ
open Option.some renaming injEq->A2
namespace Go.Proofs.YtcandeobhlfkbaaGreat
section
open Go Tryz Go.RowKit
set_option maxHeartbeats 4000000
set_option maxRecDepth 100000
structure Qc (X Y:List Int) (i:Nat) (zs:List Int) (c:Int):Prop where
 len:zs.length=i
 ok:okD zs
 c01:c=0\/c=1
 eqv:val zs - c*10000 ^ i=val (X.take i) - val (Y.take i)
theorem Aa1 {α:Type} : ∀ {l:List α} {i:Nat} {x:α},nth l i=some x->l.take (i+1)=l.take i++[x]
 | y :: l,0,x,h=>dV
 | y :: l,i+1,x,h=>by rw [F1,F1,Aa1 (l:=l) (i:=i) h]; rfl
 | [],_,_,h=>bQ
theorem Hm (l:List Int) (i:Nat):val (l.take (i+1))=val (l.take i)+10000 ^ i*(nth l i).getD 0:=by
 by_cases h:i<l.length
 ·obtain ⟨x,hx⟩:=Af h;rw [Aa1 hx,Gn,hx];have:(l.take i).length=i:=aB
  rw [this]; simp [val]
 ·rw [Fc aA,Fc aA,Ae,C9 aA]; simp
theorem Qc.start (X Y:List Int):Qc X Y 0 [] 0:=⟨rfl,fun d hd=>by simp at hd,.inl rfl,by simp [val]⟩
theorem Qc.step {X Y zs:List Int} {i:Nat} {c x y d e:Int} (h:Qc X Y i zs c) (hx:nth X i=some x) (hy:y=(nth Y i).getD 0) (hd:0<=d/\d<10000) (he:e=0\/e=1) (hde:d - 10000*e=x - c - y):Qc X Y (i+1) (zs++[d]) e:=by
 refine ⟨dD,fun a ha=>?_,he,?_⟩
 ·rcases C4.1 ha with ha|ha
  ·exact h.ok a ha
  ·have:a=d:=by simpa using ha
   rw [this]; exact hd
 ·have hv:=h.eqv;rw [Gn,Hm,Hm,hx,<- hy,h.len,Oi];simp only [val,fQ];have e1:(10000:Int) ^ i*(d+10000*0) - e*(10000 ^ i*10000)=10000 ^ i*(x - c - y):=by
   rw [<- hde,Int.mul_sub,Su,gI,F6 e,Ii]
  rw [Int.mul_sub,Int.mul_sub] at e1;have e2:c*(10000:Int) ^ i=10000 ^ i*c:=F6 _ _;omega
theorem Qc.done {a b:Nat} {zs:List Int} {c:Int} (h:Qc (dig a) (dig b) (dig a).length zs c) (hab:b<=a):Dx zs=dig (a - b):=by
 have hl:(dig b).length<=(dig a).length:=Bt.2 (I5 hab (Bt.1 (Cc _)));have hv:=h.eqv;rw [Gl,Fc hl,Dm,Dm] at hv;have h1:=Alm h.ok;rw [h.len] at h1;have h2:=Gp h.ok;have hc:c=0:=by
  rcases h.c01 with h|h
  ·exact h
  ·subst h; omega
 subst hc;rw [En h.ok];congr 1;omega
theorem Ajl:(prog.info? 3).map (fun i=>(i.zero,i.size,i.bytes))=some (some (.int .i64 0),1,8):=aL
theorem row_app {w0 w1:World} {v:Value} {zs:List Int} {d:Int} (hO:OR w1 w0.heap.size v zs) (hB:Below w0.heap.size w0 w1) (hlen:zs.length<=1000000) {ops:Array Oper} {rest:List Oper} {op:Oper} {a:Act} {Q:Exit->Act->World->Prop} {s x:Operand}
  (hgd:op.guard=none) (ho:op.op=.call { callee:=.builtin .append,args:=#[s,x],argTypes:=#[45,45] }) (hs:a.eval s=v) (hx:a.eval x=.slice (some ⟨w1.heap.size,0,none⟩) 1 1)
  (h:∀ v' w',OR w' w0.heap.size v' (zs++[d])->Below w0.heap.size w0 w'->wpList prog ops Q rest (a.put op.dst v') w'):wpList prog ops Q (op :: rest) a (w1.alloc (.cells #[num d] 3)):=by
 obtain ⟨i0,hi,hz0,hz1,hz2⟩:=info_parts Ajl;have hb2:Below w1.heap.size w1 (w1.alloc (.cells #[num d] 3)):=(C5 _ _).alloc (Cc _) _;refine wpList_append_own _ hgd _ _ 45 ho w0.heap.size 3 i0 (.int .i64 0) 1 8 underlying45 hi hz0 hz1 hz2 rfl aH v zs.length (zs.map num) hs (hO.below hb2) ⟨w1.heap.size,0,none⟩ 1 1 [num d] hx rfl (fun j u hj=>?_) (fun u hu=>?_) eF aA (Fb hB.size hb2.size) (fun v' w' hown hg hn=>?_)
 ·cases j with
  | zero =>
   simp only [F2,A2] at hj;subst hj;have ha:iB ⟨w1.heap.size,0,none⟩ 0=⟨w1.heap.size,0,none⟩:=by simp [iB]
   rw [ha,Lib.cell_of_heap (An w1 _)];rfl
  | succ j=>simp at hj
 ·have:u=num d:=dO
  subst this; rfl
 ·refine h v' w' ?_ ((hB.trans (hb2.mono hB.size)).grown hg (Fb hB.size hb2.size) fun j hj=>?_)
  ·have e:(zs++[d]).length=zs.length+1:=by simp
   have e2:(zs++[d]).map num=zs.map num++[num d]:=by simp
   unfold OR;rw [e,e2]; exact hown
  ·exact (hO.lt j hj).1
theorem make0 {w:World} {N:Nat} (hN:N<=1000000) {ops:Array Oper} {rest:List Oper} {op:Oper} {a:Act} {Q:Exit->Act->World->Prop} {l c:Operand} (hgd:op.guard=none) (hop:op.op=.makeSlice 45 l c) (hl:a.eval l=.int .i64 0) (hc:a.eval c=.int .i64 (N:Nat))
  (h:∀ v w',OR w' w.heap.size v []->Below w.heap.size w w'->wpList prog ops Q rest (a.put op.dst v) w'):wpList prog ops Q (op :: rest) a w:=by
 obtain ⟨i0,hi,hz0,hz1,hz2⟩:=info_parts Ajl;refine wpList_plain hgd fun K hK'=>?_;have hrun:=run_make (P:=prog) w 45 3 i0 (.int .i64 0) underlying45 hi hz0 .i64 .i64 0 N aA aA (by rw [hz2]; omega) aA;unfold Oper.wp;simp [execOp,hop,hl,hc,hrun,Result.andThen];refine hK' _ _ (h _ _ ?_ ((C5 _ _).alloc (Cc _) _));exact World.ownsRow_made w _ N (Cc _) eF (by simp [madeCells,hz1])
def Ko:Value->Int|.int _ n=>n|_=>0
theorem Ana (w:World) (vx vy:Value) (a b:Nat) (hx:RD w vx (dig a)) (hy:RD w vy (dig b)) (hab:b<=a) (hlen:(dig a).length<=100000) (hp:0<w.heap.size) :
  Calls prog 183 #[vx,vy] w fun e w'=>∃ v,e=.returned v/\OR w' w.heap.size v (dig (a - b))/\Below w.heap.size w w':=by
 have hlb:(dig b).length<=100000:=Fb (Bt.2 (I5 hab (Bt.1 (Cc _)))) hlen;obtain ⟨ax,cx,rfl,hcx,hX⟩:=Lq hx;obtain ⟨ay,cy,rfl,hcy,hY⟩:=Lq hy;have HX:=Cm hX;have HY:=Cm hY;have HD:=Cm (fun (zs:List Int) (c:Int) (h:Qc (dig a) (dig b) (dig a).length zs c)=>h.done hab);have HS:=Cm (Qc.start (dig a) (dig b));have HKX:=Cm (Da a);have HKY:=Cm (Da b);clear hX hY hx hy hab;generalize hXX:dig a=X at *;generalize hYY:dig b=Y at *;generalize hN:X.length=N at *;generalize hM:Y.length=M at *;have HN:=Cm (show N<=1000000 by omega);go_enter func183,ntmps183;go_wp2_with (at_make; refine make0 HN.out rfl rfl rfl rfl ?_; intro v1 w1 hO1 hB1; have HO1:=Cm hO1; have HB1:=Cm hB1; clear hO1 hB1);go_loopw [5,6,14] (fun v c i wr=>∃ (n:Nat) (zs:List Int) (cc:Int),i=.int .i64 n/\n<=N/\c=.int .i64 cc/\(cc=0\/cc=1)/\Hid (Qc X Y n zs cc)/\Hid (OR wr w.heap.size v zs)/\Hid (Below w.heap.size w wr)) (fun _ _ i _=>N - (Ko i).toNat);case atStart=>exact ⟨0,[],0,rfl,Co _,rfl,.inl rfl,HS,HO1,HB1⟩
 case round =>
  obtain ⟨n,zs,cc,rfl,hn,rfl,hcc,HI,HO,HB⟩:=hrel
  have hzl:zs.length=n:=HI.out.len
  by_cases hlt:n<N
  rotate_left
  ·have hne:n=N:=aA
   subst hne
   obtain ⟨av,cv,rfl,hcv,hcells⟩:=Lq (HO.out.rd hp)
   have hT:=X7 wr av cv zs aA hcv fun j x hx=>by
    exact Ya3g
   rw [hzl] at hT
   have HT:=Cm hT
   have HR:=Cm HO.out.trim
   clear hT hcv
   have HE:=Cm (HD.out zs cc HI.out)
   clear hcells
   go_wp2_with (go_at_call 180; refine HT.out.mono ?_; rintro e w6 ⟨rfl,rfl⟩)
   go_ret
   have hR:=HR.out
   rw [HE.out] at hR ⊢
   exact ⟨_,rfl,hR,HB.out⟩
  obtain ⟨x,hx⟩:=Af (show n<X.length by omega)
  obtain ⟨bx,ox,rfl,hcx0,-⟩:=HX.out n x hx
  have hxk:=HKX.out x Za1a
  have hcell:=(HB.out.cell (Ea hcx0)).trans hcx0
  have hi1:Cf.wrap ((n:Int)+1)=((n+1:Nat):Int):=aS
  have hg1:(n:Int)<(N:Int):=aA
  have hw1:Cf.wrap (x - cc)=x - cc:=Ab aC
  have HN2:=Cm (show zs.length<=1000000 by omega)
  have HXX:=Cm hx
  clear hx hcx0
  by_cases hm:n<M
  ·obtain ⟨y,hy⟩:=Af (show n<Y.length by omega)
   obtain ⟨by',oy,rfl,hcy0,-⟩:=HY.out n y hy
   have hyk:=HKY.out y (by rw [Ae] at hy; exact Ik hy)
   have hcelly:=(HB.out.cell (Ea hcy0)).trans hcy0
   have hg2:(n:Int)<(M:Int):=aA
   have hw2:Cf.wrap (x - cc - y)=x - cc - y:=Ab aC
   have HYY:=Cm (show y=(nth Y n).getD 0 by rw [hy]; rfl)
   clear hy hcy0
   by_cases hneg:x - cc - y<0
   ·have hw3:Cf.wrap (x - cc - y+10000)=x - cc - y+10000:=Ab aC
    have HL:=Cm (HI.out.step (d:=x - cc - y+10000) (e:=1) HXX.out HYY.out aA (.inr rfl) aA)
    go_wp2_with (at_builtin; refine row_app HO.out HB.out HN2.out rfl rfl rfl rfl ?_; intro v2 w2 hO2 hB2; have HO2:=Cm hO2; have HB2:=Cm hB2; clear hO2 hB2)
    exact ⟨⟨n+1,_,1,congrArg _ aA,aA,rfl,.inr rfl,HL,HO2,HB2⟩,dL⟩
   ·have HL:=Cm (HI.out.step (d:=x - cc - y) (e:=0) HXX.out HYY.out aA (.inl rfl) aA)
    go_wp2_with (at_builtin; refine row_app HO.out HB.out HN2.out rfl rfl rfl rfl ?_; intro v2 w2 hO2 hB2; have HO2:=Cm hO2; have HB2:=Cm hB2; clear hO2 hB2)
    exact ⟨⟨n+1,_,0,congrArg _ aA,aA,rfl,.inl rfl,HL,HO2,HB2⟩,dL⟩
  ·have hg2:¬ (n:Int)<(M:Int):=aA
   have HYY:=Cm (show (0:Int)=(nth Y n).getD 0 by rw [Ae,C9 aA]; rfl)
   by_cases hneg:x - cc<0
   ·have hw3:Cf.wrap (x - cc+10000)=x - cc+10000:=Ab aC
    have HL:=Cm (HI.out.step (d:=x - cc+10000) (e:=1) HXX.out HYY.out aA (.inr rfl) aA)
    go_wp2_with (at_builtin; refine row_app HO.out HB.out HN2.out rfl rfl rfl rfl ?_; intro v2 w2 hO2 hB2; have HO2:=Cm hO2; have HB2:=Cm hB2; clear hO2 hB2)
    exact ⟨⟨n+1,_,1,congrArg _ aA,aA,rfl,.inr rfl,HL,HO2,HB2⟩,dL⟩
   ·have HL:=Cm (HI.out.step (d:=x - cc) (e:=0) HXX.out HYY.out aA (.inl rfl) aA)
    go_wp2_with (at_builtin; refine row_app HO.out HB.out HN2.out rfl rfl rfl rfl ?_; intro v2 w2 hO2 hB2; have HO2:=Cm hO2; have HB2:=Cm hB2; clear hO2 hB2)
    exact ⟨⟨n+1,_,0,congrArg _ aA,aA,rfl,.inl rfl,HL,HO2,HB2⟩,dL⟩
end
section
open Go Tryz
set_option maxRecDepth 100000
structure SumI (X Y:List Int) (i:Nat) (zs:List Int) (c:Int):Prop where
 len:zs.length=i
 ok:okD zs
 c01:0<=c/\c<=1
 eqv:val zs+c*10000 ^ i=val (X.take i)+val (Y.take i)
theorem SumI.start (X Y:List Int):SumI X Y 0 [] 0:=⟨rfl,fun d hd=>by simp at hd,aA,by simp [val]⟩
theorem SumI.step {X Y zs:List Int} {i:Nat} {c x y n:Int} (h:SumI X Y i zs c) (hx:nth X i=some x) (hy:y=(nth Y i).getD 0) (hxk:0<=x/\x<10000) (hyk:0<=y/\y<10000) (hn:n=x+c+y):SumI X Y (i+1) (zs++[n.tmod 10000]) (n.tdiv 10000):=by
 have hc:=h.c01;have e1:n.tdiv 10000=n / 10000:=Fp aA;have e2:n.tmod 10000=n % 10000:=Iq aA;rw [e1,e2];refine ⟨dD,fun a ha=>?_,aA,?_⟩
 ·rcases C4.1 ha with ha|ha
  ·exact h.ok a ha
  ·have:a=n % 10000:=by simpa using ha
   omega
 ·have hv:=h.eqv;rw [Gn,Hm,Hm,hx,<- hy,h.len,Oi];simp only [val,fQ];have e3:(10000:Int) ^ i*(n % 10000+10000*0)+n / 10000*(10000 ^ i*10000)=10000 ^ i*x+10000 ^ i*c+10000 ^ i*y:=by
   rw [<- Ow,<- Ow,<- hn,Su,gI,F6 (n / 10000),Ii,<- Ow];congr 1;omega
  have e4:c*(10000:Int) ^ i=10000 ^ i*c:=F6 _ _;omega
theorem SumI.done {a b:Nat} {zs:List Int} {c:Int} (h:SumI (dig a) (dig b) (dig a).length zs c) (hl:(dig b).length<=(dig a).length):Dx (zs++[c])=dig (a+b):=by
 have hv:=h.eqv;rw [Gl,Fc hl,Dm,Dm] at hv;have hc:=h.c01;rw [En (fun d hd=>by
  rcases C4.1 hd with hd|hd
  ·exact h.ok d hd
  ·have:d=c:=cF
   omega)]
 congr 1;rw [Gn,h.len];simp only [val,Su,gI];rw [F6 (10000 ^ _)];omega
theorem Ab4 {P:Program} {t:TypeId} {n:Nat} (hz:(A7 P t).bind (Ax P)=some [.prim (.int .i64 0)]) (hs:(A7 P t).bind (szOf P)=some 1) (hb:(A7 P t).bind (Je P)=some 8) (hn:n<=1048576) :
  mkA P t (.prim (.int .i64 0)) (.prim (.int .i64 (n:Int)))=some (0,1,Ate n):=by
 unfold mkA;rw [hz,hs,hb,intN_cast,intN_zero];simp only [mkB];rw [if_pos ⟨Co _,hn,aA,rfl⟩,Aa6]; rfl
theorem Aho [Globs] {P:Program} [Ext P] {fn:Func} {M:Md} {call:B8} {all l:List Oper} {d:Option Tmp} {ty:TypeId} {pos:String} {af:Array Edge} {T:List AV} {S:List Ent} {tk:List Nat} {n:Nat} {k:List Kont} {t:TypeId} {y:Operand} {tg:Tag (all,((⟨d,.makeSlice t (.const (.int .i64 0)) y,ty,pos,af,none⟩:Oper) :: l),k)} :
  RX P fn M call all (⟨d,.makeSlice t (.const (.int .i64 0)) y,ty,pos,af,none⟩ :: l) ⟨T,S,tk,n⟩ k tg=NS (mkA P t (opv T (.const (.int .i64 0))) (opv T y)) (fun (m,sz,cs)=>RX P fn M call all l ⟨putT T d (.frz [] (.tok tk.length 0 sz)),S,tk++[0],n⟩ k .mk) .mk:=RX_makeSlice0 ⟨rfl⟩
section
variable (S:List Ent) (tk:List Nat) (k:Nat)
theorem Xt (l:List Int) (c:Cap) (hlen:l.length<=1000000):cL prog 180 [.frz (l.map digC) c] S tk k=some (digA (Dx l),S,tk,k):=by
 refine opP func180 ntmps180 ?_;simp (maxSteps:=10^6)+contextual(disch:=try exact dqd)only[ev0,simprocAttr,Cd,Cb,Ce,results180];refine loop1 (P:=prog) (fun x st=>st.T.length=21/\(x.1<=l.length)/\(∀ j,x.1<=j->∀ x,nth l j=some x->x=0)/\(x.2=l.take x.1)/\getT st.T 0=digA x.2/\st.S=[]) (fun x=>x.1) (fun x=>digA (Dx l)) (l.length,l) ?_ ?_;case refine_2=>exact ⟨rfl,Cc _,W5 l,(Gl).symm,rfl,rfl⟩
 rintro ⟨n,t⟩ ⟨T,S',tk',n'⟩ ⟨hl,hn,hz,se,e0,eS⟩ IH;simp only at hn hz se e0 eS;subst eS;obtain ⟨g,hg,hT⟩:=Au hl;rw [hg] at e0;subst hT;clear hg hl;subst se;have hl:(l.take n).length=n:=aB
 by_cases h0:n=0
 ·have d1:decide ((n:Int) > 0)=false:=aB
  have ht:=Jt hn hz (.inl h0);simp (maxSteps:=10^6)+contextual(disch:=try exact dqd)only[ev0,simprocAttr,Cd,Cb,Ce,results180,e0,digA,hl,d1];rw [ht]
 ·have d1:decide ((n:Int) > 0)=true:=aB
  have hp:=Aek h0 aA;have b8:n - 1<l.length:=aA
  obtain ⟨x,hx⟩:=Af b8;have xi:nth (l.take n) (n - 1)=some x:=by rw [Ae,Io aA,<- Ae]; exact hx
  have hx':=Gj xi;by_cases qd:x=0
  ·have d2:(x == 0)=true:=fF
   have hsl:Kk prog 45 (.frz ((l.take n).map digC) .unk) none (some (AV.prim (.int .i64 ((n - 1:Nat):Int)))) none=some (.frz ((l.take (n - 1)).map digC) .unk):=by
    have h1:(A7 prog 45).bind (szOf prog)=some 1:=bK
    unfold Kk;simp only [h1,G2,if_true,bound,intN_cast,Fq,hl];rw [if_pos aA];simp only [Co,if_true,F7,<- List.map_take,iV];congr 4;omega
   simp (maxSteps:=10^6)+contextual(disch:=try exact dqd)only[ev0,simprocAttr,Cd,Cb,Ce,results180,e0,digA,hl,d1,d2,hp,hx',hsl];exact IH (n - 1,l.take (n - 1)) _ aF ⟨rfl,aE,Abt hz hx qd,rfl,aD,aD⟩
  ·have d2:(x == 0)=false:=fF
   have ht:=Jt hn hz (.inr ⟨x,hx,qd⟩);simp (maxSteps:=10^6)+contextual(disch:=try exact dqd)only[ev0,simprocAttr,Cd,Cb,Ce,results180,e0,digA,hl,d1,d2,hp,hx'];rw [ht]
theorem Aqp (a b:Nat) (ha:(dig a).length<=100000) (hb:(dig b).length<=100000):cL prog 211 [digA (dig a),digA (dig b)] S tk k=some (digA (dig (a+b)),S,tk,k):=by
 refine opP func211 ntmps211 ?_;rcases F3 (dig a).length (dig b).length with h|h
 ·have d1:decide (((dig a).length:Int)<((dig b).length:Int))=true:=aJ
  rw [Nat.add_comm];have hle:(dig a).length<=(dig b).length:=aA
  have hw:Cf.wrap (((dig b).length:Int)+1)=(((dig b).length+1:Nat):Int):=Bb aA;have hbo:(A7 prog 45).bind (Je prog)=some 8:=aL
  have j0:=Ab4 (P:=prog) (t:=45) (n:=(dig b).length+1) bK bK hbo aA;simp (maxSteps:=10^6)+contextual(disch:=try exact dqd)only[ev0,simprocAttr,Cd,Cb,Ce,results211,digA,d1,hw,j0,↓Aho];refine loop1 (P:=prog) (fun x st=>st.T.length=53/\(x.1<=(dig b).length)/\(SumI (dig b) (dig a) x.1 x.2.1 x.2.2.1)/\(Bd st.tk x.2.2.2 1=true)/\getT st.T 1=digA (dig a)/\getT st.T 5=.frz (x.2.1.map digC) x.2.2.2/\getT st.T 6=.int x.2.2.1/\getT st.T 20=digA (dig b)/\getT st.T 21=.int (dig b).length/\getT st.T 22=.int (x.1:Nat)/\st.S=[]) (fun x=>(dig b).length - x.1) (fun x=>digA (dig (b+a))) (0,[],0,.tok 0 0 1) ?_ ?_;case refine_2=>exact ⟨rfl,Co _,SumI.start _ _,rfl,rfl,rfl,rfl,rfl,rfl,rfl,rfl⟩
  rintro ⟨i,zs,c,cp⟩ ⟨T,S',tk',n'⟩ ⟨hl,hi,hI,hok,e1,e5,e6,e20,e21,e22,eS⟩ IH;simp only at hi hI hok e1 e5 e6 e20 e21 e22 eS;subst eS;obtain ⟨g,hg,hT⟩:=Au hl;rw [hg] at e1 e5 e6 e20 e21 e22;subst hT;clear hg hl;have dt:=Bb (i:=i) aA;have hzl:=hI.len;have hr:=G2 zs;have hc:=hI.c01;have c8:=Dj hok;have b8:(zs.map digC).length+1<=1048576:=aB
  by_cases hlt:i<(dig b).length
  ·have d2:decide ((i:Int)<((dig b).length:Int))=true:=aI
   obtain ⟨x,hx⟩:=Af hlt;have hx':=Gj hx;have hxk:=Gb (Da b) hx;have hw1:Cf.wrap (x+c)=x+c:=Ab aC;have lp:¬ ((10000:Int)=0):=aA
   by_cases hm:i<(dig a).length
   ·have d3:decide ((i:Int)<((dig a).length:Int))=true:=cE
    obtain ⟨y,hy⟩:=Af hm;have px:=Gj hy;have hyk:=Gb (Da a) hy;exact Yah
   ·have d3:decide ((i:Int)<((dig a).length:Int))=false:=cE
    exact Yai
  ·have d2:decide ((i:Int)<((dig b).length:Int))=false:=aI
   have fh:i=(dig b).length:=aA
   exact Yaq
 ·have d1:decide (((dig a).length:Int)<((dig b).length:Int))=false:=aB
  have hle:(dig b).length<=(dig a).length:=aA
  have hw:Cf.wrap (((dig a).length:Int)+1)=(((dig a).length+1:Nat):Int):=Bb aA;have hbo:(A7 prog 45).bind (Je prog)=some 8:=aL
  have j0:=Ab4 (P:=prog) (t:=45) (n:=(dig a).length+1) bK bK hbo aA;simp (maxSteps:=10^6)+contextual(disch:=try exact dqd)only[ev0,simprocAttr,Cd,Cb,Ce,results211,digA,d1,hw,j0,↓Aho];refine loop1 (P:=prog) (fun x st=>st.T.length=53/\(x.1<=(dig a).length)/\(SumI (dig a) (dig b) x.1 x.2.1 x.2.2.1)/\(Bd st.tk x.2.2.2 1=true)/\getT st.T 1=digA (dig b)/\getT st.T 5=.frz (x.2.1.map digC) x.2.2.2/\getT st.T 6=.int x.2.2.1/\getT st.T 20=digA (dig a)/\getT st.T 21=.int (dig a).length/\getT st.T 22=.int (x.1:Nat)/\st.S=[]) (fun x=>(dig a).length - x.1) (fun x=>digA (dig (a+b))) (0,[],0,.tok 0 0 1) ?_ ?_;case refine_2=>exact ⟨rfl,Co _,SumI.start _ _,rfl,rfl,rfl,rfl,rfl,rfl,rfl,rfl⟩
  rintro ⟨i,zs,c,cp⟩ ⟨T,S',tk',n'⟩ ⟨hl,hi,hI,hok,e1,e5,e6,e20,e21,e22,eS⟩ IH;simp only at hi hI hok e1 e5 e6 e20 e21 e22 eS;subst eS;obtain ⟨g,hg,hT⟩:=Au hl;rw [hg] at e1 e5 e6 e20 e21 e22;subst hT;clear hg hl;have dt:=Bb (i:=i) aA;have hzl:=hI.len;have hr:=G2 zs;have hc:=hI.c01;have c8:=Dj hok;have b8:(zs.map digC).length+1<=1048576:=aB
  by_cases hlt:i<(dig a).length
  ·have d2:decide ((i:Int)<((dig a).length:Int))=true:=aI
   obtain ⟨x,hx⟩:=Af hlt;have hx':=Gj hx;have hxk:=Gb (Da a) hx;have hw1:Cf.wrap (x+c)=x+c:=Ab aC;have lp:¬ ((10000:Int)=0):=aA
   by_cases hm:i<(dig b).length
   ·have d3:decide ((i:Int)<((dig b).length:Int))=true:=cE
    obtain ⟨y,hy⟩:=Af hm;have px:=Gj hy;have hyk:=Gb (Da b) hy;exact Yah
   ·have d3:decide ((i:Int)<((dig b).length:Int))=false:=cE
    exact Yai
  ·have d2:decide ((i:Int)<((dig a).length:Int))=false:=aI
   have fh:i=(dig a).length:=aA
   exact Yaq
end
section
variable (S:List Ent) (tk:List Nat) (k:Nat)
theorem Aes (a b:Nat) (hab:b<=a) (ha:(dig a).length<=100000):cL prog 183 [digA (dig a),digA (dig b)] S tk k=some (digA (dig (a - b)),S,tk,k):=by
 have hlb:(dig b).length<=(dig a).length:=Bt.2 (I5 hab (Bt.1 (Cc _)));have hbo:(A7 prog 45).bind (Je prog)=some 8:=aL
 have j0:=Ab4 (P:=prog) (t:=45) (n:=(dig a).length) bK bK hbo aA;refine opP func183 ntmps183 ?_;simp (maxSteps:=10^6)+contextual(disch:=try exact dqd)only[ev0,simprocAttr,Cd,Cb,Ce,results183,digA,j0,↓Aho];refine loop1 (P:=prog) (fun x st=>st.T.length=43/\(x.1<=(dig a).length)/\(Qc (dig a) (dig b) x.1 x.2.1 x.2.2.1)/\(Bd st.tk x.2.2.2 1=true)/\getT st.T 1=digA (dig b)/\getT st.T 5=.frz (x.2.1.map digC) x.2.2.2/\getT st.T 6=.int x.2.2.1/\getT st.T 12=digA (dig a)/\getT st.T 13=.int (dig a).length/\getT st.T 14=.int (x.1:Nat)/\st.S=[]) (fun x=>(dig a).length - x.1) (fun x=>digA (dig (a - b))) (0,[],0,.tok 0 0 1) ?_ ?_;case refine_2=>exact ⟨rfl,Co _,Qc.start _ _,rfl,rfl,rfl,rfl,rfl,rfl,rfl,rfl⟩
 rintro ⟨i,zs,c,cp⟩ ⟨T,S',tk',n'⟩ ⟨hl,hi,hI,hok,e1,e5,e6,e12,e13,e14,eS⟩ IH;simp only at hi hI hok e1 e5 e6 e12 e13 e14 eS;subst eS;obtain ⟨g,hg,hT⟩:=Au hl;rw [hg] at e1 e5 e6 e12 e13 e14;subst hT;clear hg hl;have dt:=Bb (i:=i) aA;have hzl:=hI.len;have hr:=G2 zs;have hc:=hI.c01;have c8:=Dj hok;have b8:(zs.map digC).length+1<=1048576:=aB
 by_cases hlt:i<(dig a).length
 ·have d2:decide ((i:Int)<((dig a).length:Int))=true:=aI
  obtain ⟨x,hx⟩:=Af hlt;have hx':=Gj hx;have hxk:=Gb (Da a) hx;have hw1:Cf.wrap (x - c)=x - c:=Ab aC;by_cases hm:i<(dig b).length
  ·have d3:decide ((i:Int)<((dig b).length:Int))=true:=cE
   obtain ⟨y,hy⟩:=Af hm;have px:=Gj hy;have hyk:=Gb (Da b) hy;have hyg:y=(nth (dig b) i).getD 0:=by rw [hy]; rfl
   have hw2:Cf.wrap (x - c - y)=x - c - y:=Ab aC;by_cases hneg:x - c - y<0
   ·have d4:decide (x - c - y<0)=true:=cD
    have hw3:Cf.wrap (x - c - y+10000)=x - c - y+10000:=Ab aC;simp (maxSteps:=10^6)+contextual(disch:=try exact dqd)only[ev0,simprocAttr,Cd,Cb,Ce,results183,e1,e5,e6,e12,e13,e14,digA,d2,d3,d4,hx',px,dt,hw1,hw2,hw3,hr];exact IH (i+1,zs++[x - c - y+10000],1,Bg tk' cp 1) _ aF ⟨rfl,aE,hI.step hx hyg aE (.inr rfl) aE,c8,aD,aD,aD,aD,aD,aD,aD⟩
   ·have d4:decide (x - c - y<0)=false:=cD
    simp (maxSteps:=10^6)+contextual(disch:=try exact dqd)only[ev0,simprocAttr,Cd,Cb,Ce,results183,e1,e5,e6,e12,e13,e14,digA,d2,d3,d4,hx',px,dt,hw1,hw2,hr];exact IH (i+1,zs++[x - c - y],0,Bg tk' cp 1) _ aF ⟨rfl,aE,hI.step hx hyg aE (.inl rfl) aE,c8,aD,aD,aD,aD,aD,aD,aD⟩
  ·have d3:decide ((i:Int)<((dig b).length:Int))=false:=cE
   have hyg:(0:Int)=(nth (dig b) i).getD 0:=by rw [Ae,C9 aA]; rfl
   by_cases hneg:x - c<0
   ·have d4:decide (x - c<0)=true:=cD
    have hw3:Cf.wrap (x - c+10000)=x - c+10000:=Ab aC;simp (maxSteps:=10^6)+contextual(disch:=try exact dqd)only[ev0,simprocAttr,Cd,Cb,Ce,results183,e1,e5,e6,e12,e13,e14,digA,d2,d3,d4,hx',dt,hw1,hw3,hr];exact IH (i+1,zs++[x - c+10000],1,Bg tk' cp 1) _ aF ⟨rfl,aE,hI.step hx hyg aE (.inr rfl) aE,c8,aD,aD,aD,aD,aD,aD,aD⟩
   ·have d4:decide (x - c<0)=false:=cD
    simp (maxSteps:=10^6)+contextual(disch:=try exact dqd)only[ev0,simprocAttr,Cd,Cb,Ce,results183,e1,e5,e6,e12,e13,e14,digA,d2,d3,d4,hx',dt,hw1,hr];exact IH (i+1,zs++[x - c],0,Bg tk' cp 1) _ aF ⟨rfl,aE,hI.step hx hyg aE (.inl rfl) aE,c8,aD,aD,aD,aD,aD,aD,aD⟩
 ·have d2:decide ((i:Int)<((dig a).length:Int))=false:=aI
  have fh:i=(dig a).length:=aA
  subst fh;have hT:=fun c' S tk k=>Xt S tk k zs c' aA;rw [hI.done hab] at hT;simp only [digC,digA] at hT;simp (maxSteps:=10^6)+contextual(disch:=try exact dqd)only[ev0,simprocAttr,Cd,Cb,Ce,results183,e1,e5,e6,e12,e13,e14,digA,d2,hT]
theorem Pq (a b:Nat) (ha:a<=1000000000000000000) (hb:b<=1000000000000000000):cL prog 177 [.int (a:Nat),.int (b:Nat)] S tk k=some (.int ((a.gcd b:Nat):Int),S,tk,k):=by
 refine opP func177 ntmps177 ?_;simp (maxSteps:=10^6)+contextual(disch:=try exact dqd)only[ev0,simprocAttr,Cd,Cb,Ce,results177];refine loop1 (P:=prog) (fun x st=>st.T.length=12/\(x.1.gcd x.2=a.gcd b)/\(x.1<=1000000000000000000)/\(x.2<=1000000000000000000)/\getT st.T 0=.int (x.1:Nat)/\getT st.T 1=.int (x.2:Nat)/\st.S=[]) (fun x=>x.2) (fun x=>.int ((a.gcd b:Nat):Int)) (a,b) ?_ ?_;case refine_2=>exact ⟨rfl,rfl,ha,hb,rfl,rfl,rfl⟩
 rintro ⟨x,y⟩ ⟨T,S',tk',n'⟩ ⟨hl,hg,hx,hy,e0,e1,eS⟩ IH;simp only at hg hx hy e0 e1 eS;subst eS;obtain ⟨g,hg,hT⟩:=Au hl;rw [hg] at e0 e1;subst hT;clear hg hl;by_cases h0:y=0
 ·subst h0;have d1:(((0:Nat):Int) != 0)=false:=rfl;rw [Sv] at hg;simp (maxSteps:=10^6)+contextual(disch:=try exact dqd)only[ev0,simprocAttr,Cd,Cb,Ce,results177,e0,e1,d1];rw [hg]
 ·have d1:((y:Int) != 0)=true:=aX
  have lp:¬ ((y:Int)=0):=aA
  have hm:(x:Int).tmod (y:Int)=((x % y:Nat):Int):=dF
  simp (maxSteps:=10^6)+contextual(disch:=try exact dqd)only[ev0,simprocAttr,Cd,Cb,Ce,results177,e0,e1,d1,lp,hm];have hlt:=gT x (by omega:0<y);exact IH (y,x % y) _ aF ⟨rfl,Za0s,hy,aE,aD,aD,aD⟩
end
end
end Go.Proofs.YtcandeobhlfkbaaGreat
