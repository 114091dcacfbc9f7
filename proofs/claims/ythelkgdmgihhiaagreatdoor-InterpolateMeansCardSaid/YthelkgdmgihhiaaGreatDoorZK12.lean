/- Part 12. -/
import Derived.Test.YthelkgdmgihhiaaGreatDoorZK11
import Derived.Deep.OwnRows
import Derived.OwnWalk
namespace Go.Proofs.YthelkgdmgihhiaaGreatDoor
section
open Go Tryz Go.RowKit
structure M4 (X Y:List Int) (i:Nat) (zs:List Int) (c:Int):Prop where
 len:zs.length=i
 ok:okD zs
 c01:c=0\/c=1
 eqv:val zs - c*10000 ^ i=val (X.take i) - val (Y.take i)
theorem Th {α:Type} : ∀ {l:List α} {i:Nat} {x:α},nth l i=some x->l.take (i+1)=l.take i++[x]
 | y :: l,0,x,h=>by simp only [nth,Option.some.injEq] at h; subst h; rfl
 | y :: l,i+1,x,h=>by rw [List.take_succ_cons,List.take_succ_cons,Th (l:=l) (i:=i) h]; rfl
 | [],_,_,h=>by simp [nth] at h
theorem Kd (l:List Int) (i:Nat):val (l.take (i+1))=val (l.take i)+10000 ^ i*(nth l i).getD 0:=by
 by_cases h:i<l.length
 ·obtain ⟨x,hx⟩:=Af h
  rw [Th hx,Gc,hx]
  have:(l.take i).length=i:=by simp; omega
  rw [this]; simp [val]
 ·rw [List.take_of_length_le (by omega),List.take_of_length_le (by omega),Ab,List.getElem?_eq_none (by omega)]; simp
theorem M4.start (X Y:List Int):M4 X Y 0 [] 0:=⟨rfl,fun d hd=>by simp at hd,.inl rfl,by simp [val]⟩
theorem M4.step {X Y zs:List Int} {i:Nat} {c x y d e:Int} (h:M4 X Y i zs c) (hx:nth X i=some x) (hy:y=(nth Y i).getD 0) (hd:0<=d/\d<10000) (he:e=0\/e=1) (hde:d - 10000*e=x - c - y):M4 X Y (i+1) (zs++[d]) e:=by
 refine ⟨by simp [h.len],fun a ha=>?_,he,?_⟩
 ·rcases List.mem_append.1 ha with ha|ha
  ·exact h.ok a ha
  ·have:a=d:=by simpa using ha
   rw [this]; exact hd
 ·have hv:=h.eqv
  rw [Gc,Kd,Kd,hx,<- hy,h.len,Int.pow_succ]
  simp only [val,Option.getD_some]
  have e1:(10000:Int) ^ i*(d+10000*0) - e*(10000 ^ i*10000)=10000 ^ i*(x - c - y):=by
   rw [<- hde,Int.mul_sub,Int.mul_zero,Int.add_zero,Int.mul_comm e,Int.mul_assoc]
  rw [Int.mul_sub,Int.mul_sub] at e1
  have e2:c*(10000:Int) ^ i=10000 ^ i*c:=Int.mul_comm _ _
  omega
theorem M4.done {a b:Nat} {zs:List Int} {c:Int} (h:M4 (dig a) (dig b) (dig a).length zs c) (hab:b<=a):Bo zs=dig (a - b):=by
 have hl:(dig b).length<=(dig a).length:=D5.2 (Nat.lt_of_le_of_lt hab (D5.1 (Nat.le_refl _)))
 have hv:=h.eqv
 rw [List.take_length,List.take_of_length_le hl,Dr,Dr] at hv
 have h1:=Aa6 h.ok
 rw [h.len] at h1
 have h2:=Hy h.ok
 have hc:c=0:=by
  rcases h.c01 with h|h
  ·exact h
  ·subst h; omega
 subst hc
 rw [D9 h.ok]
 congr 1
 omega
theorem Zp:(prog.info? 3).map (fun i=>(i.zero,i.size,i.bytes))=some (some (.int .i64 0),1,8):=by kernel_rfl
theorem row_app {w0 w1:World} {v:Value} {zs:List Int} {d:Int} (hO:OR w1 w0.heap.size v zs) (hB:Below w0.heap.size w0 w1) (hlen:zs.length<=1000000) {ops:Array Oper} {rest:List Oper} {op:Oper} {a:Act} {Q:Exit->Act->World->Prop} {s x:Operand}
  (hgd:op.guard=none) (ho:op.op=.call { callee:=.builtin .append,args:=#[s,x],argTypes:=#[69,69] }) (hs:a.eval s=v) (hx:a.eval x=.slice (some ⟨w1.heap.size,0,none⟩) 1 1)
  (h:∀ v' w',OR w' w0.heap.size v' (zs++[d])->Below w0.heap.size w0 w'->wpList prog ops Q rest (a.put op.dst v') w'):wpList prog ops Q (op :: rest) a (w1.alloc (.cells #[num d] 3)):=by
 obtain ⟨i0,hi,hz0,hz1,hz2⟩:=info_parts Zp
 have hb2:Below w1.heap.size w1 (w1.alloc (.cells #[num d] 3)):=(Below.refl _ _).alloc (Nat.le_refl _) _
 refine wpList_append_own _ hgd _ _ 69 ho w0.heap.size 3 i0 (.int .i64 0) 1 8 underlying69 hi hz0 hz1 hz2 rfl (by decide) v zs.length (zs.map num) hs (hO.below hb2) ⟨w1.heap.size,0,none⟩ 1 1 [num d] hx rfl (fun j u hj=>?_) (fun u hu=>?_) (by unfold maxLen; omega) (by omega) (Nat.le_trans hB.size hb2.size) (fun v' w' hown hg hn=>?_)
 ·cases j with
  | zero =>
   simp only [List.getElem?_cons_zero,Option.some.injEq] at hj
   subst hj
   have ha:Addr.add ⟨w1.heap.size,0,none⟩ 0=⟨w1.heap.size,0,none⟩:=by simp [Addr.add]
   rw [ha,Lib.cell_of_heap (Aa w1 _)]
   rfl
  | succ j=>simp at hj
 ·have:u=num d:=by simpa using hu
  subst this; rfl
 ·refine h v' w' ?_ ((hB.trans (hb2.mono hB.size)).grown hg (Nat.le_trans hB.size hb2.size) fun j hj=>?_)
  ·have e:(zs++[d]).length=zs.length+1:=by simp
   have e2:(zs++[d]).map num=zs.map num++[num d]:=by simp
   unfold OR
   rw [e,e2]; exact hown
  ·exact (hO.lt j hj).1
theorem make0 {w:World} {N:Nat} (hN:N<=1000000) {ops:Array Oper} {rest:List Oper} {op:Oper} {a:Act} {Q:Exit->Act->World->Prop} {l c:Operand} (hgd:op.guard=none) (hop:op.op=.makeSlice 69 l c) (hl:a.eval l=.int .i64 0) (hc:a.eval c=.int .i64 (N:Nat))
  (h:∀ v w',OR w' w.heap.size v []->Below w.heap.size w w'->wpList prog ops Q rest (a.put op.dst v) w'):wpList prog ops Q (op :: rest) a w:=by
 obtain ⟨i0,hi,hz0,hz1,hz2⟩:=info_parts Zp
 refine wpList_plain hgd fun K hK'=>?_
 have hrun:=run_make (P:=prog) w 69 3 i0 (.int .i64 0) underlying69 hi hz0 .i64 .i64 0 N (by omega) (by omega) (by rw [hz2]; omega) (by omega)
 unfold Oper.wp
 simp [execOp,hop,hl,hc,hrun,Result.andThen]
 refine hK' _ _ (h _ _ ?_ ((Below.refl _ _).alloc (Nat.le_refl _) _))
 exact World.ownsRow_made w _ N (Nat.le_refl _) (by unfold maxLen; omega) (by simp [madeCells,hz1])
def G3:Value->Int|.int _ n=>n|_=>0
set_option maxHeartbeats 4000000 in
set_option maxRecDepth 100000 in
theorem Acm (w:World) (vx vy:Value) (a b:Nat) (hx:RD w vx (dig a)) (hy:RD w vy (dig b)) (hab:b<=a) (hlen:(dig a).length<=100000) (hp:0<w.heap.size) :
  Calls prog 281 #[vx,vy] w fun e w'=>∃ v,e=.returned v/\OR w' w.heap.size v (dig (a - b))/\Below w.heap.size w w':=by
 have hlb:(dig b).length<=100000:=Nat.le_trans (D5.2 (Nat.lt_of_le_of_lt hab (D5.1 (Nat.le_refl _)))) hlen
 obtain ⟨ax,cx,rfl,hcx,hX⟩:=Hk hx
 obtain ⟨ay,cy,rfl,hcy,hY⟩:=Hk hy
 have HX:=Lib.hid hX
 have HY:=Lib.hid hY
 have HD:=Lib.hid (fun (zs:List Int) (c:Int) (h:M4 (dig a) (dig b) (dig a).length zs c)=>h.done hab)
 have HS:=Lib.hid (M4.start (dig a) (dig b))
 have HKX:=Lib.hid (Dp a)
 have HKY:=Lib.hid (Dp b)
 clear hX hY hx hy hab
 generalize hXX:dig a=X at *
 generalize hYY:dig b=Y at *
 generalize hN:X.length=N at *
 generalize hM:Y.length=M at *
 have HN:=Lib.hid (show N<=1000000 by omega)
 go_enter func281,ntmps281
 go_wp2_with (at_make; refine make0 HN.out rfl rfl rfl rfl ?_; intro v1 w1 hO1 hB1; have HO1:=Lib.hid hO1; have HB1:=Lib.hid hB1; clear hO1 hB1)
 go_loopw [5,6,14] (fun v c i wr=>∃ (n:Nat) (zs:List Int) (cc:Int),i=.int .i64 n/\n<=N/\c=.int .i64 cc/\(cc=0\/cc=1)/\Hid (M4 X Y n zs cc)/\Hid (OR wr w.heap.size v zs)/\Hid (Below w.heap.size w wr)) (fun _ _ i _=>N - (G3 i).toNat)
 case atStart=>exact ⟨0,[],0,rfl,Nat.zero_le _,rfl,.inl rfl,HS,HO1,HB1⟩
 case round =>
  obtain ⟨n,zs,cc,rfl,hn,rfl,hcc,HI,HO,HB⟩:=hrel
  have hzl:zs.length=n:=HI.out.len
  by_cases hlt:n<N
  rotate_left
  ·have hne:n=N:=by omega
   subst hne
   obtain ⟨av,cv,rfl,hcv,hcells⟩:=Hk (HO.out.rd hp)
   have hT:=Qj wr av cv zs (by omega) hcv fun j x hx=>by
    obtain ⟨b',o',h1,h2,-⟩:=hcells j x hx
    exact ⟨b',o',h1,h2⟩
   rw [hzl] at hT
   have HT:=Lib.hid hT
   have HR:=Lib.hid HO.out.trim
   clear hT hcv
   have HE:=Lib.hid (HD.out zs cc HI.out)
   clear hcells
   go_wp2_with (go_at_call 278; refine HT.out.mono ?_; rintro e w6 ⟨rfl,rfl⟩)
   go_ret
   have hR:=HR.out
   rw [HE.out] at hR ⊢
   exact ⟨_,rfl,hR,HB.out⟩
  obtain ⟨x,hx⟩:=Af (show n<X.length by omega)
  obtain ⟨bx,ox,rfl,hcx0,-⟩:=HX.out n x hx
  have hxk:=HKX.out x (by rw [Ab] at hx; exact List.mem_of_getElem? hx)
  have hcell:=(HB.out.cell (Dg hcx0)).trans hcx0
  have hi1:IntKind.i64.wrap ((n:Int)+1)=((n+1:Nat):Int):=by rw [Ay (by unfold i64; omega)]; omega
  have hg1:(n:Int)<(N:Int):=by omega
  have hw1:IntKind.i64.wrap (x - cc)=x - cc:=Ay (by unfold i64; omega)
  have HN2:=Lib.hid (show zs.length<=1000000 by omega)
  have HXX:=Lib.hid hx
  clear hx hcx0
  by_cases hm:n<M
  ·obtain ⟨y,hy⟩:=Af (show n<Y.length by omega)
   obtain ⟨by',oy,rfl,hcy0,-⟩:=HY.out n y hy
   have hyk:=HKY.out y (by rw [Ab] at hy; exact List.mem_of_getElem? hy)
   have hcelly:=(HB.out.cell (Dg hcy0)).trans hcy0
   have hg2:(n:Int)<(M:Int):=by omega
   have hw2:IntKind.i64.wrap (x - cc - y)=x - cc - y:=Ay (by unfold i64; omega)
   have HYY:=Lib.hid (show y=(nth Y n).getD 0 by rw [hy]; rfl)
   clear hy hcy0
   by_cases hneg:x - cc - y<0
   ·have hw3:IntKind.i64.wrap (x - cc - y+10000)=x - cc - y+10000:=Ay (by unfold i64; omega)
    have HL:=Lib.hid (HI.out.step (d:=x - cc - y+10000) (e:=1) HXX.out HYY.out (by omega) (.inr rfl) (by omega))
    go_wp2_with (at_builtin; refine row_app HO.out HB.out HN2.out rfl rfl rfl rfl ?_; intro v2 w2 hO2 hB2; have HO2:=Lib.hid hO2; have HB2:=Lib.hid hB2; clear hO2 hB2)
    exact ⟨⟨n+1,_,1,congrArg _ (by omega),by omega,rfl,.inr rfl,HL,HO2,HB2⟩,by simp [G3]; omega⟩
   ·have HL:=Lib.hid (HI.out.step (d:=x - cc - y) (e:=0) HXX.out HYY.out (by omega) (.inl rfl) (by omega))
    go_wp2_with (at_builtin; refine row_app HO.out HB.out HN2.out rfl rfl rfl rfl ?_; intro v2 w2 hO2 hB2; have HO2:=Lib.hid hO2; have HB2:=Lib.hid hB2; clear hO2 hB2)
    exact ⟨⟨n+1,_,0,congrArg _ (by omega),by omega,rfl,.inl rfl,HL,HO2,HB2⟩,by simp [G3]; omega⟩
  ·have hg2:¬ (n:Int)<(M:Int):=by omega
   have HYY:=Lib.hid (show (0:Int)=(nth Y n).getD 0 by rw [Ab,List.getElem?_eq_none (by omega)]; rfl)
   by_cases hneg:x - cc<0
   ·have hw3:IntKind.i64.wrap (x - cc+10000)=x - cc+10000:=Ay (by unfold i64; omega)
    have HL:=Lib.hid (HI.out.step (d:=x - cc+10000) (e:=1) HXX.out HYY.out (by omega) (.inr rfl) (by omega))
    go_wp2_with (at_builtin; refine row_app HO.out HB.out HN2.out rfl rfl rfl rfl ?_; intro v2 w2 hO2 hB2; have HO2:=Lib.hid hO2; have HB2:=Lib.hid hB2; clear hO2 hB2)
    exact ⟨⟨n+1,_,1,congrArg _ (by omega),by omega,rfl,.inr rfl,HL,HO2,HB2⟩,by simp [G3]; omega⟩
   ·have HL:=Lib.hid (HI.out.step (d:=x - cc) (e:=0) HXX.out HYY.out (by omega) (.inl rfl) (by omega))
    go_wp2_with (at_builtin; refine row_app HO.out HB.out HN2.out rfl rfl rfl rfl ?_; intro v2 w2 hO2 hB2; have HO2:=Lib.hid hO2; have HB2:=Lib.hid hB2; clear hO2 hB2)
    exact ⟨⟨n+1,_,0,congrArg _ (by omega),by omega,rfl,.inl rfl,HL,HO2,HB2⟩,by simp [G3]; omega⟩
end
end Go.Proofs.YthelkgdmgihhiaaGreatDoor
