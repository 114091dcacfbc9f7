/- RQ2 R2 R3 -/
import Derived.Test.YtcjffhadclngmaaGreatZC11
import Derived.Deep.OwnRows
import Derived.OwnWalk
namespace Go.Proofs.YtcjffhadclngmaaGreat
section
open Go Tryz Go.RowKit
structure Pg (X Y:List Int) (i:Nat) (zs:List Int) (c:Int):Prop where
 len:zs.length=i
 ok:okD zs
 c01:c=0\/c=1
 eqv:val zs - c*10000 ^ i=val (X.take i) - val (Y.take i)
theorem Yc {α:Type} : ∀ {l:List α} {i:Nat} {x:α},nth l i=some x->l.take (i+1)=l.take i++[x]
 | y :: l,0,x,h=>by simp only [nth,Option.some.injEq] at h; subst h; rfl
 | y :: l,i+1,x,h=>by rw [List.take_succ_cons,List.take_succ_cons,Yc (l:=l) (i:=i) h]; rfl
 | [],_,_,h=>by simp [nth] at h
theorem Hh (l:List Int) (i:Nat):val (l.take (i+1))=val (l.take i)+10000 ^ i*(nth l i).getD 0:=by
 by_cases h:i<l.length
 ·obtain ⟨x,hx⟩:=Ag h
  rw [Yc hx,G0,hx]
  have:(l.take i).length=i:=by simp; omega
  rw [this]; simp [val]
 ·rw [List.take_of_length_le (by omega),List.take_of_length_le (by omega),Ae,List.getElem?_eq_none (by omega)]; simp
theorem Pg.start (X Y:List Int):Pg X Y 0 [] 0:=⟨rfl,fun d hd=>by simp at hd,.inl rfl,by simp [val]⟩
theorem Pg.step {X Y zs:List Int} {i:Nat} {c x y d e:Int} (h:Pg X Y i zs c) (hx:nth X i=some x) (hy:y=(nth Y i).getD 0) (hd:0<=d/\d<10000) (he:e=0\/e=1) (hde:d - 10000*e=x - c - y):Pg X Y (i+1) (zs++[d]) e:=by
 refine ⟨by simp [h.len],fun a ha=>?_,he,?_⟩
 ·rcases List.mem_append.1 ha with ha|ha
  ·exact h.ok a ha
  ·have:a=d:=by simpa using ha
   rw [this]; exact hd
 ·have hv:=h.eqv
  rw [G0,Hh,Hh,hx,<- hy,h.len,Int.pow_succ]
  simp only [val,Option.getD_some]
  have e1:(10000:Int) ^ i*(d+10000*0) - e*(10000 ^ i*10000)=10000 ^ i*(x - c - y):=by
   rw [<- hde,Int.mul_sub,Int.mul_zero,Int.add_zero,Int.mul_comm e,Int.mul_assoc]
  rw [Int.mul_sub,Int.mul_sub] at e1
  have e2:c*(10000:Int) ^ i=10000 ^ i*c:=Int.mul_comm _ _
  omega
theorem Pg.done {a b:Nat} {zs:List Int} {c:Int} (h:Pg (dig a) (dig b) (dig a).length zs c) (hab:b<=a):Dw zs=dig (a - b):=by
 have hl:(dig b).length<=(dig a).length:=Bo.2 (Nat.lt_of_le_of_lt hab (Bo.1 (Nat.le_refl _)))
 have hv:=h.eqv
 rw [List.take_length,List.take_of_length_le hl,Dk,Dk] at hv
 have h1:=Alb h.ok
 rw [h.len] at h1
 have h2:=Gg h.ok
 have hc:c=0:=by
  rcases h.c01 with h|h
  ·exact h
  ·subst h; omega
 subst hc
 rw [Ei h.ok]
 congr 1
 omega
theorem Agp:(prog.info? 3).map (fun i=>(i.zero,i.size,i.bytes))=some (some (.int .i64 0),1,8):=by kernel_rfl
theorem row_app {w0 w1:World} {v:Value} {zs:List Int} {d:Int} (hO:OR w1 w0.heap.size v zs) (hB:Below w0.heap.size w0 w1) (hlen:zs.length<=1000000) {ops:Array Oper} {rest:List Oper} {op:Oper} {a:Act} {Q:Exit->Act->World->Prop} {s x:Operand}
  (hgd:op.guard=none) (ho:op.op=.call { callee:=.builtin .append,args:=#[s,x],argTypes:=#[37,37] }) (hs:a.eval s=v) (hx:a.eval x=.slice (some ⟨w1.heap.size,0,none⟩) 1 1)
  (h:∀ v' w',OR w' w0.heap.size v' (zs++[d])->Below w0.heap.size w0 w'->wpList prog ops Q rest (a.put op.dst v') w'):wpList prog ops Q (op :: rest) a (w1.alloc (.cells #[num d] 3)):=by
 obtain ⟨i0,hi,hz0,hz1,hz2⟩:=info_parts Agp
 have hb2:Below w1.heap.size w1 (w1.alloc (.cells #[num d] 3)):=(Below.refl _ _).alloc (Nat.le_refl _) _
 refine wpList_append_own _ hgd _ _ 37 ho w0.heap.size 3 i0 (.int .i64 0) 1 8 underlying37 hi hz0 hz1 hz2 rfl (by decide) v zs.length (zs.map num) hs (hO.below hb2) ⟨w1.heap.size,0,none⟩ 1 1 [num d] hx rfl (fun j u hj=>?_) (fun u hu=>?_) (by unfold maxLen; omega) (by omega) (Nat.le_trans hB.size hb2.size) (fun v' w' hown hg hn=>?_)
 ·cases j with
  | zero =>
   simp only [List.getElem?_cons_zero,Option.some.injEq] at hj
   subst hj
   have ha:Addr.add ⟨w1.heap.size,0,none⟩ 0=⟨w1.heap.size,0,none⟩:=by simp [Addr.add]
   rw [ha,Lib.cell_of_heap (Aq w1 _)]
   rfl
  | succ j=>simp at hj
 ·have:u=num d:=by simpa using hu
  subst this; rfl
 ·refine h v' w' ?_ ((hB.trans (hb2.mono hB.size)).grown hg (Nat.le_trans hB.size hb2.size) fun j hj=>?_)
  ·have e:(zs++[d]).length=zs.length+1:=by simp
   have e2:(zs++[d]).map num=zs.map num++[num d]:=by simp
   unfold OR
   rw [e,e2]; exact hown
  ·exact (hO.lt j hj).1
theorem make0 {w:World} {N:Nat} (hN:N<=1000000) {ops:Array Oper} {rest:List Oper} {op:Oper} {a:Act} {Q:Exit->Act->World->Prop} {l c:Operand} (hgd:op.guard=none) (hop:op.op=.makeSlice 37 l c) (hl:a.eval l=.int .i64 0) (hc:a.eval c=.int .i64 (N:Nat))
  (h:∀ v w',OR w' w.heap.size v []->Below w.heap.size w w'->wpList prog ops Q rest (a.put op.dst v) w'):wpList prog ops Q (op :: rest) a w:=by
 obtain ⟨i0,hi,hz0,hz1,hz2⟩:=info_parts Agp
 refine wpList_plain hgd fun K hK'=>?_
 have hrun:=run_make (P:=prog) w 37 3 i0 (.int .i64 0) underlying37 hi hz0 .i64 .i64 0 N (by omega) (by omega) (by rw [hz2]; omega) (by omega)
 unfold Oper.wp
 simp [execOp,hop,hl,hc,hrun,Result.andThen]
 refine hK' _ _ (h _ _ ?_ ((Below.refl _ _).alloc (Nat.le_refl _) _))
 exact World.ownsRow_made w _ N (Nat.le_refl _) (by unfold maxLen; omega) (by simp [madeCells,hz1])
def Pd:Value->Int|.int _ n=>n|_=>0
set_option maxHeartbeats 4000000 in
set_option maxRecDepth 100000 in
theorem Ajk (w:World) (vx vy:Value) (a b:Nat) (hx:RD w vx (dig a)) (hy:RD w vy (dig b)) (hab:b<=a) (hlen:(dig a).length<=100000) (hp:0<w.heap.size) :
  Calls prog 178 #[vx,vy] w fun e w'=>∃ v,e=.returned v/\OR w' w.heap.size v (dig (a - b))/\Below w.heap.size w w':=by
 have hlb:(dig b).length<=100000:=Nat.le_trans (Bo.2 (Nat.lt_of_le_of_lt hab (Bo.1 (Nat.le_refl _)))) hlen
 obtain ⟨ax,cx,rfl,hcx,hX⟩:=La hx
 obtain ⟨ay,cy,rfl,hcy,hY⟩:=La hy
 have HX:=Lib.hid hX
 have HY:=Lib.hid hY
 have HD:=Lib.hid (fun (zs:List Int) (c:Int) (h:Pg (dig a) (dig b) (dig a).length zs c)=>h.done hab)
 have HS:=Lib.hid (Pg.start (dig a) (dig b))
 have HKX:=Lib.hid (B4 a)
 have HKY:=Lib.hid (B4 b)
 clear hX hY hx hy hab
 generalize hXX:dig a=X at *
 generalize hYY:dig b=Y at *
 generalize hN:X.length=N at *
 generalize hM:Y.length=M at *
 have HN:=Lib.hid (show N<=1000000 by omega)
 go_enter func178,ntmps178
 go_wp2_with (at_make; refine make0 HN.out rfl rfl rfl rfl ?_; intro v1 w1 hO1 hB1; have HO1:=Lib.hid hO1; have HB1:=Lib.hid hB1; clear hO1 hB1)
 go_loopw [5,6,14] (fun v c i wr=>∃ (n:Nat) (zs:List Int) (cc:Int),i=.int .i64 n/\n<=N/\c=.int .i64 cc/\(cc=0\/cc=1)/\Hid (Pg X Y n zs cc)/\Hid (OR wr w.heap.size v zs)/\Hid (Below w.heap.size w wr)) (fun _ _ i _=>N - (Pd i).toNat)
 case atStart=>exact ⟨0,[],0,rfl,Nat.zero_le _,rfl,.inl rfl,HS,HO1,HB1⟩
 case round =>
  obtain ⟨n,zs,cc,rfl,hn,rfl,hcc,HI,HO,HB⟩:=hrel
  have hzl:zs.length=n:=HI.out.len
  by_cases hlt:n<N
  rotate_left
  ·have hne:n=N:=by omega
   subst hne
   obtain ⟨av,cv,rfl,hcv,hcells⟩:=La (HO.out.rd hp)
   have hT:=Uv wr av cv zs (by omega) hcv fun j x hx=>by
    obtain ⟨b',o',h1,h2,-⟩:=hcells j x hx
    exact ⟨b',o',h1,h2⟩
   rw [hzl] at hT
   have HT:=Lib.hid hT
   have HR:=Lib.hid HO.out.trim
   clear hT hcv
   have HE:=Lib.hid (HD.out zs cc HI.out)
   clear hcells
   go_wp2_with (go_at_call 175; refine HT.out.mono ?_; rintro e w6 ⟨rfl,rfl⟩)
   go_ret
   have hR:=HR.out
   rw [HE.out] at hR ⊢
   exact ⟨_,rfl,hR,HB.out⟩
  obtain ⟨x,hx⟩:=Ag (show n<X.length by omega)
  obtain ⟨bx,ox,rfl,hcx0,-⟩:=HX.out n x hx
  have hxk:=HKX.out x (by rw [Ae] at hx; exact List.mem_of_getElem? hx)
  have hcell:=(HB.out.cell (E9 hcx0)).trans hcx0
  have hi1:IntKind.i64.wrap ((n:Int)+1)=((n+1:Nat):Int):=by rw [Ad (by unfold i64; omega)]; omega
  have hg1:(n:Int)<(N:Int):=by omega
  have hw1:IntKind.i64.wrap (x - cc)=x - cc:=Ad (by unfold i64; omega)
  have HN2:=Lib.hid (show zs.length<=1000000 by omega)
  have HXX:=Lib.hid hx
  clear hx hcx0
  by_cases hm:n<M
  ·obtain ⟨y,hy⟩:=Ag (show n<Y.length by omega)
   obtain ⟨by',oy,rfl,hcy0,-⟩:=HY.out n y hy
   have hyk:=HKY.out y (by rw [Ae] at hy; exact List.mem_of_getElem? hy)
   have hcelly:=(HB.out.cell (E9 hcy0)).trans hcy0
   have hg2:(n:Int)<(M:Int):=by omega
   have hw2:IntKind.i64.wrap (x - cc - y)=x - cc - y:=Ad (by unfold i64; omega)
   have HYY:=Lib.hid (show y=(nth Y n).getD 0 by rw [hy]; rfl)
   clear hy hcy0
   by_cases hneg:x - cc - y<0
   ·have hw3:IntKind.i64.wrap (x - cc - y+10000)=x - cc - y+10000:=Ad (by unfold i64; omega)
    have HL:=Lib.hid (HI.out.step (d:=x - cc - y+10000) (e:=1) HXX.out HYY.out (by omega) (.inr rfl) (by omega))
    go_wp2_with (at_builtin; refine row_app HO.out HB.out HN2.out rfl rfl rfl rfl ?_; intro v2 w2 hO2 hB2; have HO2:=Lib.hid hO2; have HB2:=Lib.hid hB2; clear hO2 hB2)
    exact ⟨⟨n+1,_,1,congrArg _ (by omega),by omega,rfl,.inr rfl,HL,HO2,HB2⟩,by simp [Pd]; omega⟩
   ·have HL:=Lib.hid (HI.out.step (d:=x - cc - y) (e:=0) HXX.out HYY.out (by omega) (.inl rfl) (by omega))
    go_wp2_with (at_builtin; refine row_app HO.out HB.out HN2.out rfl rfl rfl rfl ?_; intro v2 w2 hO2 hB2; have HO2:=Lib.hid hO2; have HB2:=Lib.hid hB2; clear hO2 hB2)
    exact ⟨⟨n+1,_,0,congrArg _ (by omega),by omega,rfl,.inl rfl,HL,HO2,HB2⟩,by simp [Pd]; omega⟩
  ·have hg2:¬ (n:Int)<(M:Int):=by omega
   have HYY:=Lib.hid (show (0:Int)=(nth Y n).getD 0 by rw [Ae,List.getElem?_eq_none (by omega)]; rfl)
   by_cases hneg:x - cc<0
   ·have hw3:IntKind.i64.wrap (x - cc+10000)=x - cc+10000:=Ad (by unfold i64; omega)
    have HL:=Lib.hid (HI.out.step (d:=x - cc+10000) (e:=1) HXX.out HYY.out (by omega) (.inr rfl) (by omega))
    go_wp2_with (at_builtin; refine row_app HO.out HB.out HN2.out rfl rfl rfl rfl ?_; intro v2 w2 hO2 hB2; have HO2:=Lib.hid hO2; have HB2:=Lib.hid hB2; clear hO2 hB2)
    exact ⟨⟨n+1,_,1,congrArg _ (by omega),by omega,rfl,.inr rfl,HL,HO2,HB2⟩,by simp [Pd]; omega⟩
   ·have HL:=Lib.hid (HI.out.step (d:=x - cc) (e:=0) HXX.out HYY.out (by omega) (.inl rfl) (by omega))
    go_wp2_with (at_builtin; refine row_app HO.out HB.out HN2.out rfl rfl rfl rfl ?_; intro v2 w2 hO2 hB2; have HO2:=Lib.hid hO2; have HB2:=Lib.hid hB2; clear hO2 hB2)
    exact ⟨⟨n+1,_,0,congrArg _ (by omega),by omega,rfl,.inl rfl,HL,HO2,HB2⟩,by simp [Pd]; omega⟩
end
section
open Go Tryz
structure SumI (X Y:List Int) (i:Nat) (zs:List Int) (c:Int):Prop where
 len:zs.length=i
 ok:okD zs
 c01:0<=c/\c<=1
 eqv:val zs+c*10000 ^ i=val (X.take i)+val (Y.take i)
theorem SumI.start (X Y:List Int):SumI X Y 0 [] 0:=⟨rfl,fun d hd=>by simp at hd,by omega,by simp [val]⟩
theorem SumI.step {X Y zs:List Int} {i:Nat} {c x y n:Int} (h:SumI X Y i zs c) (hx:nth X i=some x) (hy:y=(nth Y i).getD 0) (hxk:0<=x/\x<10000) (hyk:0<=y/\y<10000) (hn:n=x+c+y):SumI X Y (i+1) (zs++[n.tmod 10000]) (n.tdiv 10000):=by
 have hc:=h.c01
 have e1:n.tdiv 10000=n / 10000:=Int.tdiv_eq_ediv_of_nonneg (by omega)
 have e2:n.tmod 10000=n % 10000:=Int.tmod_eq_emod_of_nonneg (by omega)
 rw [e1,e2]
 refine ⟨by simp [h.len],fun a ha=>?_,by omega,?_⟩
 ·rcases List.mem_append.1 ha with ha|ha
  ·exact h.ok a ha
  ·have:a=n % 10000:=by simpa using ha
   omega
 ·have hv:=h.eqv
  rw [G0,Hh,Hh,hx,<- hy,h.len,Int.pow_succ]
  simp only [val,Option.getD_some]
  have e3:(10000:Int) ^ i*(n % 10000+10000*0)+n / 10000*(10000 ^ i*10000)=10000 ^ i*x+10000 ^ i*c+10000 ^ i*y:=by
   rw [<- Int.mul_add,<- Int.mul_add,<- hn,Int.mul_zero,Int.add_zero,Int.mul_comm (n / 10000),Int.mul_assoc,<- Int.mul_add]
   congr 1
   omega
  have e4:c*(10000:Int) ^ i=10000 ^ i*c:=Int.mul_comm _ _
  omega
theorem SumI.done {a b:Nat} {zs:List Int} {c:Int} (h:SumI (dig a) (dig b) (dig a).length zs c) (hl:(dig b).length<=(dig a).length):Dw (zs++[c])=dig (a+b):=by
 have hv:=h.eqv
 rw [List.take_length,List.take_of_length_le hl,Dk,Dk] at hv
 have hc:=h.c01
 rw [Ei (fun d hd=>by
  rcases List.mem_append.1 hd with hd|hd
  ·exact h.ok d hd
  ·have:d=c:=by simpa using hd
   omega)]
 congr 1
 rw [G0,h.len]
 simp only [val,Int.mul_zero,Int.add_zero]
 rw [Int.mul_comm (10000 ^ _)]
 omega
theorem Yt {P:Program} {t:TypeId} {n:Nat} (hz:(A8 P t).bind (Aw P)=some [.prim (.int .i64 0)]) (hs:(A8 P t).bind (szOf P)=some 1) (hb:(A8 P t).bind (bytesOf P)=some 8) (hn:n<=1048576) :
  mkA P t (.prim (.int .i64 0)) (.prim (.int .i64 (n:Int)))=some (0,1,An3 n):=by
 unfold mkA
 rw [hz,hs,hb,intN_cast,intN_zero]
 simp only [mkB]
 rw [if_pos ⟨Nat.zero_le _,hn,by omega,rfl⟩,W9]; rfl
theorem Ae1 [Globs] {P:Program} [Ext P] {fn:Func} {M:Md} {call:Dh} {all l:List Oper} {d:Option Tmp} {ty:TypeId} {pos:String} {af:Array Edge} {T:List AV} {S:List Ent} {tk:List Nat} {n:Nat} {k:List Kont} {t:TypeId} {y:Operand} {tg:Tag (all,((⟨d,.makeSlice t (.const (.int .i64 0)) y,ty,pos,af,none⟩:Oper) :: l),k)} :
  RX P fn M call all (⟨d,.makeSlice t (.const (.int .i64 0)) y,ty,pos,af,none⟩ :: l) ⟨T,S,tk,n⟩ k tg=NS (mkA P t (opv T (.const (.int .i64 0))) (opv T y)) (fun (m,sz,cs)=>RX P fn M call all l ⟨putT T d (.frz [] (.tok tk.length 0 sz)),S,tk++[0],n⟩ k .mk) .mk:=RX_makeSlice0 ⟨rfl⟩
section
variable (S:List Ent) (tk:List Nat) (k:Nat)
set_option maxRecDepth 100000 in
theorem Uw (l:List Int) (c:Cap) (hlen:l.length<=1000000):cL prog 175 [.frz (l.map digC) c] S tk k=some (digA (Dw l),S,tk,k):=by
 refine opP func175 ntmps175 ?_
 simp (maxSteps:=10^6)+contextual(disch:=try exact dqd)only[ev0,simprocAttr,AV.int,AV.bool,AV.str,results175]
 refine loop1 (P:=prog) (fun x st=>st.T.length=21/\(x.1<=l.length)/\(∀ j,x.1<=j->∀ x,nth l j=some x->x=0)/\(x.2=l.take x.1)/\getT st.T 0=digA x.2/\st.S=[]) (fun x=>x.1) (fun x=>digA (Dw l)) (l.length,l) ?_ ?_
 case refine_2=>exact ⟨rfl,Nat.le_refl _,Vj l,(List.take_length).symm,rfl,rfl⟩
 rintro ⟨n,t⟩ ⟨T,S',tk',n'⟩ ⟨hl,hn,hz,s5,e0,eS⟩ IH
 simp only at hn hz s5 e0 eS
 subst eS
 obtain ⟨g,hg,hT⟩:=Av hl
 rw [hg] at e0
 subst hT
 clear hg hl
 subst s5
 have hl:(l.take n).length=n:=by simp; omega
 by_cases h0:n=0
 ·have d1:decide ((n:Int) > 0)=false:=by simp; omega
  have ht:=Jd hn hz (.inl h0)
  simp (maxSteps:=10^6)+contextual(disch:=try exact dqd)only[ev0,simprocAttr,AV.int,AV.bool,AV.str,results175,e0,digA,hl,d1]
  rw [ht]
 ·have d1:decide ((n:Int) > 0)=true:=by simp; omega
  have hp:=Aaf h0 (by omega)
  have bl:n - 1<l.length:=by omega
  obtain ⟨x,hx⟩:=Ag bl
  have yk:nth (l.take n) (n - 1)=some x:=by rw [Ae,List.getElem?_take_of_lt (by omega),<- Ae]; exact hx
  have hx':=Ga yk
  by_cases ta:x=0
  ·have d2:(x == 0)=true:=by simpa using ta
   have hsl:J9 prog 37 (.frz ((l.take n).map digC) .unk) none (some (AV.prim (.int .i64 ((n - 1:Nat):Int)))) none=some (.frz ((l.take (n - 1)).map digC) .unk):=by
    have h1:(A8 prog 37).bind (szOf prog)=some 1:=by simp only [tys,Option.bind_some]
    unfold J9
    simp only [h1,Gv,if_true,bound,intN_cast,List.length_map,hl]
    rw [if_pos (by omega)]
    simp only [Nat.zero_le,if_true,List.drop_zero,<- List.map_take,List.take_take]
    congr 4
    omega
   simp (maxSteps:=10^6)+contextual(disch:=try exact dqd)only[ev0,simprocAttr,AV.int,AV.bool,AV.str,results175,e0,digA,hl,d1,d2,hp,hx',hsl]
   exact IH (n - 1,l.take (n - 1)) _ (by first|omega|(simp only; omega)) ⟨rfl,by first|omega|(dsimp only; omega),Yw hz hx ta,rfl,(by first|rfl|simp only [getT,List.map_append,List.map_cons,List.map_nil,digC,digA]),(by first|rfl|simp only [getT,List.map_append,List.map_cons,List.map_nil,digC,digA])⟩
  ·have d2:(x == 0)=false:=by simpa using ta
   have ht:=Jd hn hz (.inr ⟨x,hx,ta⟩)
   simp (maxSteps:=10^6)+contextual(disch:=try exact dqd)only[ev0,simprocAttr,AV.int,AV.bool,AV.str,results175,e0,digA,hl,d1,d2,hp,hx']
   rw [ht]
set_option maxRecDepth 100000 in
theorem Anj (a b:Nat) (ha:(dig a).length<=100000) (hb:(dig b).length<=100000):cL prog 206 [digA (dig a),digA (dig b)] S tk k=some (digA (dig (a+b)),S,tk,k):=by
 refine opP func206 ntmps206 ?_
 rcases Nat.lt_or_ge (dig a).length (dig b).length with h|h
 ·have d1:decide (((dig a).length:Int)<((dig b).length:Int))=true:=by simpa using h
  rw [Nat.add_comm]
  have hle:(dig a).length<=(dig b).length:=by omega
  have hw:IntKind.i64.wrap (((dig b).length:Int)+1)=(((dig b).length+1:Nat):Int):=B9 (by omega)
  have hbo:(A8 prog 37).bind (bytesOf prog)=some 8:=by kernel_rfl
  have kv:=Yt (P:=prog) (t:=37) (n:=(dig b).length+1) (by simp only [tys,Option.bind_some]) (by simp only [tys,Option.bind_some]) hbo (by omega)
  simp (maxSteps:=10^6)+contextual(disch:=try exact dqd)only[ev0,simprocAttr,AV.int,AV.bool,AV.str,results206,digA,d1,hw,kv,↓Ae1]
  refine loop1 (P:=prog) (fun x st=>st.T.length=53/\(x.1<=(dig b).length)/\(SumI (dig b) (dig a) x.1 x.2.1 x.2.2.1)/\(Be st.tk x.2.2.2 1=true)/\getT st.T 1=digA (dig a)/\getT st.T 5=.frz (x.2.1.map digC) x.2.2.2/\getT st.T 6=.int x.2.2.1/\getT st.T 20=digA (dig b)/\getT st.T 21=.int (dig b).length/\getT st.T 22=.int (x.1:Nat)/\st.S=[]) (fun x=>(dig b).length - x.1) (fun x=>digA (dig (b+a))) (0,[],0,.tok 0 0 1) ?_ ?_
  case refine_2=>exact ⟨rfl,Nat.zero_le _,SumI.start _ _,rfl,rfl,rfl,rfl,rfl,rfl,rfl,rfl⟩
  rintro ⟨i,zs,c,cp⟩ ⟨T,S',tk',n'⟩ ⟨hl,hi,hI,ab,e1,e5,e6,e20,e21,e22,eS⟩ IH
  simp only at hi hI ab e1 e5 e6 e20 e21 e22 eS
  subst eS
  obtain ⟨g,hg,hT⟩:=Av hl
  rw [hg] at e1 e5 e6 e20 e21 e22
  subst hT
  clear hg hl
  have jf:=B9 (i:=i) (by omega)
  have hzl:=hI.len
  have hr:=Gv zs
  have hc:=hI.c01
  have dc:=Bv ab
  have bl:(zs.map digC).length+1<=1048576:=by simp; omega
  by_cases hlt:i<(dig b).length
  ·have d2:decide ((i:Int)<((dig b).length:Int))=true:=by simpa using hlt
   obtain ⟨x,hx⟩:=Ag hlt
   have hx':=Ga hx
   have hxk:=E2 (B4 b) hx
   have hw1:IntKind.i64.wrap (x+c)=x+c:=Ad (by unfold i64; omega)
   have ml:¬ ((10000:Int)=0):=by omega
   by_cases hm:i<(dig a).length
   ·have d3:decide ((i:Int)<((dig a).length:Int))=true:=by simpa using hm
    obtain ⟨y,hy⟩:=Ag hm
    have qu:=Ga hy
    have hyk:=E2 (B4 a) hy
    have hw2:IntKind.i64.wrap (x+c+y)=x+c+y:=Ad (by unfold i64; omega)
    have zc:IntKind.i64.wrap ((x+c+y).tdiv 10000)=(x+c+y).tdiv 10000:=by
     rw [Int.tdiv_eq_ediv_of_nonneg (by omega)]; exact Ad (by unfold i64; omega)
    simp (maxSteps:=10^6)+contextual(disch:=try exact dqd)only[ev0,simprocAttr,AV.int,AV.bool,AV.str,results206,e1,e5,e6,e20,e21,e22,digA,d2,d3,hx',qu,jf,hw1,hw2,zc,ml,hr]
    exact IH (i+1,zs++[(x+c+y).tmod 10000],(x+c+y).tdiv 10000,Bb tk' cp 1) _ (by first|omega|(simp only; omega)) ⟨rfl,by first|omega|(dsimp only; omega),hI.step hx (by rw [hy]; rfl) hxk hyk rfl,dc,(by first|rfl|simp only [getT,List.map_append,List.map_cons,List.map_nil,digC,digA]),(by first|rfl|simp only [getT,List.map_append,List.map_cons,List.map_nil,digC,digA]),(by first|rfl|simp only [getT,List.map_append,List.map_cons,List.map_nil,digC,digA]),(by first|rfl|simp only [getT,List.map_append,List.map_cons,List.map_nil,digC,digA]),(by first|rfl|simp only [getT,List.map_append,List.map_cons,List.map_nil,digC,digA]),(by first|rfl|simp only [getT,List.map_append,List.map_cons,List.map_nil,digC,digA]),(by first|rfl|simp only [getT,List.map_append,List.map_cons,List.map_nil,digC,digA])⟩
   ·have d3:decide ((i:Int)<((dig a).length:Int))=false:=by simpa using hm
    have zc:IntKind.i64.wrap ((x+c).tdiv 10000)=(x+c).tdiv 10000:=by
     rw [Int.tdiv_eq_ediv_of_nonneg (by omega)]; exact Ad (by unfold i64; omega)
    simp (maxSteps:=10^6)+contextual(disch:=try exact dqd)only[ev0,simprocAttr,AV.int,AV.bool,AV.str,results206,e1,e5,e6,e20,e21,e22,digA,d2,d3,hx',jf,hw1,zc,ml,hr]
    exact IH (i+1,zs++[(x+c).tmod 10000],(x+c).tdiv 10000,Bb tk' cp 1) _ (by first|omega|(simp only; omega)) ⟨rfl,by first|omega|(dsimp only; omega),hI.step (y:=0) hx (by rw [Ae,List.getElem?_eq_none (by first|omega|(dsimp only; omega))]; rfl) hxk (by first|omega|(dsimp only; omega)) (by first|omega|(dsimp only; omega)),dc,(by first|rfl|simp only [getT,List.map_append,List.map_cons,List.map_nil,digC,digA]),(by first|rfl|simp only [getT,List.map_append,List.map_cons,List.map_nil,digC,digA]),(by first|rfl|simp only [getT,List.map_append,List.map_cons,List.map_nil,digC,digA]),(by first|rfl|simp only [getT,List.map_append,List.map_cons,List.map_nil,digC,digA]),(by first|rfl|simp only [getT,List.map_append,List.map_cons,List.map_nil,digC,digA]),(by first|rfl|simp only [getT,List.map_append,List.map_cons,List.map_nil,digC,digA]),(by first|rfl|simp only [getT,List.map_append,List.map_cons,List.map_nil,digC,digA])⟩
  ·have d2:decide ((i:Int)<((dig b).length:Int))=false:=by simpa using hlt
   have ko:i=(dig b).length:=by omega
   subst ko
   have hT:=fun c' S tk k=>Uw S tk k (zs++[c]) c' (by simp; omega)
   rw [hI.done hle] at hT
   simp only [List.map_append,List.map_cons,List.map_nil,digC,digA] at hT
   simp (maxSteps:=10^6)+contextual(disch:=try exact dqd)only[ev0,simprocAttr,AV.int,AV.bool,AV.str,results206,e1,e5,e6,e20,e21,e22,digA,d2,hr,hT]
 ·have d1:decide (((dig a).length:Int)<((dig b).length:Int))=false:=by simp; omega
  have hle:(dig b).length<=(dig a).length:=by omega
  have hw:IntKind.i64.wrap (((dig a).length:Int)+1)=(((dig a).length+1:Nat):Int):=B9 (by omega)
  have hbo:(A8 prog 37).bind (bytesOf prog)=some 8:=by kernel_rfl
  have kv:=Yt (P:=prog) (t:=37) (n:=(dig a).length+1) (by simp only [tys,Option.bind_some]) (by simp only [tys,Option.bind_some]) hbo (by omega)
  simp (maxSteps:=10^6)+contextual(disch:=try exact dqd)only[ev0,simprocAttr,AV.int,AV.bool,AV.str,results206,digA,d1,hw,kv,↓Ae1]
  refine loop1 (P:=prog) (fun x st=>st.T.length=53/\(x.1<=(dig a).length)/\(SumI (dig a) (dig b) x.1 x.2.1 x.2.2.1)/\(Be st.tk x.2.2.2 1=true)/\getT st.T 1=digA (dig b)/\getT st.T 5=.frz (x.2.1.map digC) x.2.2.2/\getT st.T 6=.int x.2.2.1/\getT st.T 20=digA (dig a)/\getT st.T 21=.int (dig a).length/\getT st.T 22=.int (x.1:Nat)/\st.S=[]) (fun x=>(dig a).length - x.1) (fun x=>digA (dig (a+b))) (0,[],0,.tok 0 0 1) ?_ ?_
  case refine_2=>exact ⟨rfl,Nat.zero_le _,SumI.start _ _,rfl,rfl,rfl,rfl,rfl,rfl,rfl,rfl⟩
  rintro ⟨i,zs,c,cp⟩ ⟨T,S',tk',n'⟩ ⟨hl,hi,hI,ab,e1,e5,e6,e20,e21,e22,eS⟩ IH
  simp only at hi hI ab e1 e5 e6 e20 e21 e22 eS
  subst eS
  obtain ⟨g,hg,hT⟩:=Av hl
  rw [hg] at e1 e5 e6 e20 e21 e22
  subst hT
  clear hg hl
  have jf:=B9 (i:=i) (by omega)
  have hzl:=hI.len
  have hr:=Gv zs
  have hc:=hI.c01
  have dc:=Bv ab
  have bl:(zs.map digC).length+1<=1048576:=by simp; omega
  by_cases hlt:i<(dig a).length
  ·have d2:decide ((i:Int)<((dig a).length:Int))=true:=by simpa using hlt
   obtain ⟨x,hx⟩:=Ag hlt
   have hx':=Ga hx
   have hxk:=E2 (B4 a) hx
   have hw1:IntKind.i64.wrap (x+c)=x+c:=Ad (by unfold i64; omega)
   have ml:¬ ((10000:Int)=0):=by omega
   by_cases hm:i<(dig b).length
   ·have d3:decide ((i:Int)<((dig b).length:Int))=true:=by simpa using hm
    obtain ⟨y,hy⟩:=Ag hm
    have qu:=Ga hy
    have hyk:=E2 (B4 b) hy
    have hw2:IntKind.i64.wrap (x+c+y)=x+c+y:=Ad (by unfold i64; omega)
    have zc:IntKind.i64.wrap ((x+c+y).tdiv 10000)=(x+c+y).tdiv 10000:=by
     rw [Int.tdiv_eq_ediv_of_nonneg (by omega)]; exact Ad (by unfold i64; omega)
    simp (maxSteps:=10^6)+contextual(disch:=try exact dqd)only[ev0,simprocAttr,AV.int,AV.bool,AV.str,results206,e1,e5,e6,e20,e21,e22,digA,d2,d3,hx',qu,jf,hw1,hw2,zc,ml,hr]
    exact IH (i+1,zs++[(x+c+y).tmod 10000],(x+c+y).tdiv 10000,Bb tk' cp 1) _ (by first|omega|(simp only; omega)) ⟨rfl,by first|omega|(dsimp only; omega),hI.step hx (by rw [hy]; rfl) hxk hyk rfl,dc,(by first|rfl|simp only [getT,List.map_append,List.map_cons,List.map_nil,digC,digA]),(by first|rfl|simp only [getT,List.map_append,List.map_cons,List.map_nil,digC,digA]),(by first|rfl|simp only [getT,List.map_append,List.map_cons,List.map_nil,digC,digA]),(by first|rfl|simp only [getT,List.map_append,List.map_cons,List.map_nil,digC,digA]),(by first|rfl|simp only [getT,List.map_append,List.map_cons,List.map_nil,digC,digA]),(by first|rfl|simp only [getT,List.map_append,List.map_cons,List.map_nil,digC,digA]),(by first|rfl|simp only [getT,List.map_append,List.map_cons,List.map_nil,digC,digA])⟩
   ·have d3:decide ((i:Int)<((dig b).length:Int))=false:=by simpa using hm
    have zc:IntKind.i64.wrap ((x+c).tdiv 10000)=(x+c).tdiv 10000:=by
     rw [Int.tdiv_eq_ediv_of_nonneg (by omega)]; exact Ad (by unfold i64; omega)
    simp (maxSteps:=10^6)+contextual(disch:=try exact dqd)only[ev0,simprocAttr,AV.int,AV.bool,AV.str,results206,e1,e5,e6,e20,e21,e22,digA,d2,d3,hx',jf,hw1,zc,ml,hr]
    exact IH (i+1,zs++[(x+c).tmod 10000],(x+c).tdiv 10000,Bb tk' cp 1) _ (by first|omega|(simp only; omega)) ⟨rfl,by first|omega|(dsimp only; omega),hI.step (y:=0) hx (by rw [Ae,List.getElem?_eq_none (by first|omega|(dsimp only; omega))]; rfl) hxk (by first|omega|(dsimp only; omega)) (by first|omega|(dsimp only; omega)),dc,(by first|rfl|simp only [getT,List.map_append,List.map_cons,List.map_nil,digC,digA]),(by first|rfl|simp only [getT,List.map_append,List.map_cons,List.map_nil,digC,digA]),(by first|rfl|simp only [getT,List.map_append,List.map_cons,List.map_nil,digC,digA]),(by first|rfl|simp only [getT,List.map_append,List.map_cons,List.map_nil,digC,digA]),(by first|rfl|simp only [getT,List.map_append,List.map_cons,List.map_nil,digC,digA]),(by first|rfl|simp only [getT,List.map_append,List.map_cons,List.map_nil,digC,digA]),(by first|rfl|simp only [getT,List.map_append,List.map_cons,List.map_nil,digC,digA])⟩
  ·have d2:decide ((i:Int)<((dig a).length:Int))=false:=by simpa using hlt
   have ko:i=(dig a).length:=by omega
   subst ko
   have hT:=fun c' S tk k=>Uw S tk k (zs++[c]) c' (by simp; omega)
   rw [hI.done hle] at hT
   simp only [List.map_append,List.map_cons,List.map_nil,digC,digA] at hT
   simp (maxSteps:=10^6)+contextual(disch:=try exact dqd)only[ev0,simprocAttr,AV.int,AV.bool,AV.str,results206,e1,e5,e6,e20,e21,e22,digA,d2,hr,hT]
end
end
section
open Go Tryz
section
variable (S:List Ent) (tk:List Nat) (k:Nat)
set_option maxRecDepth 100000 in
theorem Ab3 (a b:Nat) (hab:b<=a) (ha:(dig a).length<=100000):cL prog 178 [digA (dig a),digA (dig b)] S tk k=some (digA (dig (a - b)),S,tk,k):=by
 have hlb:(dig b).length<=(dig a).length:=Bo.2 (Nat.lt_of_le_of_lt hab (Bo.1 (Nat.le_refl _)))
 have hbo:(A8 prog 37).bind (bytesOf prog)=some 8:=by kernel_rfl
 have kv:=Yt (P:=prog) (t:=37) (n:=(dig a).length) (by simp only [tys,Option.bind_some]) (by simp only [tys,Option.bind_some]) hbo (by omega)
 refine opP func178 ntmps178 ?_
 simp (maxSteps:=10^6)+contextual(disch:=try exact dqd)only[ev0,simprocAttr,AV.int,AV.bool,AV.str,results178,digA,kv,↓Ae1]
 refine loop1 (P:=prog) (fun x st=>st.T.length=43/\(x.1<=(dig a).length)/\(Pg (dig a) (dig b) x.1 x.2.1 x.2.2.1)/\(Be st.tk x.2.2.2 1=true)/\getT st.T 1=digA (dig b)/\getT st.T 5=.frz (x.2.1.map digC) x.2.2.2/\getT st.T 6=.int x.2.2.1/\getT st.T 12=digA (dig a)/\getT st.T 13=.int (dig a).length/\getT st.T 14=.int (x.1:Nat)/\st.S=[]) (fun x=>(dig a).length - x.1) (fun x=>digA (dig (a - b))) (0,[],0,.tok 0 0 1) ?_ ?_
 case refine_2=>exact ⟨rfl,Nat.zero_le _,Pg.start _ _,rfl,rfl,rfl,rfl,rfl,rfl,rfl,rfl⟩
 rintro ⟨i,zs,c,cp⟩ ⟨T,S',tk',n'⟩ ⟨hl,hi,hI,ab,e1,e5,e6,e12,e13,e14,eS⟩ IH
 simp only at hi hI ab e1 e5 e6 e12 e13 e14 eS
 subst eS
 obtain ⟨g,hg,hT⟩:=Av hl
 rw [hg] at e1 e5 e6 e12 e13 e14
 subst hT
 clear hg hl
 have jf:=B9 (i:=i) (by omega)
 have hzl:=hI.len
 have hr:=Gv zs
 have hc:=hI.c01
 have dc:=Bv ab
 have bl:(zs.map digC).length+1<=1048576:=by simp; omega
 by_cases hlt:i<(dig a).length
 ·have d2:decide ((i:Int)<((dig a).length:Int))=true:=by simpa using hlt
  obtain ⟨x,hx⟩:=Ag hlt
  have hx':=Ga hx
  have hxk:=E2 (B4 a) hx
  have hw1:IntKind.i64.wrap (x - c)=x - c:=Ad (by unfold i64; omega)
  by_cases hm:i<(dig b).length
  ·have d3:decide ((i:Int)<((dig b).length:Int))=true:=by simpa using hm
   obtain ⟨y,hy⟩:=Ag hm
   have qu:=Ga hy
   have hyk:=E2 (B4 b) hy
   have hyg:y=(nth (dig b) i).getD 0:=by rw [hy]; rfl
   have hw2:IntKind.i64.wrap (x - c - y)=x - c - y:=Ad (by unfold i64; omega)
   by_cases hneg:x - c - y<0
   ·have d4:decide (x - c - y<0)=true:=by simpa using hneg
    have hw3:IntKind.i64.wrap (x - c - y+10000)=x - c - y+10000:=Ad (by unfold i64; omega)
    simp (maxSteps:=10^6)+contextual(disch:=try exact dqd)only[ev0,simprocAttr,AV.int,AV.bool,AV.str,results178,e1,e5,e6,e12,e13,e14,digA,d2,d3,d4,hx',qu,jf,hw1,hw2,hw3,hr]
    exact IH (i+1,zs++[x - c - y+10000],1,Bb tk' cp 1) _ (by first|omega|(simp only; omega)) ⟨rfl,by first|omega|(dsimp only; omega),hI.step hx hyg (by first|omega|(dsimp only; omega)) (.inr rfl) (by first|omega|(dsimp only; omega)),dc,(by first|rfl|simp only [getT,List.map_append,List.map_cons,List.map_nil,digC,digA]),(by first|rfl|simp only [getT,List.map_append,List.map_cons,List.map_nil,digC,digA]),(by first|rfl|simp only [getT,List.map_append,List.map_cons,List.map_nil,digC,digA]),(by first|rfl|simp only [getT,List.map_append,List.map_cons,List.map_nil,digC,digA]),(by first|rfl|simp only [getT,List.map_append,List.map_cons,List.map_nil,digC,digA]),(by first|rfl|simp only [getT,List.map_append,List.map_cons,List.map_nil,digC,digA]),(by first|rfl|simp only [getT,List.map_append,List.map_cons,List.map_nil,digC,digA])⟩
   ·have d4:decide (x - c - y<0)=false:=by simpa using hneg
    simp (maxSteps:=10^6)+contextual(disch:=try exact dqd)only[ev0,simprocAttr,AV.int,AV.bool,AV.str,results178,e1,e5,e6,e12,e13,e14,digA,d2,d3,d4,hx',qu,jf,hw1,hw2,hr]
    exact IH (i+1,zs++[x - c - y],0,Bb tk' cp 1) _ (by first|omega|(simp only; omega)) ⟨rfl,by first|omega|(dsimp only; omega),hI.step hx hyg (by first|omega|(dsimp only; omega)) (.inl rfl) (by first|omega|(dsimp only; omega)),dc,(by first|rfl|simp only [getT,List.map_append,List.map_cons,List.map_nil,digC,digA]),(by first|rfl|simp only [getT,List.map_append,List.map_cons,List.map_nil,digC,digA]),(by first|rfl|simp only [getT,List.map_append,List.map_cons,List.map_nil,digC,digA]),(by first|rfl|simp only [getT,List.map_append,List.map_cons,List.map_nil,digC,digA]),(by first|rfl|simp only [getT,List.map_append,List.map_cons,List.map_nil,digC,digA]),(by first|rfl|simp only [getT,List.map_append,List.map_cons,List.map_nil,digC,digA]),(by first|rfl|simp only [getT,List.map_append,List.map_cons,List.map_nil,digC,digA])⟩
  ·have d3:decide ((i:Int)<((dig b).length:Int))=false:=by simpa using hm
   have hyg:(0:Int)=(nth (dig b) i).getD 0:=by rw [Ae,List.getElem?_eq_none (by omega)]; rfl
   by_cases hneg:x - c<0
   ·have d4:decide (x - c<0)=true:=by simpa using hneg
    have hw3:IntKind.i64.wrap (x - c+10000)=x - c+10000:=Ad (by unfold i64; omega)
    simp (maxSteps:=10^6)+contextual(disch:=try exact dqd)only[ev0,simprocAttr,AV.int,AV.bool,AV.str,results178,e1,e5,e6,e12,e13,e14,digA,d2,d3,d4,hx',jf,hw1,hw3,hr]
    exact IH (i+1,zs++[x - c+10000],1,Bb tk' cp 1) _ (by first|omega|(simp only; omega)) ⟨rfl,by first|omega|(dsimp only; omega),hI.step hx hyg (by first|omega|(dsimp only; omega)) (.inr rfl) (by first|omega|(dsimp only; omega)),dc,(by first|rfl|simp only [getT,List.map_append,List.map_cons,List.map_nil,digC,digA]),(by first|rfl|simp only [getT,List.map_append,List.map_cons,List.map_nil,digC,digA]),(by first|rfl|simp only [getT,List.map_append,List.map_cons,List.map_nil,digC,digA]),(by first|rfl|simp only [getT,List.map_append,List.map_cons,List.map_nil,digC,digA]),(by first|rfl|simp only [getT,List.map_append,List.map_cons,List.map_nil,digC,digA]),(by first|rfl|simp only [getT,List.map_append,List.map_cons,List.map_nil,digC,digA]),(by first|rfl|simp only [getT,List.map_append,List.map_cons,List.map_nil,digC,digA])⟩
   ·have d4:decide (x - c<0)=false:=by simpa using hneg
    simp (maxSteps:=10^6)+contextual(disch:=try exact dqd)only[ev0,simprocAttr,AV.int,AV.bool,AV.str,results178,e1,e5,e6,e12,e13,e14,digA,d2,d3,d4,hx',jf,hw1,hr]
    exact IH (i+1,zs++[x - c],0,Bb tk' cp 1) _ (by first|omega|(simp only; omega)) ⟨rfl,by first|omega|(dsimp only; omega),hI.step hx hyg (by first|omega|(dsimp only; omega)) (.inl rfl) (by first|omega|(dsimp only; omega)),dc,(by first|rfl|simp only [getT,List.map_append,List.map_cons,List.map_nil,digC,digA]),(by first|rfl|simp only [getT,List.map_append,List.map_cons,List.map_nil,digC,digA]),(by first|rfl|simp only [getT,List.map_append,List.map_cons,List.map_nil,digC,digA]),(by first|rfl|simp only [getT,List.map_append,List.map_cons,List.map_nil,digC,digA]),(by first|rfl|simp only [getT,List.map_append,List.map_cons,List.map_nil,digC,digA]),(by first|rfl|simp only [getT,List.map_append,List.map_cons,List.map_nil,digC,digA]),(by first|rfl|simp only [getT,List.map_append,List.map_cons,List.map_nil,digC,digA])⟩
 ·have d2:decide ((i:Int)<((dig a).length:Int))=false:=by simpa using hlt
  have ko:i=(dig a).length:=by omega
  subst ko
  have hT:=fun c' S tk k=>Uw S tk k zs c' (by omega)
  rw [hI.done hab] at hT
  simp only [digC,digA] at hT
  simp (maxSteps:=10^6)+contextual(disch:=try exact dqd)only[ev0,simprocAttr,AV.int,AV.bool,AV.str,results178,e1,e5,e6,e12,e13,e14,digA,d2,hT]
theorem Ni (a b:Nat) (ha:a<=1000000000000000000) (hb:b<=1000000000000000000):cL prog 172 [.int (a:Nat),.int (b:Nat)] S tk k=some (.int ((a.gcd b:Nat):Int),S,tk,k):=by
 refine opP func172 ntmps172 ?_
 simp (maxSteps:=10^6)+contextual(disch:=try exact dqd)only[ev0,simprocAttr,AV.int,AV.bool,AV.str,results172]
 refine loop1 (P:=prog) (fun x st=>st.T.length=12/\(x.1.gcd x.2=a.gcd b)/\(x.1<=1000000000000000000)/\(x.2<=1000000000000000000)/\getT st.T 0=.int (x.1:Nat)/\getT st.T 1=.int (x.2:Nat)/\st.S=[]) (fun x=>x.2) (fun x=>.int ((a.gcd b:Nat):Int)) (a,b) ?_ ?_
 case refine_2=>exact ⟨rfl,rfl,ha,hb,rfl,rfl,rfl⟩
 rintro ⟨x,y⟩ ⟨T,S',tk',n'⟩ ⟨hl,hg,hx,hy,e0,e1,eS⟩ IH
 simp only at hg hx hy e0 e1 eS
 subst eS
 obtain ⟨g,hg,hT⟩:=Av hl
 rw [hg] at e0 e1
 subst hT
 clear hg hl
 by_cases h0:y=0
 ·subst h0
  have d1:(((0:Nat):Int) != 0)=false:=rfl
  rw [Nat.gcd_zero_right] at hg
  simp (maxSteps:=10^6)+contextual(disch:=try exact dqd)only[ev0,simprocAttr,AV.int,AV.bool,AV.str,results172,e0,e1,d1]
  rw [hg]
 ·have d1:((y:Int) != 0)=true:=by simpa using h0
  have ml:¬ ((y:Int)=0):=by omega
  have hm:(x:Int).tmod (y:Int)=((x % y:Nat):Int):=by rw [Int.tmod_eq_emod_of_nonneg (by omega)]; rfl
  simp (maxSteps:=10^6)+contextual(disch:=try exact dqd)only[ev0,simprocAttr,AV.int,AV.bool,AV.str,results172,e0,e1,d1,ml,hm]
  have hlt:=Nat.mod_lt x (by omega:0<y)
  exact IH (y,x % y) _ (by first|omega|(simp only; omega)) ⟨rfl,by rw [<- hg,Nat.gcd_comm x y]; exact (Nat.gcd_rec y x).symm ▸ Nat.gcd_comm y (x % y),hy,by first|omega|(dsimp only; omega),(by first|rfl|simp only [getT,List.map_append,List.map_cons,List.map_nil,digC,digA]),(by first|rfl|simp only [getT,List.map_append,List.map_cons,List.map_nil,digC,digA]),(by first|rfl|simp only [getT,List.map_append,List.map_cons,List.map_nil,digC,digA])⟩
end
end
end Go.Proofs.YtcjffhadclngmaaGreat
