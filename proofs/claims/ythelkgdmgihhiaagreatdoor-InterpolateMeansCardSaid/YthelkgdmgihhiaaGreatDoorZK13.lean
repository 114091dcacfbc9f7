/- Part 13. -/
import Derived.Test.YthelkgdmgihhiaaGreatDoorZK12
import Derived.Lib.LazyBuf
namespace Go.Proofs.YthelkgdmgihhiaaGreatDoor
section
open Go Tryz Go.RowKit
def layA:Array Value->Nat->List Value->Array Value
 | arr,_,[]=>arr
 | arr,o,v :: vs=>layA (arr.setIfInBounds o v) (o+1) vs
theorem Er:∀ (vs:List Value) (arr:Array Value) (o:Nat),(layA arr o vs).size=arr.size
 | [],_,_=>rfl
 | v :: vs,arr,o=>by rw [layA,Er vs]; simp
theorem Hr:∀ (vs:List Value) (arr:Array Value) (o:Nat),o+vs.length<=arr.size->(layA arr o vs).toList=arr.toList.take o++vs++arr.toList.drop (o+vs.length)
 | [],arr,o,_=>by simp [layA]
 | v :: vs,arr,o,h=>by
  simp only [List.length_cons] at h
  rw [layA,Hr vs _ _ (by simp; omega),Array.toList_setIfInBounds]
  have h1:(arr.toList.set o v).take (o+1)=arr.toList.take o++[v]:=by
   rw [List.take_set,List.take_add_one,List.set_append_right _ _ (by simp; omega)]
   have:o - (arr.toList.take o).length=0:=by simp; omega
   rw [this]
   have h2:o<arr.toList.length:=by simp; omega
   rw [List.getElem?_eq_getElem h2]; rfl
  have h2:(arr.toList.set o v).drop (o+1+vs.length)=arr.toList.drop (o+1+vs.length):=by
   rw [List.drop_set]; rw [if_pos (by omega)]
  rw [h1,h2,List.length_cons,show o+(vs.length+1)=o+1+vs.length by omega]
  simp
theorem B6 {b:Nat} {t:TypeId} {fz:Nat × Nat} : ∀ (vs:List Value) (o:Nat) (w:World) (arr:Array Value),w.heap[b]?=some (.cells arr t fz)->(w.setCells b o vs).heap[b]?=some (.cells (layA arr o vs) t fz)
 | [],_,_,_,h=>h
 | v :: vs,o,w,arr,h=>by
  refine B6 vs (o+1) (w.setCell ⟨b,o,none⟩ v) (arr.setIfInBounds o v) ?_
  unfold World.setCell
  simp only
  rw [Array.getElem?_modify,if_pos rfl,h]
  rfl
theorem Dx {B b:Nat} {a:World} (hb:B<=b):∀ (vs:List Value) (o:Nat) (w:World),Below B a w->Below B a (w.setCells b o vs)
 | [],_,_,h=>h
 | v :: vs,o,w,h=>Dx hb vs (o+1) _ (h.trans ⟨rfl,rfl,rfl,by simp [World.setCell],fun j hj=>by
   unfold World.setCell
   simp only
   rw [Array.getElem?_modify,if_neg (by omega)]⟩)
theorem X4 {w:World} {base g cap:Nat} {cur:Array Value} {zs:List Int} (hg:base<=g) (h:w.heap[g]?=some (.cells cur 3 (0,0))) (hn:zs.length<=cap) (hm:cap<=maxLen) (hs:cur.size=cap) (ht:cur.toList.take zs.length=zs.map num):OR w base (.slice (some ⟨g,0,none⟩) zs.length cap) zs :=
 ⟨by simp,.inr ⟨g,cap,cur,rfl,hg,h,hn,hm,by omega,by rw [Nat.mul_one]; exact ht⟩⟩
theorem W0 (base:Nat) (w:World) (v:Value) (zs:List Int) (x:Int) (vb:Nat) (hO:OR w base v zs) (hbase:base<=w.heap.size) (l9:w.heap[vb]?=some (.cells #[num x] 3 (0,0))) (hne:∀ g n c,v=.slice (some ⟨g,0,none⟩) n c->g≠vb) (hlen:zs.length<=1000000) :
  Calls prog 279 #[v,.int .i64 0,.slice (some ⟨vb,0,none⟩) 1 1] w fun e w'=>∃ v',e=.returned v'/\OR w' base v' (x :: zs)/\Below base w w':=by
 have fo:∀ (j:Nat) u,[num x][j]?=some u->w.cell? ⟨vb,0+j,none⟩=some u:=by
  intro j u hj
  cases j with
  | zero =>
   simp only [List.getElem?_cons_zero,Option.some.injEq] at hj
   subst hj
   rw [Lib.cell_of_heap l9]; rfl
  | succ j=>simp at hj
 have ld:∀ u ∈ [num x],u.oneCell'=true:=fun u hu=>by
  have:u=num x:=by simpa using hu
  subst this; rfl
 have pf:∀ u ∈ zs.map num,u.oneCell'=true:=fun u hu=>by
  obtain ⟨y,-,rfl⟩:=List.mem_map.1 hu
  rfl
 have ii:(1000001:Nat)<=maxLen:=by unfold maxLen; omega
 have n7:Tryz.laysIns_ren.t 3=3:=rfl
 have ju:(Value.int .i64 0).cells.size=1:=rfl
 rcases hO.2 with ⟨rfl,h0⟩|⟨g,cap,cur,rfl,k1,k2,k3,k4,k5,k6⟩
 ·-- nil
  have hz:zs=[]:=List.eq_nil_of_length_eq_zero h0
  subst hz
  refine (Any2.slices_Insert_int_end_grow Tryz.laysIns none 0 0 vb 0 1 1 [] [num x] w (by omega) (by omega) (by omega) (by omega) rfl rfl (fun _=>rfl) (fun _ h=>by cases h) fo ld).mono ?_
  rintro e w' ⟨rfl,rfl⟩
  have dk:=grownCap_ge w 1 0 3
  refine ⟨_,rfl,X4 (zs:=[x]) hbase (Aa w.drew _) dk (grownCap_le_maxLen w 1 0 _ (by omega)) ?_ ?_,((Below.refl _ _).drew).alloc hbase _⟩
  ·rw [n7]; simp [size_zeroCells,ju]; omega
  ·simp
 ·have hM:cap<=9223372036854775807:=by unfold maxLen at k4; omega
  have q8:g≠vb:=hne g _ cap rfl
  have hcl:(zs.map num).length=zs.length:=by simp
  have j4:cur.size=cap:=by omega
  have cw:∀ (j:Nat) u,(zs.map num)[j]?=some u->w.cell? ⟨g,0+j,none⟩=some u:=by
   intro j u hj
   rw [Nat.mul_one] at k6
   have ia:j<zs.length:=by
    have:=(List.getElem?_eq_some_iff.1 hj).1
    simpa using this
   rw [<- k6,List.getElem?_take,if_pos ia] at hj
   rw [Lib.cell_of_heap k2,Nat.zero_add]
   simpa using hj
  have f7:∀ j,j<cap->(w.cell? ⟨g,0+j,none⟩).isSome=true:=fun j hj=>by
   rw [Lib.cell_of_heap k2,Nat.zero_add]
   rw [Array.getElem?_eq_getElem (show j<cur.size by omega)]; rfl
  have oa:∀ j,w.frozen? ⟨g,0+j,none⟩=false:=fun j=>by
   simp [World.frozen?,k2]
  by_cases hz:zs=[]
  ·subst hz
   by_cases hc:cap=0
   ·subst hc
    refine (Any2.slices_Insert_int_end_grow Tryz.laysIns (some ⟨g,0,none⟩) 0 0 vb 0 1 1 [] [num x] w (by omega) (by omega) (by omega) (by omega) rfl rfl (fun _=>rfl) (fun _ _ j u h=>by simp at h) fo ld).mono ?_
    rintro e w' ⟨rfl,rfl⟩
    have dk:=grownCap_ge w 1 0 3
    refine ⟨_,rfl,X4 (zs:=[x]) hbase (Aa w.drew _) dk (grownCap_le_maxLen w 1 0 _ (by omega)) ?_ ?_,((Below.refl _ _).drew).alloc hbase _⟩
    ·rw [n7]; simp [size_zeroCells,ju]; omega
    ·simp
   ·refine (Any2.slices_Insert_int_end_room Tryz.laysIns g 0 0 cap vb 0 1 1 [num x] w (by omega) (by omega) hM rfl (fun j hj=>by simpa using f7 j (by omega)) (fun j hj=>by simpa using oa j) fo ld).mono ?_
    rintro e w' ⟨rfl,rfl⟩
    refine ⟨_,rfl,X4 (zs:=[x]) (cur:=layA cur 0 [num x]) k1 (B6 _ _ _ _ k2) (by simp; omega) k4 (by rw [Er]; exact j4) ?_,Dx k1 _ _ _ (Below.refl _ _)⟩
    rw [Hr _ _ _ (by simp; omega)]
    simp
  ·have hpos:0<zs.length:=List.length_pos_iff.2 hz
   by_cases ak:zs.length+1<=cap
   ·refine (Any2.slices_Insert_int_shift Tryz.laysIns g 0 zs.length cap 0 vb 0 1 1 (zs.map num) [num x] w hpos (by omega) ak hM (fun h=>q8 h.symm) hcl rfl cw (fun j hj=>f7 j (by omega)) (fun j _=>oa j) fo pf ld 3 3 1 cap ?_ ?_ (by omega) ?_ ?_).mono ?_
    ·simp [World.shape?,l9]
    ·simp [World.shape?,k2,j4]
    ·simp [World.frozen?,l9]
    ·simp [World.frozen?,l9]
    rintro e w' ⟨rfl,rfl⟩
    have iz:w.drew.heap[g]?=some (.cells cur 3 (0,0)):=k2
    have hA:=B6 ((zs.map num).drop 0) (0+(0+1)) w.drew cur iz
    have hB:=B6 [num x] (0+0) _ _ hA
    have fu:(zs.map num).length=zs.length:=by simp
    refine ⟨_,rfl,X4 (zs:=x :: zs) k1 hB (by simpa using ak) k4 (by rw [Er,Er]; exact j4) ?_,Dx k1 _ _ _ (Dx k1 _ _ _ ((Below.refl _ _).drew))⟩
    rw [Hr _ _ _ (by rw [Er]; simp; omega),Hr _ _ _ (by simp; omega)]
    have hl1:(cur.toList.take (0+(0+1))).length=1:=by simp; omega
    simp only [List.take_zero,List.nil_append,List.drop_zero,Nat.zero_add,List.length_singleton,List.map_cons,List.length_cons,List.singleton_append,List.take_succ_cons] at hl1 ⊢
    rw [List.append_assoc,List.drop_append,List.drop_of_length_le (by omega),List.nil_append,hl1]
    simp only [List.length_nil,Nat.zero_add,Nat.sub_self,List.drop_zero]
    rw [List.take_append,List.take_of_length_le (by omega),fu,Nat.sub_self,List.take_zero,List.append_nil]
   ·refine (Any2.slices_Insert_int_grow Tryz.laysIns g 0 zs.length cap 0 vb 0 1 1 (zs.map num) [num x] w hpos (by omega) k3 (by omega) (by omega) hcl rfl cw fo pf ld).mono ?_
    rintro e w' ⟨rfl,rfl⟩
    rw [n7]
    have dk:=grownCap_ge w (zs.length+1) cap 3
    obtain ⟨arr,bh⟩:∃ arr:Array Value,((zs.map num).take 0).toArray++Builtin.zeroCells (Value.int .i64 0).cells (zs.length+1 - 0)++Builtin.zeroCells (Value.int .i64 0).cells (grownCap w (zs.length+1) cap 3 - (zs.length+1))=arr:=⟨_,rfl⟩
    rw [bh]
    have hsz:arr.size=grownCap w (zs.length+1) cap 3:=by
     rw [<- bh]; simp [size_zeroCells,ju]; omega
    have h0:(w.alloc (.cells arr 3)).drew.heap[w.heap.size]?=some (.cells arr 3 (0,0)):=Aa w _
    have hA:=B6 [num x] 0 _ _ h0
    have hB:=B6 ((zs.map num).drop 0) (0+1) (((w.alloc (.cells arr 3)).drew.setCells w.heap.size 0 [num x]).drew) _ hA
    have fu:(zs.map num).length=zs.length:=by simp
    refine ⟨_,rfl,X4 (zs:=x :: zs) hbase hB (by simpa using dk) (grownCap_le_maxLen w _ _ _ (by omega)) (by rw [Er,Er]; exact hsz) ?_,Dx hbase _ _ _ (Below.drew (Dx hbase _ _ _ (((Below.refl _ _).alloc hbase _).drew)))⟩
    rw [Hr _ _ _ (by rw [Er,hsz]; simp; omega),Hr _ _ _ (by rw [hsz]; simp; omega)]
    simp only [List.take_zero,List.nil_append,List.drop_zero,Nat.zero_add,List.length_singleton,List.map_cons,List.length_cons,List.singleton_append,List.take_succ_cons,List.cons_append]
    rw [List.take_append,List.take_of_length_le (by omega),fu,Nat.sub_self,List.take_zero,List.append_nil]
theorem R6 {w:World} {v1 v2:Value} {a b:Nat} (ht:Tab0 w) (h1:RD w v1 (dig a)) (h2:RD w v2 (dig b)) (ha:(dig a).length<=1000000) (hb:(dig b).length<=1000000) :
  Calls prog 277 #[v1,v2] w fun e w'=>e=.returned (.int .i64 (cmpN a b))/\Below w.heap.size w w':=by
 refine (call0 (fun S tk k=>Aaf S tk k a b ha hb) ht (by simp only [VRs]; exact ⟨h1,h2,trivial⟩)).mono ?_
 rintro e w' ⟨v,rfl,hb,hv⟩
 simp only [VR] at hv
 rw [hv]
 exact ⟨rfl,hb⟩
theorem V5 {w:World} {v1 v2:Value} {a b:Nat} (ht:Tab0 w) (h1:RD w v1 (dig a)) (h2:RD w v2 (dig b)) (ha:(dig a).length<=100000) (hb:(dig b).length<=100000) :
  Calls prog 280 #[v1,v2] w fun e w'=>∃ v,e=.returned v/\Below w.heap.size w w'/\RD w' v (dig (a*b)) :=
 call0 (fun S tk k=>Up S tk k a b ha hb) ht (by simp only [VRs]; exact ⟨h1,h2,trivial⟩)
theorem Wh {w:World} {base:Nat} {v:Value} {zs:List Int} (hO:OR w base v zs) (hb:0<base) (hl:zs.length<=1000000) :
  Calls prog 278 #[v] w fun e w'=>∃ v',e=.returned v'/\w'=w/\OR w base v' (Bo zs):=by
 obtain ⟨av,cv,rfl,hcv,hcells⟩:=Hk (hO.rd hb)
 refine (Qj w av cv zs hl hcv fun j x hx=>?_).mono ?_
 ·obtain ⟨b',o',h1,h2,-⟩:=hcells j x hx
  exact ⟨b',o',h1,h2⟩
 ·rintro e w' ⟨rfl,rfl⟩
  exact ⟨_,rfl,rfl,hO.trim⟩
theorem OR.weaken {w:World} {base base':Nat} {v:Value} {zs:List Int} (h:OR w base v zs) (hb:base'<=base):OR w base' v zs:=by
 refine ⟨h.1,?_⟩
 rcases h.2 with h0|⟨g,cap,cur,rfl,h1,h2,h3⟩
 ·exact .inl h0
 ·exact .inr ⟨g,cap,cur,rfl,by omega,h2,h3⟩
theorem Afl (w:World) (base:Nat):OR w base (.slice none 0 0) []:=⟨rfl,.inl ⟨rfl,rfl⟩⟩
theorem Adb {w:World} {d:Int} (h0:0<w.heap.size):RD (w.alloc (.cells #[num d] 3)) (.slice (some ⟨w.heap.size,0,none⟩) 1 1) [d]:=by
 refine Ady (zs:=[d]) trivial (Nat.le_refl _) fun j x hx=>?_
 cases j with
 | zero =>
  simp only [nth,Option.some.injEq] at hx
  subst hx
  rw [Lib.cell_of_heap (Aa w _)]; rfl
 | succ j=>simp [nth] at hx
theorem makeN {w:World} {N:Nat} (hN:N<=1000000) {ops:Array Oper} {rest:List Oper} {op:Oper} {a:Act} {Q:Exit->Act->World->Prop} {l c:Operand} (hgd:op.guard=none) (hop:op.op=.makeSlice 69 l c) (hl:a.eval l=.int .i64 (N:Nat)) (hc:a.eval c=.int .i64 (N:Nat))
  (h:∀ w',w'.heap[w.heap.size]?=some (.cells ((List.replicate N (0:Int)).map num).toArray 3 (0,0))->Below w.heap.size w w'->wpList prog ops Q rest (a.put op.dst (.slice (some ⟨w.heap.size,0,none⟩) N N)) w'):wpList prog ops Q (op :: rest) a w:=by
 obtain ⟨i0,hi,hz0,hz1,hz2⟩:=info_parts Zp
 refine wpList_make_row (P:=prog) w hgd l c 69 hop 3 i0 (.int .i64 0) underlying69 hi hz0 hz1 rfl .i64 .i64 N hl hc (by rw [hz2]; omega) (by omega) ?_
 have e:madeCells #[num 0] N=((List.replicate N (0:Int)).map num).toArray:=by
  apply Array.ext
  ·simp [madeCells]
  ·intro i h1 h2
   simp [madeCells,Nat.mod_one]
 rw [e]
 exact h _ (Aa w _) ((Below.refl _ _).alloc (Nat.le_refl _) _)
def topV (A:List Int) (k:Nat):Nat:=(val (A.drop k)).toNat
structure QI (A:List Int) (b k R:Nat) (qs:List Int):Prop where
 len:qs.length=A.length
 ok:okD qs
 zero:∀ j x,j<k->nth qs j=some x->x=0
 rest:R=topV A k % b
 eqv:val qs=10000 ^ k*(topV A k / b:Nat)
theorem QI.start (A:List Int) (b:Nat):QI A b A.length 0 (List.replicate A.length 0):=by
 have h0:topV A A.length=0:=by unfold topV; rw [List.drop_length]; rfl
 have hz:∀ (n j:Nat) (x:Int),nth (List.replicate n (0:Int)) j=some x->x=0:=fun n j x h=>by
  rw [Ab] at h
  exact (List.mem_replicate.1 (List.mem_of_getElem? h)).2
 refine ⟨by simp,R5 fun j x hx=>by rw [hz _ _ _ hx]; omega,fun j x _ hx=>hz _ _ _ hx,by rw [h0]; simp,?_⟩
 rw [Gu,h0]; simp
theorem Aa1 {A:List Int} (hA:okD A) {k:Nat} {x:Int} (hx:nth A k=some x):topV A k=x.toNat+10000*topV A (k+1):=by
 unfold topV
 rw [Al hx,val]
 have h1:=G1 hA hx
 have h2:=Hy (l:=A.drop (k+1)) fun d hd=>hA d (List.mem_of_mem_drop hd)
 omega
theorem QI.step {A:List Int} {b k R:Nat} {qs:List Int} {x:Int} (hA:okD A) (hb:0<b) (h:QI A b (k+1) R qs) (hx:nth A k=some x) :
  (x.toNat+10000*R) / b<10000/\topV A k / b=10000*(topV A (k+1) / b)+(x.toNat+10000*R) / b/\topV A k % b=(x.toNat+10000*R) % b:=by
 have hr:=h.rest
 have hxk:=G1 hA hx
 have ra:R<b:=by rw [hr]; exact Nat.mod_lt _ hb
 have rb:=Nat.div_add_mod (topV A (k+1)) b
 rw [<- hr] at rb
 have hs:=Aa1 hA hx
 have e:topV A k=(x.toNat+10000*R)+b*(10000*(topV A (k+1) / b)):=by
  rw [hs,Nat.mul_left_comm]; omega
 refine ⟨?_,?_,?_⟩
 ·rw [Nat.div_lt_iff_lt_mul hb]
  have:10000*(R+1)<=10000*b:=Nat.mul_le_mul_left _ ra
  omega
 ·rw [e,Nat.add_mul_div_left _ _ hb]; omega
 ·rw [e,Nat.add_mul_mod_self_left]
theorem QI.small {A:List Int} {b k R:Nat} {qs:List Int} {x:Int} (hA:okD A) (hb:0<b) (h:QI A b (k+1) R qs) (hx:nth A k=some x) (hlt:x.toNat+10000*R<b):QI A b k (x.toNat+10000*R) qs:=by
 obtain ⟨-,h2,h3⟩:=h.step hA hb hx
 rw [Nat.div_eq_of_lt hlt] at h2
 rw [Nat.mod_eq_of_lt hlt] at h3
 refine ⟨h.len,h.ok,fun j y hj hy=>h.zero j y (by omega) hy,h3.symm,?_⟩
 have e1:((10000*(topV A (k+1) / b)+0:Nat):Int)=10000*((topV A (k+1) / b:Nat):Int):=by omega
 rw [h.eqv,h2,Int.pow_succ,e1,Int.mul_assoc]
theorem QI.big {A:List Int} {b k R:Nat} {qs:List Int} {x:Int} (hA:okD A) (hb:0<b) (h:QI A b (k+1) R qs) (hx:nth A k=some x) {d:Nat} (hd:d=(x.toNat+10000*R) / b):QI A b k (x.toNat+10000*R - b*d) (qs.set k (d:Int)):=by
 obtain ⟨h1,h2,h3⟩:=h.step hA hb hx
 have hk:k<qs.length:=by rw [h.len]; exact A7 hx
 obtain ⟨y,hy⟩:=Af hk
 have rc:=h.zero k y (by omega) hy
 subst rc
 refine ⟨by rw [List.length_set]; exact h.len,Uh h.ok (by omega) (by omega),fun j y hj ob=>?_,?_,?_⟩
 ·rcases Dq ob with ⟨rfl,-⟩|⟨-,ob⟩
  ·omega
  ·exact h.zero j y (by omega) ob
 ·rw [h3,hd]
  have:=Nat.div_add_mod (x.toNat+10000*R) b
  omega
 ·rw [Gv hy,h.eqv,h2,Int.pow_succ,<- hd]
  have e1:((10000*(topV A (k+1) / b)+d:Nat):Int)=10000*(topV A (k+1) / b:Nat)+(d:Int):=by omega
  rw [e1,Int.mul_add,<- Int.mul_assoc,Int.sub_zero,Int.mul_comm (d:Int)]
theorem QI.done {a b R:Nat} {qs:List Int} (h:QI (dig a) b 0 R qs):Bo qs=dig (a / b)/\R=a % b:=by
 have ht:topV (dig a) 0=a:=by unfold topV; rw [List.drop_zero,Dr]; rfl
 have h1:=h.rest
 have h2:=h.eqv
 rw [ht] at h1 h2
 refine ⟨?_,h1⟩
 rw [D9 h.ok,h2,Int.pow_zero,Int.one_mul,Int.toNat_natCast]
theorem Xu {R:Nat} {x:Int} (hx:0<=x/\x<10000):Bo (x :: dig R)=dig (x.toNat+10000*R):=by
 rw [D9 (fun d hd=>by
  rcases List.mem_cons.1 hd with rfl|hd
  ·exact hx
  ·exact Dp R d hd)]
 congr 1
 simp only [val,Dr]; omega
theorem Ae9 {w:World} {g i:Nat} {qs:List Int} {d x:Int} (h:w.heap[g]?=some (.cells (qs.map num).toArray 3 (0,0))) (hi:nth qs i=some x) :
  (w.setCell ⟨g,i,none⟩ (num d)).heap[g]?=some (.cells ((qs.set i d).map num).toArray 3 (0,0)):=by
 unfold World.setCell
 simp only
 rw [Array.getElem?_modify,if_pos rfl,h]
 simp [List.map_set]
theorem Aam {w:World} {g i:Nat} {v:Value} : Below g w (w.setCell ⟨g,i,none⟩ v) :=
 Dx (Nat.le_refl _) [v] i w (Below.refl _ _)
theorem OR.set {w:World} {g i:Nat} {u v:Value} {zs:List Int} (h:OR w (g+1) v zs):OR (w.setCell ⟨g,i,none⟩ u) (g+1) v zs:=by
 refine ⟨h.1,?_⟩
 rcases h.2 with h0|⟨g',cap,cur,rfl,h1,h2,h3⟩
 ·exact .inl h0
 ·refine .inr ⟨g',cap,cur,rfl,h1,?_,h3⟩
  unfold World.setCell
  simp only
  rw [Array.getElem?_modify,if_neg (by omega)]
  exact h2
theorem Mt {w:World} {g:Nat} {qs:List Int} (h:w.heap[g]?=some (.cells (qs.map num).toArray 3 (0,0))) {j:Nat} {x:Int} (hx:nth qs j=some x):w.cell? ⟨g,0+j,none⟩=some (num x):=by
 rw [Ab] at hx
 rw [Lib.cell_of_heap h,Nat.zero_add,List.getElem?_toArray,List.getElem?_map,hx]; rfl
theorem Agp {w:World} {g cap:Nat} {qs:List Int} (h:w.heap[g]?=some (.cells (qs.map num).toArray 3 (0,0))) (_hg:True) (hc:qs.length<=cap):RD w (.slice (some ⟨g,0,none⟩) (Bo qs).length cap) (Bo qs):=by
 refine Ady trivial (Nat.le_trans (Qi qs) hc) fun j x hx=>Mt h ?_
 have hlt:=A7 hx
 rw [Et,Ab,List.getElem?_take_of_lt hlt,<- Ab] at hx
 exact hx
theorem Rd {T b:Nat} (h:T<10000*b):(dig T).length<=(dig b).length+1:=D5.2 (by
 have h1:=D5.1 (Nat.le_refl (dig b).length)
 rw [Nat.pow_succ,Nat.mul_comm (10000 ^ (dig b).length)]
 exact Nat.lt_of_lt_of_le h (Nat.mul_le_mul_left _ (Nat.le_of_lt h1)))
theorem Af6 (x y:Nat):cmpN x y<=0↔x<=y:=by
 unfold cmpN
 split
 ·constructor <;> omega
 ·split <;> constructor <;> omega
def NewB (base:Nat) (v:Value):Prop:=∀ b o n c,v=.slice (some ⟨b,o,none⟩) n c->base<=b
theorem OR.newB {w:World} {base base':Nat} {v:Value} {zs:List Int} (h:OR w base v zs) (hb:base'<=base):NewB base' v:=fun b _ _ _ e=>Nat.le_trans hb (h.lt b (by rw [e]; rfl)).1
theorem Xf {base g n c:Nat} (h:base<=g):NewB base (.slice (some ⟨g,0,none⟩) n c):=by
 intro b o n' c' e
 cases e
 exact h
set_option maxHeartbeats 8000000 in
set_option maxRecDepth 100000 in
theorem Ta (w:World) (va vb:Value) (a b:Nat) (ht:Tab0 w) (ha:RD w va (dig a)) (hb:RD w vb (dig b)) (hb0:0<b) (hla:(dig a).length<=90000) (hlb:(dig b).length<=90000) :
  Calls prog 272 #[va,vb] w fun e w'=>∃ v1 v2,e=.returned (.tuple #[v1,v2])/\RD w' v1 (dig (a / b))/\RD w' v2 (dig (a % b))/\Below w.heap.size w w'/\NewB w.heap.size v1/\(v2=va/\a % b=a\/NewB w.heap.size v2):=by
 have hO:=R6 ht ha hb (by omega) (by omega)
 have hRA:=ha
 obtain ⟨ax,cx,rfl,hcx,hX⟩:=Hk ha
 have HX:=Lib.hid hX
 have HKX:=Lib.hid (Dp a)
 have HRA:=Lib.hid hRA
 have HRB:=Lib.hid hb
 have HT:=Lib.hid ht
 have HD:=Lib.hid (fun (R:Nat) (qs:List Int) (h:QI (dig a) b 0 R qs)=>h.done)
 have HS:=Lib.hid (QI.start (dig a) b)
 clear hX ha hb hRA ht
 generalize hXX:dig a=X at *
 generalize hN:X.length=N at *
 have HO:=Lib.hid hO
 have HN:=Lib.hid (show N<=1000000 by omega)
 clear hO
 by_cases hab:a<b
 ·have hc:cmpN a b<0:=by simp [cmpN,hab]
  go_enter func272,ntmps272
  go_wp2_with (go_at_call 277; refine HO.out.mono ?_; rintro e w1 ⟨rfl,hb1⟩)
  go_ret2
  have e1:a / b=0:=Nat.div_eq_of_lt hab
  have e2:a % b=a:=Nat.mod_eq_of_lt hab
  rw [e1,e2,Gj]
  exact ⟨_,_,rfl,Ada _ _ _,by rw [hXX]; exact HRA.out.below hb1,hb1,fun b o n c h=>(by cases h),.inl ⟨rfl,rfl⟩⟩
 have hc:¬ cmpN a b<0:=by
  unfold cmpN
  rw [if_neg hab]; split <;> omega
 go_enter func272,ntmps272
 go_wp2_with (first
  | (go_at_call 277; refine HO.out.mono ?_; rintro e w1 ⟨rfl,hb1⟩; have HB1:=Lib.hid hb1; clear hb1)
  | (at_make; refine makeN HN.out rfl rfl rfl rfl ?_; intro w2 hq2 hb2; have HQ2:=Lib.hid hq2; have HB2:=Lib.hid (HB1.out.trans (hb2.mono HB1.out.size)); clear hq2 hb2))
 have hgq:w.heap.size<=w1.heap.size:=HB1.out.size
 generalize hGQ:w1.heap.size=gq at *
 have HGP:=Lib.hid (show 0<w.heap.size from HT.out.pos)
 have HW2:=Lib.hid (Array.getElem?_eq_some_iff.1 HQ2.out).1
 go_loopw [7,8] (fun v i wr=>∃ (k R:Nat) (qs:List Int),i=.int .i64 ((k:Int) - 1)/\k<=N/\Hid (QI X b k R qs)/\Hid (OR wr (gq+1) v (dig R))/\Hid (wr.heap[gq]?=some (.cells (qs.map num).toArray 3 (0,0)))/\Hid (Below w.heap.size w wr)) (fun _ i _=>(G3 i+1).toNat)
 case atStart=>exact ⟨N,0,_,congrArg (Value.int .i64) (by omega),Nat.le_refl _,HS,Lib.hid (by rw [Gj]; exact Afl _ _),HQ2,HB2⟩
 case round =>
  obtain ⟨k,R,qs,rfl,hk,HI,HR,HQ,HB⟩:=hrel
  cases k with
  | zero =>
   have hql:qs.length=N:=HI.out.len.trans hN
   have hT:=Qj wr (some ⟨gq,0,none⟩) N qs (by omega) (by omega) fun j x hx=>⟨gq,0,rfl,Mt HQ.out hx⟩
   have HV:=Lib.hid (Agp (cap:=N) HQ.out trivial (by omega))
   have HE:=Lib.hid (HD.out R qs HI.out)
   rw [hql] at hT
   have HTr:=Lib.hid hT
   clear hT
   go_wp2_with (go_at_call 278; refine HTr.out.mono ?_; rintro e w6 ⟨rfl,rfl⟩)
   go_ret2
   obtain ⟨e1,e2⟩:=HE.out
   have hv:=HV.out
   rw [e1] at hv ⊢
   exact ⟨_,_,rfl,hv,by rw [<- e2]; exact HR.out.rd (by omega),HB.out,Xf (by omega),.inr (HR.out.newB (by omega))⟩
  | succ k =>
   obtain ⟨x,hx⟩:=Af (show k<X.length by omega)
   obtain ⟨bx,ox,rfl,hcx0,-⟩:=HX.out k x hx
   have hxk:=HKX.out x (by rw [Ab] at hx; exact List.mem_of_getElem? hx)
   have hcell:=(HB.out.cell (Dg hcx0)).trans hcx0
   have hi:(((k+1:Nat):Int) - 1)=(k:Int):=by omega
   rw [hi]
   have hi1:IntKind.i64.wrap ((k:Int) - 1)=(k:Int) - 1:=Ay (by unfold i64; omega)
   have hg1:(k:Int) >= 0:=by omega
   have hg2:(k:Int)<(N:Int):=by omega
   have hQl:=(Array.getElem?_eq_some_iff.1 HQ.out).1
   have hRl:(dig R).length<=90000:=by
    have h1:R<b:=by rw [HI.out.rest]; exact Nat.mod_lt _ hb0
    exact Nat.le_trans (D5.2 (Nat.lt_trans h1 (D5.1 (Nat.le_refl _)))) hlb
   have hB3:Below wr.heap.size wr (wr.alloc (.cells #[num x] 3)):=(Below.refl _ _).alloc (Nat.le_refl _) _
   have hIns:=W0 (gq+1) (wr.alloc (.cells #[num x] 3)) _ (dig R) x wr.heap.size (HR.out.below hB3) (by have:=hB3.size; omega) (Aa wr _) (fun g n c hv=>by
    have:=HR.out.lt g (by rw [hv]; rfl)
    omega) (by omega)
   have HIns:=Lib.hid hIns
   have HXX:=Lib.hid hx
   have hTa:=Xu (R:=R) hxk
   have hTb:x.toNat+10000*R<10000*b:=by
    have h1:R<b:=by rw [HI.out.rest]; exact Nat.mod_lt _ hb0
    omega
   have HSm:=Lib.hid (HI.out.small (b:=b) HKX.out hb0 hx)
   have HBg:=Lib.hid (fun d=>HI.out.big (b:=b) (d:=d) HKX.out hb0 hx)
   generalize hTT:x.toNat+10000*R=T at *
   have hTl:(dig T).length<=90001:=Nat.le_trans (Rd hTb) (by omega)
   have HTa:=Lib.hid hTa
   clear hTa
   have HB3:=Lib.hid hB3
   clear hIns hx hcx0 hB3
   have hgq2:w.heap.size<=gq+1:=by omega
   by_cases hlt:T<b
   ·have hc2:cmpN T b<0:=by simp [cmpN,hlt]
    have HSs:=Lib.hid (HSm.out hlt)
    go_wp2_with (go_at_call 279; refine HIns.out.mono ?_; rintro e w4 ⟨v4,rfl,hO4,hB4⟩; have HO4:=Lib.hid hO4; have HB4:=Lib.hid hB4; clear hO4 hB4)
    have HQ5:=Lib.hid ((HB4.out.block gq (Nat.lt_succ_self _)).trans ((HB3.out.block gq hQl).trans HQ.out))
    have HB5:=Lib.hid ((HB.out.trans (HB3.out.mono HB.out.size)).trans (HB4.out.mono hgq2))
    go_wp2_with (go_at_call 278; refine (Wh HO4.out (Nat.succ_pos _) (by simp; omega)).mono ?_; rintro e w5 ⟨v5,rfl,rfl,hO5⟩; rw [HTa.out] at hO5; have HO5:=Lib.hid hO5; clear hO5)
    have HT5:=Lib.hid (HT.out.below HGP.out HB5.out)
    go_wp2_with (go_at_call 277; refine (R6 HT5.out (HO5.out.rd (Nat.succ_pos _)) (HRB.out.below HB5.out) (by omega) (by omega)).mono ?_; rintro e w6 ⟨rfl,hb6⟩; have HB6:=Lib.hid hb6; clear hb6)
    exact ⟨⟨k,T,qs,rfl,by omega,HSs,Lib.hid (HO5.out.below HB6.out),Lib.hid ((HB6.out.block gq (Array.getElem?_eq_some_iff.1 HQ5.out).1).trans HQ5.out),Lib.hid (HB5.out.trans (HB6.out.mono HB5.out.size))⟩,by simp [G3]⟩
   ·have hc2:¬ cmpN T b<0:=by
     unfold cmpN
     rw [if_neg hlt]; split <;> omega
    obtain ⟨d,hd⟩:∃ d,d=T / b:=⟨_,rfl⟩
    have hd1:1<=d:=by rw [hd]; exact (Nat.le_div_iff_mul_le hb0).2 (by omega)
    have hd2:d<=9999:=by
     have:d<10000:=by rw [hd]; exact (Nat.div_lt_iff_lt_mul hb0).2 hTb
     omega
    have HDv:=Lib.hid (fun m:Nat=>(show b*m<=T↔m<=d by rw [hd,Nat.le_div_iff_mul_le hb0,Nat.mul_comm]))
    have HBd:=Lib.hid (HBg.out d hd)
    have hTd:b*d<=T:=by rw [hd]; exact Nat.mul_div_le T b
    have HTd:=Lib.hid hTd
    clear hd hTd
    go_wp2_with (go_at_call 279; refine HIns.out.mono ?_; rintro e w4 ⟨v4,rfl,hO4,hB4⟩; have HO4:=Lib.hid hO4; have HB4:=Lib.hid hB4; clear hO4 hB4)
    have HQ5:=Lib.hid ((HB4.out.block gq (Nat.lt_succ_self _)).trans ((HB3.out.block gq hQl).trans HQ.out))
    have HB5:=Lib.hid ((HB.out.trans (HB3.out.mono HB.out.size)).trans (HB4.out.mono hgq2))
    go_wp2_with (go_at_call 278; refine (Wh HO4.out (Nat.succ_pos _) (by simp; omega)).mono ?_; rintro e w5 ⟨v5,rfl,rfl,hO5⟩; rw [HTa.out] at hO5; have HO5:=Lib.hid hO5; clear hO5)
    have HT5:=Lib.hid (HT.out.below HGP.out HB5.out)
    go_wp2_with (go_at_call 277; refine (R6 HT5.out (HO5.out.rd (Nat.succ_pos _)) (HRB.out.below HB5.out) (by omega) (by omega)).mono ?_; rintro e w6 ⟨rfl,hb6⟩; have HB6:=Lib.hid hb6; clear hb6)
    have HB7:=Lib.hid (HB5.out.trans (HB6.out.mono HB5.out.size))
    have HQ7:=Lib.hid ((HB6.out.block gq (Array.getElem?_eq_some_iff.1 HQ5.out).1).trans HQ5.out)
    have HO7:=Lib.hid (HO5.out.below HB6.out)
    clear HIns HSm HBg HO4 HB4 HB6 HO5 HT5 HQ5 HB5 HB3 hc2
    go_loopw [9,10] (fun lo hi wq=>∃ l h:Nat,lo=.int .i64 l/\hi=.int .i64 h/\1<=l/\l<=d/\d<=h/\h<=9999/\Hid (Below w6.heap.size w6 wq)) (fun lo hi _=>(G3 hi - G3 lo).toNat)
    case atStart=>exact ⟨1,9999,rfl,rfl,Nat.le_refl _,hd1,hd2,Nat.le_refl _,Lib.hid (Below.refl _ _)⟩
    case round =>
     obtain ⟨l,h,rfl,rfl,hl1,hl2,hh1,hh2,HBq⟩:=hrel
     by_cases hlh:l<h
     ·have hg3:(l:Int)<(h:Int):=by omega
      obtain ⟨m,hm⟩:∃ m:Nat,m=(l+h+1) / 2:=⟨_,rfl⟩
      have hw1:IntKind.i64.wrap ((l:Int)+(h:Int))=(l:Int)+(h:Int):=Ay (by unfold i64; omega)
      have hw2:IntKind.i64.wrap ((l:Int)+(h:Int)+1)=(l:Int)+(h:Int)+1:=Ay (by unfold i64; omega)
      have hdv:((l:Int)+(h:Int)+1) / 2=(m:Int):=by omega
      have hwm:IntKind.i64.wrap (m:Int)=(m:Int):=Ay (by unfold i64; omega)
      have hwp:IntKind.i64.wrap (((l:Int)+(h:Int)+1) / 2 - 1)=((l:Int)+(h:Int)+1) / 2 - 1:=Ay (by unfold i64; omega)
      have hd1:dig m=[((l:Int)+(h:Int)+1) / 2]:=by
       rw [hdv]
       have:=T2 (d:=(m:Int)) (by omega) (by omega)
       rwa [Int.toNat_natCast] at this
      have hBa:Below wr.heap.size wr (wr.alloc (.cells #[num (((l:Int)+(h:Int)+1) / 2)] 3)):=(Below.refl _ _).alloc (Nat.le_refl _) _
      have hBw:Below w.heap.size w wr:=HB7.out.trans (HBq.out.mono HB7.out.size)
      have hTq:Tab0 wr:=HT.out.below HGP.out hBw
      have hpq:0<wr.heap.size:=hTq.pos
      have hbm:(dig (b*m)).length<=(dig b).length+1:=Rd (by rw [Nat.mul_comm]; exact Nat.mul_lt_mul_of_pos_right (by omega) hb0)
      have HP:=Lib.hid (V5 (a:=b) (b:=m) (hTq.below hpq hBa) (HRB.out.below (hBw.trans (hBa.mono hBw.size))) (by rw [hd1]; exact Adb hpq) (by omega) (by rw [hd1]; simp))
      have HBa:=Lib.hid hBa
      have HBw:=Lib.hid hBw
      have HCm:=Lib.hid (Af6 (b*m) T)
      have HDv2:=Lib.hid hdv
      have HDv3:=Lib.hid hm
      clear hBa hBw hTq hd1 hdv hm hwm
      by_cases hmd:m<=d
      ·have hc3:cmpN (b*m) T<=0:=HCm.out.2 ((HDv.out m).2 hmd)
       go_wp2_with (go_at_call 280; refine HP.out.mono ?_; rintro e w8 ⟨v8,rfl,hb8,hr8⟩; have HB8:=Lib.hid hb8; have HR8:=Lib.hid hr8; clear hb8 hr8)
       have HB9:=Lib.hid (HBa.out.trans (HB8.out.mono HBa.out.size))
       have HT9:=Lib.hid (HT.out.below HGP.out (HBw.out.trans (HB9.out.mono HBw.out.size)))
       have HO9:=Lib.hid ((HO7.out.below (HBq.out)).below HB9.out)
       go_wp2_with (go_at_call 277; refine (R6 HT9.out HR8.out (HO9.out.rd (Nat.succ_pos _)) (by omega) (by omega)).mono ?_; rintro e w10 ⟨rfl,hb10⟩; have HB10:=Lib.hid hb10; clear hb10)
       have hE:=HDv2.out
       have hE3:=HDv3.out
       refine ⟨⟨m,h,congrArg _ hE,rfl,by omega,hmd,hh1,hh2,Lib.hid ((HBq.out.trans (HB9.out.mono HBq.out.size)).trans (HB10.out.mono (Nat.le_trans HBq.out.size HB9.out.size)))⟩,?_⟩
       simp only [G3]
       omega
      ·have hc3:¬ cmpN (b*m) T<=0:=fun h'=>hmd ((HDv.out m).1 (HCm.out.1 h'))
       go_wp2_with (go_at_call 280; refine HP.out.mono ?_; rintro e w8 ⟨v8,rfl,hb8,hr8⟩; have HB8:=Lib.hid hb8; have HR8:=Lib.hid hr8; clear hb8 hr8)
       have HB9:=Lib.hid (HBa.out.trans (HB8.out.mono HBa.out.size))
       have HT9:=Lib.hid (HT.out.below HGP.out (HBw.out.trans (HB9.out.mono HBw.out.size)))
       have HO9:=Lib.hid ((HO7.out.below (HBq.out)).below HB9.out)
       go_wp2_with (go_at_call 277; refine (R6 HT9.out HR8.out (HO9.out.rd (Nat.succ_pos _)) (by omega) (by omega)).mono ?_; rintro e w10 ⟨rfl,hb10⟩; have HB10:=Lib.hid hb10; clear hb10)
       have hE:=HDv2.out
       have hE3:=HDv3.out
       refine ⟨⟨l,m - 1,rfl,congrArg _ (by omega),hl1,hl2,by omega,by omega,Lib.hid ((HBq.out.trans (HB9.out.mono HBq.out.size)).trans (HB10.out.mono (Nat.le_trans HBq.out.size HB9.out.size)))⟩,?_⟩
       simp only [G3]
       omega
     ·have hlde:l=d:=by omega
      subst hlde
      have hg3:¬ (l:Int)<(h:Int):=by omega
      have hBw:Below w.heap.size w wr:=HB7.out.trans (HBq.out.mono HB7.out.size)
      have hTq:Tab0 wr:=HT.out.below HGP.out hBw
      have hpq:0<wr.heap.size:=hTq.pos
      have hql:qs.length=N:=HI.out.len.trans hN
      obtain ⟨y,hy⟩:=Af (show k<qs.length by omega)
      have hQq:wr.heap[gq]?=some (.cells (qs.map num).toArray 3 (0,0)):=(HBq.out.block gq (Array.getElem?_eq_some_iff.1 HQ7.out).1).trans HQ7.out
      have hcq:wr.cell? ⟨gq,k,none⟩=some (num y):=by
       have:=Mt hQq hy
       rwa [Nat.zero_add] at this
      have hfq:wr.frozen? ⟨gq,k,none⟩=false:=by simp [World.frozen?,hQq]
      have HQ8:=Lib.hid (Ae9 (d:=(l:Int)) hQq hy)
      have hS:Below gq wr (wr.setCell ⟨gq,k,none⟩ (num (l:Int))):=Aam
      have HBw2:=Lib.hid (hBw.trans (hS.mono (by omega)))
      have HO8:=Lib.hid ((HO7.out.below HBq.out).set (i:=k) (u:=num (l:Int)))
      clear hQq hS hBw hTq hy
      have hsz:(wr.setCell ⟨gq,k,none⟩ (num (l:Int))).heap.size=wr.heap.size:=by simp [World.setCell]
      have hdl:dig l=[(l:Int)]:=by
       have:=T2 (d:=(l:Int)) (by omega) (by omega)
       rwa [Int.toNat_natCast] at this
      have hBa:Below (wr.setCell ⟨gq,k,none⟩ (num (l:Int))).heap.size (wr.setCell ⟨gq,k,none⟩ (num (l:Int))) ((wr.setCell ⟨gq,k,none⟩ (num (l:Int))).alloc (.cells #[num (l:Int)] 3)):=(Below.refl _ _).alloc (Nat.le_refl _) _
      have hBw3:=HBw2.out.trans (hBa.mono HBw2.out.size)
      have hP:=V5 (a:=b) (b:=l) (HT.out.below HGP.out hBw3) (HRB.out.below hBw3) (by rw [hdl]; exact Adb (by rw [hsz]; exact hpq)) (by omega) (by rw [hdl]; simp)
      rw [hsz] at hP
      have HP:=Lib.hid hP
      have HBa:=Lib.hid hBa
      have HSz:=Lib.hid hsz
      clear hP hBa hBw3 hdl hsz
      go_wp2_with (go_at_call 280; refine HP.out.mono ?_; rintro e w8 ⟨v8,rfl,hb8,hr8⟩; have HB8:=Lib.hid hb8; have HR8:=Lib.hid hr8; clear hb8 hr8)
      have HB9:=Lib.hid (HBa.out.trans (HB8.out.mono HBa.out.size))
      have HBw9:=Lib.hid (HBw2.out.trans (HB9.out.mono HBw2.out.size))
      have HO9:=Lib.hid (HO8.out.below HB9.out)
      have HQ9:=Lib.hid ((HB9.out.block gq (Array.getElem?_eq_some_iff.1 HQ8.out).1).trans HQ8.out)
      go_wp2_with (go_at_call 281; refine (Acm w8 v5 v8 T (b*l) (HO9.out.rd (Nat.succ_pos _)) HR8.out HTd.out (by omega) (Nat.lt_of_lt_of_le HGP.out HBw9.out.size)).mono ?_; rintro e w9 ⟨v9,rfl,hO9,hB9⟩; have HO10:=Lib.hid hO9; have HB10:=Lib.hid hB9; clear hO9 hB9)
      have hgl:=(Array.getElem?_eq_some_iff.1 HQ9.out).1
      exact ⟨⟨k,T - b*l,qs.set k (l:Int),rfl,by omega,HBd,Lib.hid (HO10.out.weaken hgl),Lib.hid ((HB10.out.block gq hgl).trans HQ9.out),Lib.hid (HBw9.out.trans (HB10.out.mono HBw9.out.size))⟩,by simp [G3]⟩
end
section
open Go
theorem Acs (s:ByteArray):∀ (n i:Nat) (r:List UInt8),s.size - i=n->ByteArray.toList.loop s i r=r.reverse++s.data.toList.drop i:=by
 intro n
 induction n with
 | zero =>
  intro i r h
  rw [ByteArray.toList.loop,if_neg (by omega),List.drop_eq_nil_of_le (by simp; omega),List.append_nil]
 | succ n ih =>
  intro i r h
  have hi:i<s.data.size:=by simp; omega
  rw [ByteArray.toList.loop,if_pos (by omega),ih (i+1) _ (by omega),List.reverse_cons,List.append_assoc]
  congr 1
  have e:s.data.toList.drop i=s.data[i] :: s.data.toList.drop (i+1):=by
   rw [<- Array.getElem_toList hi,List.getElem_cons_drop]
  rw [e,List.singleton_append]
  congr 1
  show s.data[i]! = _
  rw [getElem!_pos s.data i hi]
def nm (s:ByteArray):List UInt8:=s.data.toList
theorem P7 (s:ByteArray):s.toList=nm s:=by rw [ByteArray.toList,Acs s _ 0 [] rfl]; simp [nm]
theorem Z2 {a b:ByteArray} (h:nm a=nm b):a=b:=by
 apply ByteArray.ext; exact Array.ext' h
theorem Kx:∀ (x y:List UInt8),Op.bytesLess x y=decide (x<y)
 | [],[]=>by simp [Op.bytesLess]
 | a :: x,[]=>by simp [Op.bytesLess]
 | [],b :: y=>by simp [Op.bytesLess]
 | a :: x,b :: y=>by
  rw [Op.bytesLess,Kx x y]
  by_cases h1:a<b
  ·simp [h1,List.cons_lt_cons_iff]
  ·by_cases h2:a=b
   ·subst h2; simp [List.cons_lt_cons_iff]
   ·simp [h1,h2,List.cons_lt_cons_iff]
theorem Ads (a b:ByteArray):sLt a b=decide (nm a<nm b):=by
 unfold sLt; rw [P7,P7,Kx]
theorem Aaj (a b:ByteArray):sEq a b=decide (a=b):=by
 unfold sEq; rw [P7,P7]
 by_cases h:a=b
 ·subst h; simp
 ·have:nm a≠nm b:=fun h'=>h (Z2 h')
  simp [h,this]
theorem R2 {a b c:List UInt8} (h1:a<b) (h2:b<c):a<c:=List.lt_trans h1 h2
theorem Ks (a:List UInt8):¬ a<a:=List.lt_irrefl a
theorem Aez (a b:ByteArray):nm a<nm b\/a=b\/nm b<nm a:=by
 by_cases h1:nm a<nm b
 ·exact .inl h1
 ·by_cases h2:nm b<nm a
  ·exact .inr (.inr h2)
  ·exact .inr (.inl (Z2 (List.le_antisymm (List.not_lt.1 h2) (List.not_lt.1 h1))))
def Inc (l:List ByteArray):Prop:=l.Pairwise fun a b=>nm a<nm b
theorem Uc (s x:ByteArray):∀ l:List ByteArray,x ∈ putS l s↔x=s\/x ∈ l
 | []=>by simp [putS]
 | y :: r=>by
  rw [putS]
  split
  ·rw [List.mem_cons,Uc s x r,List.mem_cons]
   constructor
   ·rintro (h|h|h) <;> simp [h]
   ·rintro (h|h|h) <;> simp [h]
  ·split
   ·rename_i h
    rw [Aaj] at h
    have:y=s:=by simpa using h
    subst this
    simp
   ·simp [or_comm,or_left_comm]
theorem Zo (s:ByteArray):∀ {l:List ByteArray},Inc l->Inc (putS l s)
 | [],_=>by simp [putS,Inc]
 | y :: r,h=>by
  have h0:=List.pairwise_cons.1 h
  rw [putS]
  split
  ·rename_i h1
   rw [Ads] at h1
   refine List.pairwise_cons.2 ⟨fun x hx=>?_,Zo s h0.2⟩
   rcases (Uc s x r).1 hx with rfl|hx
   ·simpa using h1
   ·exact h0.1 x hx
  ·rename_i h1
   rw [Ads] at h1
   split
   ·exact h
   ·rename_i h2
    rw [Aaj] at h2
    have h3:nm s<nm y:=by
     rcases Aez s y with h|h|h
     ·exact h
     ·exact absurd (by simpa using h.symm) h2
     ·exact absurd (by simpa using h) h1
    refine List.pairwise_cons.2 ⟨fun x hx=>?_,h⟩
    rcases List.mem_cons.1 hx with rfl|hx
    ·exact h3
    ·exact R2 h3 (h0.1 x hx)
theorem Zw (s:ByteArray):∀ l:List ByteArray,(putS l s).length<=l.length+1
 | []=>by simp [putS]
 | y :: r=>by
  rw [putS]
  have:=Zw s r
  split
  ·simp; exact this
  ·split <;> simp
theorem Aa3 (l:List ByteArray):Inc (uniS l)/\(∀ x,x ∈ uniS l↔x ∈ l)/\(uniS l).length<=l.length:=by
 have key:∀ (l acc:List ByteArray),Inc acc->Inc (l.foldl putS acc)/\(∀ x,x ∈ l.foldl putS acc↔x ∈ acc\/x ∈ l)/\(l.foldl putS acc).length<=acc.length+l.length:=by
  intro l
  induction l with
  | nil=>intro acc h; exact ⟨h,fun x=>by simp,by simp⟩
  | cons s l ih =>
   intro acc h
   obtain ⟨h1,h2,h3⟩:=ih (putS acc s) (Zo s h)
   refine ⟨h1,fun x=>?_,?_⟩
   ·rw [List.foldl_cons,h2 x,Uc,List.mem_cons]
    constructor
    ·rintro ((h|h)|h) <;> simp [h]
    ·rintro (h|h|h) <;> simp [h]
   ·have:=Zw s acc
    simp only [List.foldl_cons,List.length_cons]; omega
 have:=key l [] (by simp [Inc])
 exact ⟨this.1,fun x=>by simpa [uniS] using this.2.1 x,by simpa [uniS] using this.2.2⟩
theorem Adm:∀ {l r:List ByteArray},Inc l->Inc r->(∀ x,x ∈ l↔x ∈ r)->l=r
 | [],[],_,_,_=>rfl
 | [],y :: r,_,_,h=>by have:=(h y).2 (by simp); simp at this
 | x :: l,[],_,_,h=>by have:=(h x).1 (by simp); simp at this
 | x :: l,y :: r,h1,h2,h=>by
  have a1:=List.pairwise_cons.1 h1
  have a2:=List.pairwise_cons.1 h2
  have cj:x=y:=by
   have m1:=(h x).1 (by simp)
   have m2:=(h y).2 (by simp)
   rcases List.mem_cons.1 m1 with e|m1
   ·exact e
   ·rcases List.mem_cons.1 m2 with e|m2
    ·exact e.symm
    ·exact absurd (R2 (a1.1 y m2) (a2.1 x m1)) (Ks _)
  subst cj
  congr 1
  refine Adm a1.2 a2.2 fun z=>?_
  have hz:=h z
  simp only [List.mem_cons] at hz
  constructor
  ·intro hm
   rcases hz.1 (.inr hm) with e|bm
   ·subst e; exact absurd (a1.1 z hm) (Ks _)
   ·exact bm
  ·intro hm
   rcases hz.2 (.inr hm) with e|bm
   ·subst e; exact absurd (a2.1 z hm) (Ks _)
   ·exact bm
end
end Go.Proofs.YthelkgdmgihhiaaGreatDoor
