/- Part 14. -/
import Derived.Test.YtcandeobhlfkbaaGreatZM13
import Derived.Lib.LazyBuf
import Derived.Orders
import Derived.Tactics
import Derived.Below
import Derived.WalkKit
namespace Go.Proofs.YtcandeobhlfkbaaGreat
open Go Tryz Go.RowKit
def layA:Array Value->Nat->List Value->Array Value
 | arr,_,[]=>arr
 | arr,o,v :: vs=>layA (arr.setIfInBounds o v) (o+1) vs
theorem G9:∀ (vs:List Value) (arr:Array Value) (o:Nat),(layA arr o vs).size=arr.size
 | [],_,_=>rfl
 | v :: vs,arr,o=>by rw [layA,G9 vs]; simp
theorem Kq:∀ (vs:List Value) (arr:Array Value) (o:Nat),o+vs.length<=arr.size->(layA arr o vs).toList=arr.toList.take o++vs++arr.toList.drop (o+vs.length)
 | [],arr,o,_=>by simp [layA]
 | v :: vs,arr,o,h=>by
  simp only [List.length_cons] at h
  rw [layA,Kq vs _ _ (by simp; omega),Array.toList_setIfInBounds]
  have h1:(arr.toList.set o v).take (o+1)=arr.toList.take o++[v]:=by
   rw [List.take_set,List.take_add_one,List.set_append_right _ _ (by simp; omega)]
   have:o - (arr.toList.take o).length=0:=by simp; omega
   rw [this]
   have h2:o<arr.toList.length:=by simp; omega
   rw [List.getElem?_eq_getElem h2]; rfl
  have h2:(arr.toList.set o v).drop (o+1+vs.length)=arr.toList.drop (o+1+vs.length):=by
   rw [List.drop_set]; rw [if_pos (by omega)]
  rw [h1,h2,List.length_cons,show o+(vs.length+1)=o+1+vs.length by omega]
  simp
theorem D4 {b:Nat} {t:TypeId} {fz:Nat × Nat} : ∀ (vs:List Value) (o:Nat) (w:World) (arr:Array Value),w.heap[b]?=some (.cells arr t fz)->(w.setCells b o vs).heap[b]?=some (.cells (layA arr o vs) t fz)
 | [],_,_,_,h=>h
 | v :: vs,o,w,arr,h=>by
  refine D4 vs (o+1) (w.setCell ⟨b,o,none⟩ v) (arr.setIfInBounds o v) ?_
  unfold World.setCell
  simp only
  rw [Array.getElem?_modify,if_pos rfl,h]
  rfl
theorem Et {B b:Nat} {a:World} (hb:B<=b):∀ (vs:List Value) (o:Nat) (w:World),Below B a w->Below B a (w.setCells b o vs)
 | [],_,_,h=>h
 | v :: vs,o,w,h=>Et hb vs (o+1) _ (h.trans ⟨rfl,rfl,rfl,by simp [World.setCell],fun j hj=>by
   unfold World.setCell
   simp only
   rw [Array.getElem?_modify,if_neg (by omega)]⟩)
theorem Ae1 {w:World} {base g cap:Nat} {cur:Array Value} {zs:List Int} (hg:base<=g) (h:w.heap[g]?=some (.cells cur 3 (0,0))) (hn:zs.length<=cap) (hm:cap<=maxLen) (hs:cur.size=cap) (ht:cur.toList.take zs.length=zs.map num):OR w base (.slice (some ⟨g,0,none⟩) zs.length cap) zs :=
 ⟨by simp,.inr ⟨g,cap,cur,rfl,hg,h,hn,hm,by omega,by rw [Nat.mul_one]; exact ht⟩⟩
theorem Ad3 (base:Nat) (w:World) (v:Value) (zs:List Int) (x:Int) (vb:Nat) (hO:OR w base v zs) (hbase:base<=w.heap.size) (hvb:w.heap[vb]?=some (.cells #[num x] 3 (0,0))) (hne:∀ g n c,v=.slice (some ⟨g,0,none⟩) n c->g≠vb) (hlen:zs.length<=1000000) :
  Calls prog 181 #[v,.int .i64 0,.slice (some ⟨vb,0,none⟩) 1 1] w fun e w'=>∃ v',e=.returned v'/\OR w' base v' (x :: zs)/\Below base w w':=by
 have lf:∀ (j:Nat) u,[num x][j]?=some u->w.cell? ⟨vb,0+j,none⟩=some u:=by
  intro j u hj
  cases j with
  | zero =>
   simp only [List.getElem?_cons_zero,Option.some.injEq] at hj
   subst hj
   rw [Lib.cell_of_heap hvb]; rfl
  | succ j=>simp at hj
 have u0:∀ u ∈ [num x],u.oneCell'=true:=fun u hu=>by
  have:u=num x:=by simpa using hu
  subst this; rfl
 have h1c:∀ u ∈ zs.map num,u.oneCell'=true:=fun u hu=>by
  obtain ⟨y,-,rfl⟩:=List.mem_map.1 hu
  rfl
 have hmax:(1000001:Nat)<=maxLen:=by unfold maxLen; omega
 have u3:Tryz.laysIns_ren.t 3=3:=rfl
 have q9:(Value.int .i64 0).cells.size=1:=rfl
 rcases hO.2 with ⟨rfl,h0⟩|⟨g,cap,cur,rfl,k1,k2,k3,k4,k5,k6⟩
 ·-- nil
  have hz:zs=[]:=List.eq_nil_of_length_eq_zero h0
  subst hz
  refine (Any2.slices_Insert_int_end_grow Tryz.laysIns none 0 0 vb 0 1 1 [] [num x] w (by omega) (by omega) (by omega) (by omega) rfl rfl (fun _=>rfl) (fun _ h=>by cases h) lf u0).mono ?_
  rintro e w' ⟨rfl,rfl⟩
  have c9:=grownCap_ge w 1 0 3
  refine ⟨_,rfl,Ae1 (zs:=[x]) hbase (Ag w.drew _) c9 (grownCap_le_maxLen w 1 0 _ (by omega)) ?_ ?_,((Below.refl _ _).drew).alloc hbase _⟩
  ·rw [u3]; simp [size_zeroCells,q9]; omega
  ·simp
 ·have hM:cap<=9223372036854775807:=by unfold maxLen at k4; omega
  have hgv:g≠vb:=hne g _ cap rfl
  have hcl:(zs.map num).length=zs.length:=by simp
  have hc5:cur.size=cap:=by omega
  have dn:∀ (j:Nat) u,(zs.map num)[j]?=some u->w.cell? ⟨g,0+j,none⟩=some u:=by
   intro j u hj
   rw [Nat.mul_one] at k6
   have jp:j<zs.length:=by
    have:=(List.getElem?_eq_some_iff.1 hj).1
    simpa using this
   rw [<- k6,List.getElem?_take,if_pos jp] at hj
   rw [Lib.cell_of_heap k2,Nat.zero_add]
   simpa using hj
  have io:∀ j,j<cap->(w.cell? ⟨g,0+j,none⟩).isSome=true:=fun j hj=>by
   rw [Lib.cell_of_heap k2,Nat.zero_add]
   rw [Array.getElem?_eq_getElem (show j<cur.size by omega)]; rfl
  have pp:∀ j,w.frozen? ⟨g,0+j,none⟩=false:=fun j=>by
   simp [World.frozen?,k2]
  by_cases hz:zs=[]
  ·subst hz
   by_cases hc:cap=0
   ·subst hc
    refine (Any2.slices_Insert_int_end_grow Tryz.laysIns (some ⟨g,0,none⟩) 0 0 vb 0 1 1 [] [num x] w (by omega) (by omega) (by omega) (by omega) rfl rfl (fun _=>rfl) (fun _ _ j u h=>by simp at h) lf u0).mono ?_
    rintro e w' ⟨rfl,rfl⟩
    have c9:=grownCap_ge w 1 0 3
    refine ⟨_,rfl,Ae1 (zs:=[x]) hbase (Ag w.drew _) c9 (grownCap_le_maxLen w 1 0 _ (by omega)) ?_ ?_,((Below.refl _ _).drew).alloc hbase _⟩
    ·rw [u3]; simp [size_zeroCells,q9]; omega
    ·simp
   ·refine (Any2.slices_Insert_int_end_room Tryz.laysIns g 0 0 cap vb 0 1 1 [num x] w (by omega) (by omega) hM rfl (fun j hj=>by simpa using io j (by omega)) (fun j hj=>by simpa using pp j) lf u0).mono ?_
    rintro e w' ⟨rfl,rfl⟩
    refine ⟨_,rfl,Ae1 (zs:=[x]) (cur:=layA cur 0 [num x]) k1 (D4 _ _ _ _ k2) (by simp; omega) k4 (by rw [G9]; exact hc5) ?_,Et k1 _ _ _ (Below.refl _ _)⟩
    rw [Kq _ _ _ (by simp; omega)]
    simp
  ·have hpos:0<zs.length:=List.length_pos_iff.2 hz
   by_cases au:zs.length+1<=cap
   ·refine (Any2.slices_Insert_int_shift Tryz.laysIns g 0 zs.length cap 0 vb 0 1 1 (zs.map num) [num x] w hpos (by omega) au hM (fun h=>hgv h.symm) hcl rfl dn (fun j hj=>io j (by omega)) (fun j _=>pp j) lf h1c u0 3 3 1 cap ?_ ?_ (by omega) ?_ ?_).mono ?_
    ·simp [World.shape?,hvb]
    ·simp [World.shape?,k2,hc5]
    ·simp [World.frozen?,hvb]
    ·simp [World.frozen?,hvb]
    rintro e w' ⟨rfl,rfl⟩
    have gd:w.drew.heap[g]?=some (.cells cur 3 (0,0)):=k2
    have hA:=D4 ((zs.map num).drop 0) (0+(0+1)) w.drew cur gd
    have hB:=D4 [num x] (0+0) _ _ hA
    have jw:(zs.map num).length=zs.length:=by simp
    refine ⟨_,rfl,Ae1 (zs:=x :: zs) k1 hB (by simpa using au) k4 (by rw [G9,G9]; exact hc5) ?_,Et k1 _ _ _ (Et k1 _ _ _ ((Below.refl _ _).drew))⟩
    rw [Kq _ _ _ (by rw [G9]; simp; omega),Kq _ _ _ (by simp; omega)]
    have hl1:(cur.toList.take (0+(0+1))).length=1:=by simp; omega
    simp only [List.take_zero,List.nil_append,List.drop_zero,Nat.zero_add,List.length_singleton,List.map_cons,List.length_cons,List.singleton_append,List.take_succ_cons] at hl1 ⊢
    rw [List.append_assoc,List.drop_append,List.drop_of_length_le (by omega),List.nil_append,hl1]
    simp only [List.length_nil,Nat.zero_add,Nat.sub_self,List.drop_zero]
    rw [List.take_append,List.take_of_length_le (by omega),jw,Nat.sub_self,List.take_zero,List.append_nil]
   ·refine (Any2.slices_Insert_int_grow Tryz.laysIns g 0 zs.length cap 0 vb 0 1 1 (zs.map num) [num x] w hpos (by omega) k3 (by omega) (by omega) hcl rfl dn lf h1c u0).mono ?_
    rintro e w' ⟨rfl,rfl⟩
    rw [u3]
    have c9:=grownCap_ge w (zs.length+1) cap 3
    obtain ⟨arr,b8⟩:∃ arr:Array Value,((zs.map num).take 0).toArray++Builtin.zeroCells (Value.int .i64 0).cells (zs.length+1 - 0)++Builtin.zeroCells (Value.int .i64 0).cells (grownCap w (zs.length+1) cap 3 - (zs.length+1))=arr:=⟨_,rfl⟩
    rw [b8]
    have hsz:arr.size=grownCap w (zs.length+1) cap 3:=by
     rw [<- b8]; simp [size_zeroCells,q9]; omega
    have h0:(w.alloc (.cells arr 3)).drew.heap[w.heap.size]?=some (.cells arr 3 (0,0)):=Ag w _
    have hA:=D4 [num x] 0 _ _ h0
    have hB:=D4 ((zs.map num).drop 0) (0+1) (((w.alloc (.cells arr 3)).drew.setCells w.heap.size 0 [num x]).drew) _ hA
    have jw:(zs.map num).length=zs.length:=by simp
    refine ⟨_,rfl,Ae1 (zs:=x :: zs) hbase hB (by simpa using c9) (grownCap_le_maxLen w _ _ _ (by omega)) (by rw [G9,G9]; exact hsz) ?_,Et hbase _ _ _ (Below.drew (Et hbase _ _ _ (((Below.refl _ _).alloc hbase _).drew)))⟩
    rw [Kq _ _ _ (by rw [G9,hsz]; simp; omega),Kq _ _ _ (by rw [hsz]; simp; omega)]
    simp only [List.take_zero,List.nil_append,List.drop_zero,Nat.zero_add,List.length_singleton,List.map_cons,List.length_cons,List.singleton_append,List.take_succ_cons,List.cons_append]
    rw [List.take_append,List.take_of_length_le (by omega),jw,Nat.sub_self,List.take_zero,List.append_nil]
end Go.Proofs.YtcandeobhlfkbaaGreat
namespace Go.Proofs.YtcandeobhlfkbaaGreat
open Go Tryz Go.RowKit
theorem Yk {w:World} {v1 v2:Value} {a b:Nat} (ht:Tab0 w) (h1:RD w v1 (dig a)) (h2:RD w v2 (dig b)) (ha:(dig a).length<=1000000) (hb:(dig b).length<=1000000) :
  Calls prog 179 #[v1,v2] w fun e w'=>e=.returned (.int .i64 (cmpN a b))/\Below w.heap.size w w':=by
 refine (call0 (fun S tk k=>Aig S tk k a b ha hb) ht (by simp only [VRs]; exact ⟨h1,h2,trivial⟩)).mono ?_
 rintro e w' ⟨v,rfl,hb,hv⟩
 simp only [VR] at hv
 rw [hv]
 exact ⟨rfl,hb⟩
theorem Ach {w:World} {v1 v2:Value} {a b:Nat} (ht:Tab0 w) (h1:RD w v1 (dig a)) (h2:RD w v2 (dig b)) (ha:(dig a).length<=100000) (hb:(dig b).length<=100000) :
  Calls prog 182 #[v1,v2] w fun e w'=>∃ v,e=.returned v/\Below w.heap.size w w'/\RD w' v (dig (a*b)) :=
 call0 (fun S tk k=>Aaa S tk k a b ha hb) ht (by simp only [VRs]; exact ⟨h1,h2,trivial⟩)
theorem Ac2 {w:World} {base:Nat} {v:Value} {zs:List Int} (hO:OR w base v zs) (hb:0<base) (hl:zs.length<=1000000) :
  Calls prog 180 #[v] w fun e w'=>∃ v',e=.returned v'/\w'=w/\OR w base v' (B0 zs):=by
 obtain ⟨av,cv,rfl,hcv,hcells⟩:=Kf (hO.rd hb)
 refine (V7 w av cv zs hl hcv fun j x hx=>?_).mono ?_
 ·obtain ⟨b',o',h1,h2,-⟩:=hcells j x hx
  exact ⟨b',o',h1,h2⟩
 ·rintro e w' ⟨rfl,rfl⟩
  exact ⟨_,rfl,rfl,hO.trim⟩
theorem OR.weaken {w:World} {base base':Nat} {v:Value} {zs:List Int} (h:OR w base v zs) (hb:base'<=base):OR w base' v zs:=by
 refine ⟨h.1,?_⟩
 rcases h.2 with h0|⟨g,cap,cur,rfl,h1,h2,h3⟩
 ·exact .inl h0
 ·exact .inr ⟨g,cap,cur,rfl,by omega,h2,h3⟩
theorem Ao5 (w:World) (base:Nat):OR w base (.slice none 0 0) []:=⟨rfl,.inl ⟨rfl,rfl⟩⟩
theorem Al0 {w:World} {d:Int} (h0:0<w.heap.size):RD (w.alloc (.cells #[num d] 3)) (.slice (some ⟨w.heap.size,0,none⟩) 1 1) [d]:=by
 refine Amt (zs:=[d]) trivial (Nat.le_refl _) fun j x hx=>?_
 cases j with
 | zero =>
  simp only [nth,Option.some.injEq] at hx
  subst hx
  rw [Lib.cell_of_heap (Ag w _)]; rfl
 | succ j=>simp [nth] at hx
theorem makeN {w:World} {N:Nat} (hN:N<=1000000) {ops:Array Oper} {rest:List Oper} {op:Oper} {a:Act} {Q:Exit->Act->World->Prop} {l c:Operand} (hgd:op.guard=none) (hop:op.op=.makeSlice 45 l c) (hl:a.eval l=.int .i64 (N:Nat)) (hc:a.eval c=.int .i64 (N:Nat))
  (h:∀ w',w'.heap[w.heap.size]?=some (.cells ((List.replicate N (0:Int)).map num).toArray 3 (0,0))->Below w.heap.size w w'->wpList prog ops Q rest (a.put op.dst (.slice (some ⟨w.heap.size,0,none⟩) N N)) w'):wpList prog ops Q (op :: rest) a w:=by
 obtain ⟨i0,hi,hz0,hz1,hz2⟩:=info_parts Ahc
 refine wpList_make_row (P:=prog) w hgd l c 45 hop 3 i0 (.int .i64 0) underlying45 hi hz0 hz1 rfl .i64 .i64 N hl hc (by rw [hz2]; omega) (by omega) ?_
 have e:madeCells #[num 0] N=((List.replicate N (0:Int)).map num).toArray:=by
  apply Array.ext
  ·simp [madeCells]
  ·intro i h1 h2
   simp [madeCells,Nat.mod_one]
 rw [e]
 exact h _ (Ag w _) ((Below.refl _ _).alloc (Nat.le_refl _) _)
def topV (A:List Int) (k:Nat):Nat:=(val (A.drop k)).toNat
structure QI (A:List Int) (b k R:Nat) (qs:List Int):Prop where
 len:qs.length=A.length
 ok:okD qs
 zero:∀ j x,j<k->nth qs j=some x->x=0
 rest:R=topV A k % b
 eqv:val qs=10000 ^ k*(topV A k / b:Nat)
theorem QI.start (A:List Int) (b:Nat):QI A b A.length 0 (List.replicate A.length 0):=by
 have h0:topV A A.length=0:=by unfold topV; rw [List.drop_length]; rfl
 have hz:∀ (n j:Nat) (x:Int),nth (List.replicate n (0:Int)) j=some x->x=0:=fun n j x h=>by
  rw [Ac] at h
  exact (List.mem_replicate.1 (List.mem_of_getElem? h)).2
 refine ⟨by simp,Yj fun j x hx=>by rw [hz _ _ _ hx]; omega,fun j x _ hx=>hz _ _ _ hx,by rw [h0]; simp,?_⟩
 rw [Gs,h0]; simp
theorem Rr {A:List Int} (hA:okD A) {k:Nat} {x:Int} (hx:nth A k=some x):topV A k=x.toNat+10000*topV A (k+1):=by
 unfold topV
 rw [Ar hx,val]
 have h1:=D6 hA hx
 have h2:=Dv (l:=A.drop (k+1)) fun d hd=>hA d (List.mem_of_mem_drop hd)
 omega
theorem QI.step {A:List Int} {b k R:Nat} {qs:List Int} {x:Int} (hA:okD A) (hb:0<b) (h:QI A b (k+1) R qs) (hx:nth A k=some x) :
  (x.toNat+10000*R) / b<10000/\topV A k / b=10000*(topV A (k+1) / b)+(x.toNat+10000*R) / b/\topV A k % b=(x.toNat+10000*R) % b:=by
 have hr:=h.rest
 have hxk:=D6 hA hx
 have hRb:R<b:=by rw [hr]; exact Nat.mod_lt _ hb
 have hdm:=Nat.div_add_mod (topV A (k+1)) b
 rw [<- hr] at hdm
 have hs:=Rr hA hx
 have e:topV A k=(x.toNat+10000*R)+b*(10000*(topV A (k+1) / b)):=by
  rw [hs,Nat.mul_left_comm]; omega
 refine ⟨?_,?_,?_⟩
 ·rw [Nat.div_lt_iff_lt_mul hb]
  have:10000*(R+1)<=10000*b:=Nat.mul_le_mul_left _ hRb
  omega
 ·rw [e,Nat.add_mul_div_left _ _ hb]; omega
 ·rw [e,Nat.add_mul_mod_self_left]
theorem QI.small {A:List Int} {b k R:Nat} {qs:List Int} {x:Int} (hA:okD A) (hb:0<b) (h:QI A b (k+1) R qs) (hx:nth A k=some x) (hlt:x.toNat+10000*R<b):QI A b k (x.toNat+10000*R) qs:=by
 obtain ⟨-,h2,h3⟩:=h.step hA hb hx
 rw [Nat.div_eq_of_lt hlt] at h2
 rw [Nat.mod_eq_of_lt hlt] at h3
 refine ⟨h.len,h.ok,fun j y hj hy=>h.zero j y (by omega) hy,h3.symm,?_⟩
 have e1:((10000*(topV A (k+1) / b)+0:Nat):Int)=10000*((topV A (k+1) / b:Nat):Int):=by omega
 rw [h.eqv,h2,Int.pow_succ,e1,Int.mul_assoc]
theorem QI.big {A:List Int} {b k R:Nat} {qs:List Int} {x:Int} (hA:okD A) (hb:0<b) (h:QI A b (k+1) R qs) (hx:nth A k=some x) {d:Nat} (hd:d=(x.toNat+10000*R) / b):QI A b k (x.toNat+10000*R - b*d) (qs.set k (d:Int)):=by
 obtain ⟨h1,h2,h3⟩:=h.step hA hb hx
 have hk:k<qs.length:=by rw [h.len]; exact Bb hx
 obtain ⟨y,hy⟩:=Ab hk
 have hy0:=h.zero k y (by omega) hy
 subst hy0
 refine ⟨by rw [List.length_set]; exact h.len,Vp h.ok (by omega) (by omega),fun j y hj y9=>?_,?_,?_⟩
 ·rcases Ed y9 with ⟨rfl,-⟩|⟨-,y9⟩
  ·omega
  ·exact h.zero j y (by omega) y9
 ·rw [h3,hd]
  have:=Nat.div_add_mod (x.toNat+10000*R) b
  omega
 ·rw [Jd hy,h.eqv,h2,Int.pow_succ,<- hd]
  have e1:((10000*(topV A (k+1) / b)+d:Nat):Int)=10000*(topV A (k+1) / b:Nat)+(d:Int):=by omega
  rw [e1,Int.mul_add,<- Int.mul_assoc,Int.sub_zero,Int.mul_comm (d:Int)]
theorem QI.done {a b R:Nat} {qs:List Int} (h:QI (dig a) b 0 R qs):B0 qs=dig (a / b)/\R=a % b:=by
 have ht:topV (dig a) 0=a:=by unfold topV; rw [List.drop_zero,Bj]; rfl
 have h1:=h.rest
 have h2:=h.eqv
 rw [ht] at h1 h2
 refine ⟨?_,h1⟩
 rw [Dp h.ok,h2,Int.pow_zero,Int.one_mul,Int.toNat_natCast]
theorem Aep {R:Nat} {x:Int} (hx:0<=x/\x<10000):B0 (x :: dig R)=dig (x.toNat+10000*R):=by
 rw [Dp (fun d hd=>by
  rcases List.mem_cons.1 hd with rfl|hd
  ·exact hx
  ·exact Ba R d hd)]
 congr 1
 simp only [val,Bj]; omega
end Go.Proofs.YtcandeobhlfkbaaGreat
namespace Go.Proofs.YtcandeobhlfkbaaGreat
open Go Tryz Go.RowKit
theorem Aol {w:World} {g i:Nat} {qs:List Int} {d x:Int} (h:w.heap[g]?=some (.cells (qs.map num).toArray 3 (0,0))) (hi:nth qs i=some x) :
  (w.setCell ⟨g,i,none⟩ (num d)).heap[g]?=some (.cells ((qs.set i d).map num).toArray 3 (0,0)):=by
 unfold World.setCell
 simp only
 rw [Array.getElem?_modify,if_pos rfl,h]
 simp [List.map_set]
theorem Aim {w:World} {g i:Nat} {v:Value} : Below g w (w.setCell ⟨g,i,none⟩ v) :=
 Et (Nat.le_refl _) [v] i w (Below.refl _ _)
theorem OR.set {w:World} {g i:Nat} {u v:Value} {zs:List Int} (h:OR w (g+1) v zs):OR (w.setCell ⟨g,i,none⟩ u) (g+1) v zs:=by
 refine ⟨h.1,?_⟩
 rcases h.2 with h0|⟨g',cap,cur,rfl,h1,h2,h3⟩
 ·exact .inl h0
 ·refine .inr ⟨g',cap,cur,rfl,h1,?_,h3⟩
  unfold World.setCell
  simp only
  rw [Array.getElem?_modify,if_neg (by omega)]
  exact h2
theorem Rl {w:World} {g:Nat} {qs:List Int} (h:w.heap[g]?=some (.cells (qs.map num).toArray 3 (0,0))) {j:Nat} {x:Int} (hx:nth qs j=some x):w.cell? ⟨g,0+j,none⟩=some (num x):=by
 rw [Ac] at hx
 rw [Lib.cell_of_heap h,Nat.zero_add,List.getElem?_toArray,List.getElem?_map,hx]; rfl
theorem Aqa {w:World} {g cap:Nat} {qs:List Int} (h:w.heap[g]?=some (.cells (qs.map num).toArray 3 (0,0))) (_hg:True) (hc:qs.length<=cap):RD w (.slice (some ⟨g,0,none⟩) (B0 qs).length cap) (B0 qs):=by
 refine Amt trivial (Nat.le_trans (M1 qs) hc) fun j x hx=>Rl h ?_
 have hlt:=Bb hx
 rw [Ga,Ac,List.getElem?_take_of_lt hlt,<- Ac] at hx
 exact hx
theorem Xk {T b:Nat} (h:T<10000*b):(dig T).length<=(dig b).length+1:=Bf.2 (by
 have h1:=Bf.1 (Nat.le_refl (dig b).length)
 rw [Nat.pow_succ,Nat.mul_comm (10000 ^ (dig b).length)]
 exact Nat.lt_of_lt_of_le h (Nat.mul_le_mul_left _ (Nat.le_of_lt h1)))
theorem Apr (x y:Nat):cmpN x y<=0↔x<=y:=by
 unfold cmpN
 split
 ·constructor <;> omega
 ·split <;> constructor <;> omega
def NewB (base:Nat) (v:Value):Prop:=∀ b o n c,v=.slice (some ⟨b,o,none⟩) n c->base<=b
theorem OR.newB {w:World} {base base':Nat} {v:Value} {zs:List Int} (h:OR w base v zs) (hb:base'<=base):NewB base' v:=fun b _ _ _ e=>Nat.le_trans hb (h.lt b (by rw [e]; rfl)).1
theorem Aed {base g n c:Nat} (h:base<=g):NewB base (.slice (some ⟨g,0,none⟩) n c):=by
 intro b o n' c' e
 cases e
 exact h
set_option maxHeartbeats 8000000 in
set_option maxRecDepth 100000 in
theorem Yp (w:World) (va vb:Value) (a b:Nat) (ht:Tab0 w) (ha:RD w va (dig a)) (hb:RD w vb (dig b)) (hb0:0<b) (hla:(dig a).length<=90000) (hlb:(dig b).length<=90000) :
  Calls prog 174 #[va,vb] w fun e w'=>∃ v1 v2,e=.returned (.tuple #[v1,v2])/\RD w' v1 (dig (a / b))/\RD w' v2 (dig (a % b))/\Below w.heap.size w w'/\NewB w.heap.size v1/\(v2=va/\a % b=a\/NewB w.heap.size v2):=by
 have hO:=Yk ht ha hb (by omega) (by omega)
 have hRA:=ha
 obtain ⟨ax,cx,rfl,hcx,hX⟩:=Kf ha
 have HX:=Lib.hid hX
 have HKX:=Lib.hid (Ba a)
 have HRA:=Lib.hid hRA
 have HRB:=Lib.hid hb
 have HT:=Lib.hid ht
 have HD:=Lib.hid (fun (R:Nat) (qs:List Int) (h:QI (dig a) b 0 R qs)=>h.done)
 have HS:=Lib.hid (QI.start (dig a) b)
 clear hX ha hb hRA ht
 generalize hXX:dig a=X at *
 generalize hN:X.length=N at *
 have HO:=Lib.hid hO
 have HN:=Lib.hid (show N<=1000000 by omega)
 clear hO
 by_cases hab:a<b
 ·have hc:cmpN a b<0:=by simp [cmpN,hab]
  go_enter func174,ntmps174
  go_wp2_with (go_at_call 179; refine HO.out.mono ?_; rintro e w1 ⟨rfl,hb1⟩)
  go_ret2
  have e1:a / b=0:=Nat.div_eq_of_lt hab
  have e2:a % b=a:=Nat.mod_eq_of_lt hab
  rw [e1,e2,Dc]
  exact ⟨_,_,rfl,Alz _ _ _,by rw [hXX]; exact HRA.out.below hb1,hb1,fun b o n c h=>(by cases h),.inl ⟨rfl,rfl⟩⟩
 have hc:¬ cmpN a b<0:=by
  unfold cmpN
  rw [if_neg hab]; split <;> omega
 go_enter func174,ntmps174
 go_wp2_with (first
  | (go_at_call 179; refine HO.out.mono ?_; rintro e w1 ⟨rfl,hb1⟩; have HB1:=Lib.hid hb1; clear hb1)
  | (at_make; refine makeN HN.out rfl rfl rfl rfl ?_; intro w2 hq2 hb2; have HQ2:=Lib.hid hq2; have HB2:=Lib.hid (HB1.out.trans (hb2.mono HB1.out.size)); clear hq2 hb2))
 have hgq:w.heap.size<=w1.heap.size:=HB1.out.size
 generalize hGQ:w1.heap.size=gq at *
 have HGP:=Lib.hid (show 0<w.heap.size from HT.out.pos)
 have HW2:=Lib.hid (Array.getElem?_eq_some_iff.1 HQ2.out).1
 go_loopw [7,8] (fun v i wr=>∃ (k R:Nat) (qs:List Int),i=.int .i64 ((k:Int) - 1)/\k<=N/\Hid (QI X b k R qs)/\Hid (OR wr (gq+1) v (dig R))/\Hid (wr.heap[gq]?=some (.cells (qs.map num).toArray 3 (0,0)))/\Hid (Below w.heap.size w wr)) (fun _ i _=>(Jk i+1).toNat)
 case atStart=>exact ⟨N,0,_,congrArg (Value.int .i64) (by omega),Nat.le_refl _,HS,Lib.hid (by rw [Dc]; exact Ao5 _ _),HQ2,HB2⟩
 case round =>
  obtain ⟨k,R,qs,rfl,hk,HI,HR,HQ,HB⟩:=hrel
  cases k with
  | zero =>
   have hql:qs.length=N:=HI.out.len.trans hN
   have hT:=V7 wr (some ⟨gq,0,none⟩) N qs (by omega) (by omega) fun j x hx=>⟨gq,0,rfl,Rl HQ.out hx⟩
   have HV:=Lib.hid (Aqa (cap:=N) HQ.out trivial (by omega))
   have HE:=Lib.hid (HD.out R qs HI.out)
   rw [hql] at hT
   have HTr:=Lib.hid hT
   clear hT
   go_wp2_with (go_at_call 180; refine HTr.out.mono ?_; rintro e w6 ⟨rfl,rfl⟩)
   go_ret2
   obtain ⟨e1,e2⟩:=HE.out
   have hv:=HV.out
   rw [e1] at hv ⊢
   exact ⟨_,_,rfl,hv,by rw [<- e2]; exact HR.out.rd (by omega),HB.out,Aed (by omega),.inr (HR.out.newB (by omega))⟩
  | succ k =>
   obtain ⟨x,hx⟩:=Ab (show k<X.length by omega)
   obtain ⟨bx,ox,rfl,hcx0,-⟩:=HX.out k x hx
   have hxk:=HKX.out x (by rw [Ac] at hx; exact List.mem_of_getElem? hx)
   have hcell:=(HB.out.cell (Dn hcx0)).trans hcx0
   have hi:(((k+1:Nat):Int) - 1)=(k:Int):=by omega
   rw [hi]
   have hi1:IntKind.i64.wrap ((k:Int) - 1)=(k:Int) - 1:=Ad (by unfold i64; omega)
   have hg1:(k:Int) >= 0:=by omega
   have hg2:(k:Int)<(N:Int):=by omega
   have hQl:=(Array.getElem?_eq_some_iff.1 HQ.out).1
   have hRl:(dig R).length<=90000:=by
    have h1:R<b:=by rw [HI.out.rest]; exact Nat.mod_lt _ hb0
    exact Nat.le_trans (Bf.2 (Nat.lt_trans h1 (Bf.1 (Nat.le_refl _)))) hlb
   have hB3:Below wr.heap.size wr (wr.alloc (.cells #[num x] 3)):=(Below.refl _ _).alloc (Nat.le_refl _) _
   have hIns:=Ad3 (gq+1) (wr.alloc (.cells #[num x] 3)) _ (dig R) x wr.heap.size (HR.out.below hB3) (by have:=hB3.size; omega) (Ag wr _) (fun g n c hv=>by
    have:=HR.out.lt g (by rw [hv]; rfl)
    omega) (by omega)
   have HIns:=Lib.hid hIns
   have HXX:=Lib.hid hx
   have hTa:=Aep (R:=R) hxk
   have hTb:x.toNat+10000*R<10000*b:=by
    have h1:R<b:=by rw [HI.out.rest]; exact Nat.mod_lt _ hb0
    omega
   have HSm:=Lib.hid (HI.out.small (b:=b) HKX.out hb0 hx)
   have HBg:=Lib.hid (fun d=>HI.out.big (b:=b) (d:=d) HKX.out hb0 hx)
   generalize hTT:x.toNat+10000*R=T at *
   have hTl:(dig T).length<=90001:=Nat.le_trans (Xk hTb) (by omega)
   have HTa:=Lib.hid hTa
   clear hTa
   have HB3:=Lib.hid hB3
   clear hIns hx hcx0 hB3
   have hgq2:w.heap.size<=gq+1:=by omega
   by_cases hlt:T<b
   ·have hc2:cmpN T b<0:=by simp [cmpN,hlt]
    have HSs:=Lib.hid (HSm.out hlt)
    go_wp2_with (go_at_call 181; refine HIns.out.mono ?_; rintro e w4 ⟨v4,rfl,hO4,hB4⟩; have HO4:=Lib.hid hO4; have HB4:=Lib.hid hB4; clear hO4 hB4)
    have HQ5:=Lib.hid ((HB4.out.block gq (Nat.lt_succ_self _)).trans ((HB3.out.block gq hQl).trans HQ.out))
    have HB5:=Lib.hid ((HB.out.trans (HB3.out.mono HB.out.size)).trans (HB4.out.mono hgq2))
    go_wp2_with (go_at_call 180; refine (Ac2 HO4.out (Nat.succ_pos _) (by simp; omega)).mono ?_; rintro e w5 ⟨v5,rfl,rfl,hO5⟩; rw [HTa.out] at hO5; have HO5:=Lib.hid hO5; clear hO5)
    have HT5:=Lib.hid (HT.out.below HGP.out HB5.out)
    go_wp2_with (go_at_call 179; refine (Yk HT5.out (HO5.out.rd (Nat.succ_pos _)) (HRB.out.below HB5.out) (by omega) (by omega)).mono ?_; rintro e w6 ⟨rfl,hb6⟩; have HB6:=Lib.hid hb6; clear hb6)
    exact ⟨⟨k,T,qs,rfl,by omega,HSs,Lib.hid (HO5.out.below HB6.out),Lib.hid ((HB6.out.block gq (Array.getElem?_eq_some_iff.1 HQ5.out).1).trans HQ5.out),Lib.hid (HB5.out.trans (HB6.out.mono HB5.out.size))⟩,by simp [Jk]⟩
   ·have hc2:¬ cmpN T b<0:=by
     unfold cmpN
     rw [if_neg hlt]; split <;> omega
    obtain ⟨d,hd⟩:∃ d,d=T / b:=⟨_,rfl⟩
    have hd1:1<=d:=by rw [hd]; exact (Nat.le_div_iff_mul_le hb0).2 (by omega)
    have hd2:d<=9999:=by
     have:d<10000:=by rw [hd]; exact (Nat.div_lt_iff_lt_mul hb0).2 hTb
     omega
    have HDv:=Lib.hid (fun m:Nat=>(show b*m<=T↔m<=d by rw [hd,Nat.le_div_iff_mul_le hb0,Nat.mul_comm]))
    have HBd:=Lib.hid (HBg.out d hd)
    have hTd:b*d<=T:=by rw [hd]; exact Nat.mul_div_le T b
    have HTd:=Lib.hid hTd
    clear hd hTd
    go_wp2_with (go_at_call 181; refine HIns.out.mono ?_; rintro e w4 ⟨v4,rfl,hO4,hB4⟩; have HO4:=Lib.hid hO4; have HB4:=Lib.hid hB4; clear hO4 hB4)
    have HQ5:=Lib.hid ((HB4.out.block gq (Nat.lt_succ_self _)).trans ((HB3.out.block gq hQl).trans HQ.out))
    have HB5:=Lib.hid ((HB.out.trans (HB3.out.mono HB.out.size)).trans (HB4.out.mono hgq2))
    go_wp2_with (go_at_call 180; refine (Ac2 HO4.out (Nat.succ_pos _) (by simp; omega)).mono ?_; rintro e w5 ⟨v5,rfl,rfl,hO5⟩; rw [HTa.out] at hO5; have HO5:=Lib.hid hO5; clear hO5)
    have HT5:=Lib.hid (HT.out.below HGP.out HB5.out)
    go_wp2_with (go_at_call 179; refine (Yk HT5.out (HO5.out.rd (Nat.succ_pos _)) (HRB.out.below HB5.out) (by omega) (by omega)).mono ?_; rintro e w6 ⟨rfl,hb6⟩; have HB6:=Lib.hid hb6; clear hb6)
    have HB7:=Lib.hid (HB5.out.trans (HB6.out.mono HB5.out.size))
    have HQ7:=Lib.hid ((HB6.out.block gq (Array.getElem?_eq_some_iff.1 HQ5.out).1).trans HQ5.out)
    have HO7:=Lib.hid (HO5.out.below HB6.out)
    clear HIns HSm HBg HO4 HB4 HB6 HO5 HT5 HQ5 HB5 HB3 hc2
    go_loopw [9,10] (fun lo hi wq=>∃ l h:Nat,lo=.int .i64 l/\hi=.int .i64 h/\1<=l/\l<=d/\d<=h/\h<=9999/\Hid (Below w6.heap.size w6 wq)) (fun lo hi _=>(Jk hi - Jk lo).toNat)
    case atStart=>exact ⟨1,9999,rfl,rfl,Nat.le_refl _,hd1,hd2,Nat.le_refl _,Lib.hid (Below.refl _ _)⟩
    case round =>
     obtain ⟨l,h,rfl,rfl,hl1,hl2,hh1,hh2,HBq⟩:=hrel
     by_cases hlh:l<h
     ·have hg3:(l:Int)<(h:Int):=by omega
      obtain ⟨m,hm⟩:∃ m:Nat,m=(l+h+1) / 2:=⟨_,rfl⟩
      have hw1:IntKind.i64.wrap ((l:Int)+(h:Int))=(l:Int)+(h:Int):=Ad (by unfold i64; omega)
      have hw2:IntKind.i64.wrap ((l:Int)+(h:Int)+1)=(l:Int)+(h:Int)+1:=Ad (by unfold i64; omega)
      have hdv:((l:Int)+(h:Int)+1) / 2=(m:Int):=by omega
      have hwm:IntKind.i64.wrap (m:Int)=(m:Int):=Ad (by unfold i64; omega)
      have hwp:IntKind.i64.wrap (((l:Int)+(h:Int)+1) / 2 - 1)=((l:Int)+(h:Int)+1) / 2 - 1:=Ad (by unfold i64; omega)
      have hd1:dig m=[((l:Int)+(h:Int)+1) / 2]:=by
       rw [hdv]
       have:=Nf (d:=(m:Int)) (by omega) (by omega)
       rwa [Int.toNat_natCast] at this
      have hBa:Below wr.heap.size wr (wr.alloc (.cells #[num (((l:Int)+(h:Int)+1) / 2)] 3)):=(Below.refl _ _).alloc (Nat.le_refl _) _
      have hBw:Below w.heap.size w wr:=HB7.out.trans (HBq.out.mono HB7.out.size)
      have hTq:Tab0 wr:=HT.out.below HGP.out hBw
      have hpq:0<wr.heap.size:=hTq.pos
      have hbm:(dig (b*m)).length<=(dig b).length+1:=Xk (by rw [Nat.mul_comm]; exact Nat.mul_lt_mul_of_pos_right (by omega) hb0)
      have HP:=Lib.hid (Ach (a:=b) (b:=m) (hTq.below hpq hBa) (HRB.out.below (hBw.trans (hBa.mono hBw.size))) (by rw [hd1]; exact Al0 hpq) (by omega) (by rw [hd1]; simp))
      have HBa:=Lib.hid hBa
      have HBw:=Lib.hid hBw
      have HCm:=Lib.hid (Apr (b*m) T)
      have HDv2:=Lib.hid hdv
      have HDv3:=Lib.hid hm
      clear hBa hBw hTq hd1 hdv hm hwm
      by_cases hmd:m<=d
      ·have hc3:cmpN (b*m) T<=0:=HCm.out.2 ((HDv.out m).2 hmd)
       go_wp2_with (go_at_call 182; refine HP.out.mono ?_; rintro e w8 ⟨v8,rfl,hb8,hr8⟩; have HB8:=Lib.hid hb8; have HR8:=Lib.hid hr8; clear hb8 hr8)
       have HB9:=Lib.hid (HBa.out.trans (HB8.out.mono HBa.out.size))
       have HT9:=Lib.hid (HT.out.below HGP.out (HBw.out.trans (HB9.out.mono HBw.out.size)))
       have HO9:=Lib.hid ((HO7.out.below (HBq.out)).below HB9.out)
       go_wp2_with (go_at_call 179; refine (Yk HT9.out HR8.out (HO9.out.rd (Nat.succ_pos _)) (by omega) (by omega)).mono ?_; rintro e w10 ⟨rfl,hb10⟩; have HB10:=Lib.hid hb10; clear hb10)
       have hE:=HDv2.out
       have hE3:=HDv3.out
       refine ⟨⟨m,h,congrArg _ hE,rfl,by omega,hmd,hh1,hh2,Lib.hid ((HBq.out.trans (HB9.out.mono HBq.out.size)).trans (HB10.out.mono (Nat.le_trans HBq.out.size HB9.out.size)))⟩,?_⟩
       simp only [Jk]
       omega
      ·have hc3:¬ cmpN (b*m) T<=0:=fun h'=>hmd ((HDv.out m).1 (HCm.out.1 h'))
       go_wp2_with (go_at_call 182; refine HP.out.mono ?_; rintro e w8 ⟨v8,rfl,hb8,hr8⟩; have HB8:=Lib.hid hb8; have HR8:=Lib.hid hr8; clear hb8 hr8)
       have HB9:=Lib.hid (HBa.out.trans (HB8.out.mono HBa.out.size))
       have HT9:=Lib.hid (HT.out.below HGP.out (HBw.out.trans (HB9.out.mono HBw.out.size)))
       have HO9:=Lib.hid ((HO7.out.below (HBq.out)).below HB9.out)
       go_wp2_with (go_at_call 179; refine (Yk HT9.out HR8.out (HO9.out.rd (Nat.succ_pos _)) (by omega) (by omega)).mono ?_; rintro e w10 ⟨rfl,hb10⟩; have HB10:=Lib.hid hb10; clear hb10)
       have hE:=HDv2.out
       have hE3:=HDv3.out
       refine ⟨⟨l,m - 1,rfl,congrArg _ (by omega),hl1,hl2,by omega,by omega,Lib.hid ((HBq.out.trans (HB9.out.mono HBq.out.size)).trans (HB10.out.mono (Nat.le_trans HBq.out.size HB9.out.size)))⟩,?_⟩
       simp only [Jk]
       omega
     ·have hlde:l=d:=by omega
      subst hlde
      have hg3:¬ (l:Int)<(h:Int):=by omega
      have hBw:Below w.heap.size w wr:=HB7.out.trans (HBq.out.mono HB7.out.size)
      have hTq:Tab0 wr:=HT.out.below HGP.out hBw
      have hpq:0<wr.heap.size:=hTq.pos
      have hql:qs.length=N:=HI.out.len.trans hN
      obtain ⟨y,hy⟩:=Ab (show k<qs.length by omega)
      have hQq:wr.heap[gq]?=some (.cells (qs.map num).toArray 3 (0,0)):=(HBq.out.block gq (Array.getElem?_eq_some_iff.1 HQ7.out).1).trans HQ7.out
      have hcq:wr.cell? ⟨gq,k,none⟩=some (num y):=by
       have:=Rl hQq hy
       rwa [Nat.zero_add] at this
      have hfq:wr.frozen? ⟨gq,k,none⟩=false:=by simp [World.frozen?,hQq]
      have HQ8:=Lib.hid (Aol (d:=(l:Int)) hQq hy)
      have hS:Below gq wr (wr.setCell ⟨gq,k,none⟩ (num (l:Int))):=Aim
      have HBw2:=Lib.hid (hBw.trans (hS.mono (by omega)))
      have HO8:=Lib.hid ((HO7.out.below HBq.out).set (i:=k) (u:=num (l:Int)))
      clear hQq hS hBw hTq hy
      have hsz:(wr.setCell ⟨gq,k,none⟩ (num (l:Int))).heap.size=wr.heap.size:=by simp [World.setCell]
      have hdl:dig l=[(l:Int)]:=by
       have:=Nf (d:=(l:Int)) (by omega) (by omega)
       rwa [Int.toNat_natCast] at this
      have hBa:Below (wr.setCell ⟨gq,k,none⟩ (num (l:Int))).heap.size (wr.setCell ⟨gq,k,none⟩ (num (l:Int))) ((wr.setCell ⟨gq,k,none⟩ (num (l:Int))).alloc (.cells #[num (l:Int)] 3)):=(Below.refl _ _).alloc (Nat.le_refl _) _
      have hBw3:=HBw2.out.trans (hBa.mono HBw2.out.size)
      have hP:=Ach (a:=b) (b:=l) (HT.out.below HGP.out hBw3) (HRB.out.below hBw3) (by rw [hdl]; exact Al0 (by rw [hsz]; exact hpq)) (by omega) (by rw [hdl]; simp)
      rw [hsz] at hP
      have HP:=Lib.hid hP
      have HBa:=Lib.hid hBa
      have HSz:=Lib.hid hsz
      clear hP hBa hBw3 hdl hsz
      go_wp2_with (go_at_call 182; refine HP.out.mono ?_; rintro e w8 ⟨v8,rfl,hb8,hr8⟩; have HB8:=Lib.hid hb8; have HR8:=Lib.hid hr8; clear hb8 hr8)
      have HB9:=Lib.hid (HBa.out.trans (HB8.out.mono HBa.out.size))
      have HBw9:=Lib.hid (HBw2.out.trans (HB9.out.mono HBw2.out.size))
      have HO9:=Lib.hid (HO8.out.below HB9.out)
      have HQ9:=Lib.hid ((HB9.out.block gq (Array.getElem?_eq_some_iff.1 HQ8.out).1).trans HQ8.out)
      go_wp2_with (go_at_call 183; refine (Akx w8 v5 v8 T (b*l) (HO9.out.rd (Nat.succ_pos _)) HR8.out HTd.out (by omega) (Nat.lt_of_lt_of_le HGP.out HBw9.out.size)).mono ?_; rintro e w9 ⟨v9,rfl,hO9,hB9⟩; have HO10:=Lib.hid hO9; have HB10:=Lib.hid hB9; clear hO9 hB9)
      have hgl:=(Array.getElem?_eq_some_iff.1 HQ9.out).1
      exact ⟨⟨k,T - b*l,qs.set k (l:Int),rfl,by omega,HBd,Lib.hid (HO10.out.weaken hgl),Lib.hid ((HB10.out.block gq hgl).trans HQ9.out),Lib.hid (HBw9.out.trans (HB10.out.mono HBw9.out.size))⟩,by simp [Jk]⟩
end Go.Proofs.YtcandeobhlfkbaaGreat
namespace Go.Proofs.YtcandeobhlfkbaaGreat.Iv
section
variable {P:Program}
def Ay (ops:Array Oper) (j:Nat):Option Tmp:=(ops[j]?).bind (·.dst)
def depsOf (ops:Array Oper) (i:Nat):List Nat:=match ops[i]? with|some o=>(o.after.toList.filter (Region.binds .any)).map (·.on)|none=>[]
def Bh (ops:Array Oper) (a0:Act) (f:Nat->Value):List Nat->Act
 | []=>a0
 | j :: l=>(Bh ops a0 f l).put (Ay ops j) (f j)
def Mt (ops:Array Oper) (size i:Nat) (o:Oper):Bool :=
 (match o.op with|.select ..=>false|_=>true) && (depsOf ops i).all (·<i) &&
 (match o.guard with|none=>true|some (g,_)=>(depsOf ops i).contains g) &&
 (o.dst.all fun d=>decide (d<size) && (List.range i).all fun j=>Ay ops j != some d) &&
 (o.op.operands.all fun x=>match x with
  | .tmp t=>(List.range ops.size).all fun j=>Ay ops j != some t || j == i || (depsOf ops i).contains j || (depsOf ops j).contains i
  | _=>true)
def reachAt (ops:Array Oper) (i:Nat):List Nat:=((List.range i).reverse).foldl (fun s j=>if s.contains j then depsOf ops j++s else s) (depsOf ops i)
def Bz (ops:Array Oper) (size m:Nat):Bool :=
 ((List.range ops.size).all fun i=>((ops[i]?).map (Mt ops size i)).getD false) &&
 (List.range ops.size).all fun i=>decide (i<m) || (List.range i).all fun j=>(reachAt ops i).contains j
def Oper.gives (P:Program) (o:Oper) (a:Act) (w:World) (Ψ:Value->World->Prop):Prop :=
 match (execOp a.eval o).run P w with
 | .ok (.value v) w'=>Ψ v w'
 | .ok .skip w'=>Ψ undef w'
 | .ok (.enter f args) w'=>Calls P f args w' fun|.returned v,w''=>Ψ v w''|_,_=>False
 | .ok (.row row args) w'=>Rows P row args w' fun v w''=>Ψ v w''
 | _=>False
def Ug (d:Tmp) (n:Nat) (Ψ:Value->World->Prop):Exit->Act->World->Prop:=fun e a w=>e=.normal/\a.defers.length=n/\Ψ (a.tmps.getD d undef) w
theorem Kx {a:Act} {d:Tmp} {v:Value} (h:d<a.tmps.size):(a.put (some d) v).tmps.getD d undef=v:=by
 simp [Act.put,Array.getD,h]
theorem Js {ops:Array Oper} {o:Oper} {a:Act} {w:World} {d:Tmp} {Ψ:Value->World->Prop} (hd:o.dst=some d) (hs:d<a.tmps.size) (hw:Region.wanted o (yielded ops a.tmps)=true)
  (h:wpList P ops (Ug d a.defers.length Ψ) [o] a w):Oper.gives P o a w Ψ:=by
 unfold wpList at h
 rw [if_pos hw] at h
 rcases h with h|⟨_,a',w',h,_⟩
 ·unfold Oper.wp at h
  unfold Oper.gives
  generalize (execOp a.eval o).run P w=r at *
  cases r with
  | ok n w' =>
   cases n <;> simp only [Oper.upon,wpList,hd] at h ⊢
   case value v=>have:=h.2.2; rwa [Kx hs] at this
   case skip=>have:=h.2.2; rwa [Kx hs] at this
   case defer d'=>have:=h.2.1; simp [Act.put] at this
   case enter f args =>
    refine Calls.mono h fun e w'' he=>?_
    cases e with
    | returned v=>have:=he.2.2; rwa [Kx hs] at this
    | panicked c=>exact absurd he.1 (by simp)
    | outgrown=>obtain ⟨_,_,h,_⟩:=he; exact absurd h (by simp)
   case row row args=>exact Rows.mono h fun v w'' he=>by have:=he.2.2; rwa [Kx hs] at this
  | halt x w' =>
   cases x <;> simp only [Oper.upon] at h
   exact absurd h.1 (by simp)
 ·exact absurd h (by simp)
theorem Tw {o:Oper} {a:Act} {w:World} {Ψ Ψ':Value->World->Prop} (h:Oper.gives P o a w Ψ) (hi:∀ v w',Ψ v w'->Ψ' v w'):Oper.gives P o a w Ψ':=by
 unfold Oper.gives at *
 generalize (execOp a.eval o).run P w=r at *
 cases r with
 | ok n w' =>
  cases n <;> simp only at h ⊢
  case value v=>exact hi _ _ h
  case skip=>exact hi _ _ h
  case enter f args=>exact Calls.mono h fun e w'' he=>by cases e <;> first|exact hi _ _ he|exact he
  case row row args=>exact Rows.mono h fun v w'' he=>hi _ _ he
 | halt x w'=>exact h
theorem J2 (ops:Array Oper) (a0:Act) (f:Nat->Value) (l:List Nat):(Bh ops a0 f l).tmps.size=a0.tmps.size:=by
 induction l with
 | nil=>rfl
 | cons j l ih=>unfold Bh Act.put; split <;> simp [ih]
theorem R7 (ops:Array Oper) (a0:Act) (f:Nat->Value) (l:List Nat):(Bh ops a0 f l).defers=a0.defers:=by
 induction l with
 | nil=>rfl
 | cons j l ih=>unfold Bh Act.put; split <;> simp [ih]
theorem Mv {ops:Array Oper} {a0:Act} {f:Nat->Value} {t:Tmp} {l:List Nat} (h:∀ j,j ∈ l->Ay ops j≠some t):(Bh ops a0 f l).tmps.getD t undef=a0.tmps.getD t undef:=by
 induction l with
 | nil=>rfl
 | cons j l ih =>
  have ih:=ih fun k hk=>h k (by simp [hk])
  unfold Bh Act.put
  cases hd:Ay ops j with
  | none=>exact ih
  | some d =>
   have hne:d≠t:=fun e=>h j (by simp) (by rw [hd,e])
   simp only
   rw [<- ih]
   simp [Array.getD_eq_getD_getElem?,Array.getElem?_setIfInBounds_ne hne]
theorem T7 {ops:Array Oper} {a0:Act} {f:Nat->Value} {t:Tmp} {l:List Nat} {i:Nat} (hi:i ∈ l) (hd:Ay ops i=some t) (hs:t<a0.tmps.size)
  (hu:∀ j,j ∈ l->Ay ops j=some t->j=i):(Bh ops a0 f l).tmps.getD t undef=f i:=by
 induction l with
 | nil=>simp at hi
 | cons j l ih =>
  by_cases hj:Ay ops j=some t
  ·obtain rfl:=hu j (by simp) hj
   unfold Bh
   rw [hj]
   exact Kx (by rw [J2]; exact hs)
  ·have bl:i ∈ l:=by
    rcases List.mem_cons.1 hi with h|h
    ·exact absurd (h ▸ hd) hj
    ·exact h
   have ih:=ih bl fun k hk=>hu k (by simp [hk])
   unfold Bh Act.put
   cases bj:Ay ops j with
   | none=>exact ih
   | some d =>
    have hne:d≠t:=fun e=>hj (by rw [bj,e])
    simp only
    rw [<- ih]
    simp [Array.getD_eq_getD_getElem?,Array.getElem?_setIfInBounds_ne hne]
structure Sofar (ops:Array Oper) (a0:Act) (R1 R2:World->Prop) (s:Nat) (Φ:Nat->World->Value->Prop) (listed:Array Bool) (f:Nat->Value) (a:Act) (w:World):Prop where
 len:listed.size=ops.size
 size:a.tmps.size=a0.tmps.size
 defers:a.defers=a0.defers
 val:∀ j d,listed.getD j false=true->Ay ops j=some d->a.tmps.getD d undef=f j
 old:∀ t,(∀ j,listed.getD j false=true->Ay ops j≠some t)->a.tmps.getD t undef=a0.tmps.getD t undef
 holds:∀ j,listed.getD j false=true->Φ j w (f j)
 one:listed.getD s false=false->R1 w
 two:R2 w
 closed:∀ j,listed.getD j false=true->∀ e ∈ depsOf ops j,listed.getD e false=true
variable {ops:Array Oper} {a0:Act} {R1 R2:World->Prop} {S:World->World->Prop} {Φ:Nat->World->Value->Prop} {m s:Nat}
theorem Lh (ab:Bz ops a0.tmps.size m=true) {i:Nat} {o:Oper} (hi:ops[i]?=some o):Mt ops a0.tmps.size i o=true:=by
 unfold Bz at ab
 rw [Bool.and_eq_true,List.all_eq_true] at ab
 have h:=ab.1 i (by simp; exact (Array.getElem?_eq_some_iff.1 hi).1)
 rw [hi] at h
 exact h
theorem Qa (ab:Bz ops a0.tmps.size m=true) {i:Nat} {d:Tmp} (hd:Ay ops i=some d):d<a0.tmps.size/\i<ops.size/\∀ j,j<i->Ay ops j≠some d:=by
 unfold Ay at hd
 cases ho:ops[i]? with
 | none=>rw [ho] at hd; simp at hd
 | some o =>
  rw [ho] at hd
  have hd:o.dst=some d:=by simpa using hd
  have h:=Lh ab ho
  unfold Mt at h
  simp only [Bool.and_eq_true,hd,Option.all_some,decide_eq_true_eq,List.all_eq_true,List.mem_range,bne_iff_ne] at h
  exact ⟨h.1.2.1,(Array.getElem?_eq_some_iff.1 ho).1,h.1.2.2⟩
theorem Va (ab:Bz ops a0.tmps.size m=true) {i j:Nat} {d:Tmp} (hi:Ay ops i=some d) (hj:Ay ops j=some d):i=j:=by
 rcases Nat.lt_trichotomy i j with h|h|h
 ·exact absurd hi ((Qa ab hj).2.2 i h)
 ·exact h
 ·exact absurd hj ((Qa ab hi).2.2 j h)
theorem Bn {listed:Array Bool} {i:Nat} (h:listed.getD i true=false):listed.getD i false=false:=by
 by_cases hi:i<listed.size
 ·simpa [Array.getD,hi] using h
 ·simp [Array.getD,hi] at h
theorem Sofar.eval {listed:Array Bool} {f:Nat->Value} {a:Act} {w:World} (h:Sofar ops a0 R1 R2 s Φ listed f a w) (ab:Bz ops a0.tmps.size m=true) {i:Nat} {o:Oper} (ho:ops[i]?=some o)
  (d6:listed.getD i false=false) (cr:∀ e ∈ depsOf ops i,listed.getD e false=true) :
  execOp a.eval o=execOp (Bh ops a0 f (depsOf ops i)).eval o/\Region.wanted o (yielded ops a.tmps)=Region.wanted o (yielded ops (Bh ops a0 f (depsOf ops i)).tmps):=by
 have hf:=Lh ab ho
 unfold Mt at hf
 simp only [Bool.and_eq_true] at hf
 obtain ⟨⟨⟨⟨jz,hlt⟩,hg⟩,lz⟩,hop⟩:=hf
 have key:∀ t,(∀ j,Ay ops j=some t->j=i\/j ∈ depsOf ops i\/i ∈ depsOf ops j)->a.tmps.getD t undef=(Bh ops a0 f (depsOf ops i)).tmps.getD t undef:=by
  intro t ht
  by_cases hx:∃ j,listed.getD j false=true/\Ay ops j=some t
  ·obtain ⟨j,hj,da⟩:=hx
   rw [h.val j t hj da]
   rcases ht j da with e|e|e
   ·subst e; rw [d6] at hj; simp at hj
   ·exact (T7 e da (Qa ab da).1 fun k _ hk=>Va ab hk da).symm
   ·have:=h.closed j hj i e; rw [d6] at this; simp at this
  ·rw [h.old t fun j hj da=>hx ⟨j,hj,da⟩,Mv fun j hj da=>hx ⟨j,cr j hj,da⟩]
 refine ⟨execOp_congr o (fun cs b e=>by rw [e] at jz; simp at jz) fun x hx=>?_,?_⟩
 ·cases x with
  | tmp t =>
   have h1:=Array.all_eq_true_iff_forall_mem.1 hop (.tmp t) hx
   simp only [List.all_eq_true,List.mem_range,Bool.or_eq_true,bne_iff_ne,beq_iff_eq,List.contains_iff_mem] at h1
   refine key t fun j hj=>?_
   rcases h1 j (Qa ab hj).2.1 with ((h2|h2)|h2)|h2
   ·exact absurd hj h2
   ·exact .inl h2
   ·exact .inr (.inl h2)
   ·exact .inr (.inr h2)
  | _=>rfl
 ·unfold Region.wanted
  cases hgd:o.guard with
  | none=>rfl
  | some gw =>
   obtain ⟨g,want⟩:=gw
   rw [hgd] at hg
   have yp:g ∈ depsOf ops i:=by simpa using hg
   have:yielded ops a.tmps g=yielded ops (Bh ops a0 f (depsOf ops i)).tmps g:=by
    unfold yielded
    cases za:(ops[g]?).bind (·.dst) with
    | none=>rfl
    | some d =>
     have hgd'':Ay ops g=some d:=za
     have hs:=(Qa ab hgd'').1
     have e:=key d fun j hj=>by rw [Va ab hj hgd'']; exact .inr (.inl yp)
     have s1:d<a.tmps.size:=by rw [h.size]; exact hs
     have s2:d<(Bh ops a0 f (depsOf ops i)).tmps.size:=by rw [J2]; exact hs
     simp only [Array.getD,s1,s2,dif_pos] at e
     simp only [Option.bind_some,Array.getElem?_eq_getElem s1,Array.getElem?_eq_getElem s2]
     have e':a.tmps[d]=(Bh ops a0 f (depsOf ops i)).tmps[d]:=e
     rw [e']
   simp only [this]
theorem Sofar.next {listed:Array Bool} {f:Nat->Value} {a:Act} {w w':World} {v:Value} (h:Sofar ops a0 R1 R2 s Φ listed f a w) (ab:Bz ops a0.tmps.size m=true)
  {i:Nat} {o:Oper} (ho:ops[i]?=some o) (cr:∀ e ∈ depsOf ops i,listed.getD e false=true) (h1:i≠s->listed.getD s false=false->R1 w') (h2:R2 w')
  (u4:∀ j u,j≠i->Φ j w u->Φ j w' u) (hv:Φ i w' v) :
  Sofar ops a0 R1 R2 s Φ (listed.setIfInBounds i true) (fun j=>if j=i then v else f j) (a.put o.dst v) w':=by
 have bl:i<listed.size:=by rw [h.len]; exact (Array.getElem?_eq_some_iff.1 ho).1
 have ag:∀ j,(listed.setIfInBounds i true).getD j false=true↔j=i\/listed.getD j false=true:=by
  intro j
  by_cases e:j=i
  ·subst e; simp [Array.getD,bl]
  ·simp only [e,false_or]
   rw [getD_set_ne false (fun x=>e x.symm)]
 have oq:Ay ops i=o.dst:=by simp [Ay,ho]
 refine ⟨by simp [h.len],?_,?_,?_,?_,?_,?_,h2,?_⟩
 ·unfold Act.put; split <;> simp [h.size]
 ·unfold Act.put; split <;> simp [h.defers]
 ·intro j d hj hd
  by_cases e:j=i
  ·subst e
   rw [oq] at hd
   rw [hd,if_pos rfl]
   exact Kx (by rw [h.size]; exact (Qa ab (by rw [oq]; exact hd)).1)
  ·rw [if_neg e]
   have bt:=((ag j).1 hj).resolve_left e
   rw [<- h.val j d bt hd]
   unfold Act.put
   cases ml:o.dst with
   | none=>rfl
   | some d' =>
    have hne:d'≠d:=fun x=>e (Va ab hd (by rw [oq,ml,x]))
    simp [Array.getD_eq_getD_getElem?,Array.getElem?_setIfInBounds_ne hne]
 ·intro t ht
  rw [<- h.old t fun j hj=>ht j ((ag j).2 (.inr hj))]
  have hi:=ht i ((ag i).2 (.inl rfl))
  rw [oq] at hi
  unfold Act.put
  cases ml:o.dst with
  | none=>rfl
  | some d' =>
   have hne:d'≠t:=fun x=>hi (by rw [ml,x])
   simp [Array.getD_eq_getD_getElem?,Array.getElem?_setIfInBounds_ne hne]
 ·intro j hj
  by_cases e:j=i
  ·subst e; simpa using hv
  ·simp only [if_neg e]
   exact u4 _ _ e (h.holds j (((ag j).1 hj).resolve_left e))
 ·intro hs
  have hne:i≠s:=fun e=>by rw [(ag s).2 (.inl e.symm)] at hs; simp at hs
  refine h1 hne ?_
  cases hl:listed.getD s false with
  | false=>rfl
  | true=>rw [(ag s).2 (.inr hl)] at hs; simp at hs
 ·intro j hj e he
  rcases (ag j).1 hj with x|x
  ·subst x; exact (ag e).2 (.inr (cr e he))
  ·exact (ag e).2 (.inr (h.closed j x e he))
theorem Sofar.full {listed:Array Bool} {f:Nat->Value} {a:Act} {w:World} (h:Sofar ops a0 R1 R2 s Φ listed f a w) (ab:Bz ops a0.tmps.size m=true) {k:Nat} (hk:∀ j,listed.getD j false=true↔j<k) :
  a=Bh ops a0 f (List.range k):=by
 obtain ⟨tm,df⟩:=a
 have e1:df=(Bh ops a0 f (List.range k)).defers:=by rw [R7]; exact h.defers
 have e2:tm=(Bh ops a0 f (List.range k)).tmps:=by
  apply Array.ext
  ·rw [J2]; exact h.size
  ·intro t h1 h2
   have key:tm.getD t undef=(Bh ops a0 f (List.range k)).tmps.getD t undef:=by
    by_cases hx:∃ j,j<k/\Ay ops j=some t
    ·obtain ⟨j,hj,da⟩:=hx
     rw [h.val j t ((hk j).2 hj) da]
     exact (T7 (by simpa using hj) da (Qa ab da).1 fun i _ hi=>Va ab hi da).symm
    ·rw [h.old t fun j hj da=>hx ⟨j,(hk j).1 hj,da⟩,Mv fun j hj da=>hx ⟨j,by simpa using hj,da⟩]
   simpa [Array.getD,h1,h2] using key
 rw [e1,e2]
theorem No (ab:Bz ops a0.tmps.size m=true) {listed:Array Bool} (hc:∀ j,listed.getD j false=true->∀ e ∈ depsOf ops j,listed.getD e false=true) {i:Nat} (hi:i ∈ Region.ready .any ops listed) (hm:m<=i) :
  ∀ j,j<i->listed.getD j false=true:=by
 obtain ⟨_,o,ho,hd⟩:=Bi hi
 unfold Bz at ab
 rw [Bool.and_eq_true,List.all_eq_true,List.all_eq_true] at ab
 have h:=ab.2 i (by simp; exact (Array.getElem?_eq_some_iff.1 ho).1)
 simp only [Bool.or_eq_true,decide_eq_true_eq,List.all_eq_true,List.mem_range,List.contains_iff_mem] at h
 intro j hj
 exact Bc hc hd j ((h.resolve_left (by omega)) j hj)
theorem Uz (ab:Bz ops a0.tmps.size m=true) {Q:Exit->Act->World->Prop} : ∀ (fuel k:Nat) (listed:Array Bool) (a:Act) (w:World),ops.size - k<=fuel->m<=k->listed.size=ops.size ->
  (∀ j,listed.getD j false=true↔j<k)->k<=ops.size->wpOps P ops Q (List.range' k (ops.size - k)) a w->wpAny P .any ops Q fuel listed a w:=by
 intro fuel
 have closed:∀ (k:Nat) (listed:Array Bool),(∀ j,listed.getD j false=true↔j<k)->k<=ops.size->∀ j,listed.getD j false=true->∀ e ∈ depsOf ops j,listed.getD e false=true:=by
  intro k listed hk fi j hj e he
  have hjk:=(hk j).1 hj
  have ho:ops[j]?=some (ops[j]'(by omega)):=Array.getElem?_eq_getElem (by omega)
  have hf:=Lh ab ho
  unfold Mt at hf
  simp only [Bool.and_eq_true] at hf
  have:=List.all_eq_true.1 hf.1.1.1.2 e he
  simp only [decide_eq_true_eq] at this
  exact (hk e).2 (by omega)
 have rdy:∀ (k:Nat) (listed:Array Bool),(∀ j,listed.getD j false=true↔j<k)->k<=ops.size->m<=k->listed.size=ops.size->∀ i ∈ Region.ready .any ops listed,i=k:=by
  intro k listed hk fi hm hl i hi
  obtain ⟨h0,o,ho,hd⟩:=Bi hi
  have h1:=Bn h0
  have iu:k<=i:=by
   rcases Nat.lt_or_ge i k with h|h
   ·rw [(hk i).2 h] at h1; simp at h1
   ·exact h
  have:=No ab (closed k listed hk fi) hi (by omega)
  rcases Nat.lt_or_ge k i with h|h
  ·exact absurd ((hk k).1 (this k h)) (by omega)
  ·omega
 induction fuel with
 | zero =>
  intro k listed a w hf hm hl hk fi h
  have e:ops.size - k=0:=by omega
  rw [e] at h
  refine ⟨?_,h⟩
  apply List.eq_nil_iff_forall_not_mem.2
  intro i hi
  have iu:=rdy k listed hk fi hm hl i hi
  obtain ⟨_,o,ho,_⟩:=Bi hi
  have:=(Array.getElem?_eq_some_iff.1 ho).1
  omega
 | succ fuel ih =>
  intro k listed a w hf hm hl hk fi h
  refine ⟨fun h0=>?_,fun i hi=>?_⟩
  ·-- nothing is ready: the end
   have e:k=ops.size:=by
    rcases Nat.lt_or_ge k ops.size with hlt|c9
    ·have:k ∈ Region.ready .any ops listed:=by
      apply mem_ready.2
      have ho:ops[k]?=some (ops[k]'hlt):=Array.getElem?_eq_getElem hlt
      refine ⟨?_,_,ho,fun e he hb=>?_⟩
      ·have h1:¬ listed.getD k false=true:=fun x=>absurd ((hk k).1 x) (by omega)
       have hkl:k<listed.size:=by omega
       simpa [Array.getD,hkl] using h1
      ·have hf:=Lh ab ho
       unfold Mt at hf
       simp only [Bool.and_eq_true] at hf
       have bq:e.on ∈ depsOf ops k:=by
        unfold depsOf; rw [ho]
        exact List.mem_map.2 ⟨e,List.mem_filter.2 ⟨by simpa using he,hb⟩,rfl⟩
       have:=List.all_eq_true.1 hf.1.1.1.2 _ bq
       simp only [decide_eq_true_eq] at this
       exact (hk _).2 this
     rw [h0] at this; simp at this
    ·omega
   rw [e,Nat.sub_self] at h
   exact h
  ·have iu:=rdy k listed hk fi hm hl i hi
   subst iu
   obtain ⟨_,o,ho,_⟩:=Bi hi
   have hlt:=(Array.getElem?_eq_some_iff.1 ho).1
   have e:ops.size - i=(ops.size - (i+1))+1:=by omega
   rw [e,List.range'_succ,wpOps_cons] at h
   refine wpOp_mono (fun a w h=>ih (i+1) _ a w (by omega) (by omega) (by simpa using hl) (fun j=>?_) (by omega) h) h
   by_cases x:j=i
   ·subst x; simp [Array.getD,hl,hlt]
   ·rw [getD_set_ne false (fun y=>x y.symm),hk j]
    omega
def Ax (listed:Array Bool) (n:Nat):Nat:=(List.range n).countP fun j=>listed.getD j false=false
theorem Ka {listed:Array Bool} {n i:Nat} (hi:i<n) (hl:listed.size=n) (hu:listed.getD i false=false):Ax (listed.setIfInBounds i true) n+1<=Ax listed n:=by
 have key:∀ (l:List Nat),l.Nodup->(l.countP fun j=>(listed.setIfInBounds i true).getD j false=false)+(if i ∈ l then 1 else 0)=l.countP fun j=>listed.getD j false=false:=by
  intro l
  induction l with
  | nil=>intro _; simp
  | cons x l ih =>
   intro hn
   rw [List.nodup_cons] at hn
   have ih:=ih hn.2
   by_cases e:x=i
   ·subst e
    have h1:(listed.setIfInBounds x true).getD x false=true:=by simp [Array.getD,hl,hi]
    rw [List.countP_cons,List.countP_cons,h1,hu,if_neg hn.1] at *
    simp at ih ⊢
    omega
   ·have h1:(listed.setIfInBounds i true).getD x false=listed.getD x false:=getD_set_ne false (fun y=>e y.symm)
    rw [List.countP_cons,List.countP_cons,h1]
    have:(i ∈ x :: l)↔i ∈ l:=by rw [List.mem_cons]; exact ⟨fun h=>h.resolve_left fun y=>e y.symm,.inr⟩
    simp only [this]
    omega
 have:=key (List.range n) List.nodup_range
 rw [if_pos (by simpa using hi)] at this
 unfold Ax
 omega
end
end Go.Proofs.YtcandeobhlfkbaaGreat.Iv
namespace Go.Proofs.YtcandeobhlfkbaaGreat.Iv
open Go.RowKit
abbrev Ext (w w':World):Prop:=Below w.heap.size w w'
theorem Ext.refl (w:World):Ext w w:=Below.refl _ _
theorem Ext.trans {a b c:World} (h:Ext a b) (k:Ext b c):Ext a c:=Below.trans h (k.mono h.size)
theorem Ext.drew {a b:World} (h:Ext a.drew b):Ext a b:=⟨h.os,h.tape,h.output,h.size,h.block⟩
theorem Ext.alloc (w:World) (o:Obj):Ext w (w.alloc o):=(Below.refl _ _).alloc (Nat.le_refl _) _
theorem Ext.frozen {w w':World} (h:Ext w w') {p:Addr} {v:Value} (hc:w.cell? p=some v) (hf:w.frozen? p=false):w'.frozen? p=false:=by
 rw [Below.frozen h (World.block_lt_of_cell? w _ hc)]; exact hf
theorem Ext.set {w w':World} (h:Ext w w') {p:Addr} (hp:w.heap.size<=p.block) (u:Value):Ext w (w'.setCell p u):=Below.setCell h hp u
theorem Ext.cell {w w':World} (h:Ext w w') {p:Addr} {v:Value} (hc:w.cell? p=some v):w'.cell? p=some v:=by
 rw [Below.cell h (World.block_lt_of_cell? w _ hc)]; exact hc
theorem Ed {w:World} {p:Addr} {u v:Value} (h:w.cell? p=some u):(w.setCell p v).cell? p=some v:=World.cell?_setCell_same _ _ _ h
structure Know where
 p:World->Value->Prop
 mono:∀ w w' v,Ext w w'->p w v->p w' v
def Is (x:Value):Know:=⟨fun _ v=>v=x,fun _ _ _ _ h=>h⟩
def Any:Know:=⟨fun _ _=>True,fun _ _ _ _ h=>h⟩
def phi (Ks:List Know) (j:Nat) (w:World) (v:Value):Prop:=(Ks.getD j Any).p w v
theorem Ak9 (Ks:List Know) (j:Nat) (w w':World) (v:Value) (h:Ext w w') (hv:phi Ks j w v):phi Ks j w' v:=(Ks.getD j Any).mono w w' v h hv
structure ExtL (L:List Nat) (w w':World):Prop where
 os:w'.os=w.os
 tape:w'.tape=w.tape
 output:w'.output=w.output
 size:w.heap.size<=w'.heap.size
 block:∀ k,k<w.heap.size->k ∉ L->w'.heap[k]?=w.heap[k]?
theorem ExtL.refl (L:List Nat) (w:World):ExtL L w w:=⟨rfl,rfl,rfl,Nat.le_refl _,fun _ _ _=>rfl⟩
theorem ExtL.trans {L:List Nat} {a b c:World} (h:ExtL L a b) (k:ExtL L b c):ExtL L a c :=
 ⟨k.os.trans h.os,k.tape.trans h.tape,k.output.trans h.output,Nat.le_trans h.size k.size,fun i hi hn=>(k.block i (Nat.lt_of_lt_of_le hi h.size) hn).trans (h.block i hi hn)⟩
theorem ExtL.set {L:List Nat} {w w':World} (h:ExtL L w w') {p:Addr} (hp:p.block ∈ L) (u:Value):ExtL L w (w'.setCell p u) :=
 h.trans ⟨rfl,rfl,rfl,by simp [World.setCell],fun k _ hn=>Below.heap_setCell _ _ _ _ fun e=>hn (e ▸ hp)⟩
theorem ExtL.cell {L:List Nat} {w w':World} (h:ExtL L w w') {p:Addr} (hp:p.block ∉ L) {v:Value} (hc:w.cell? p=some v):w'.cell? p=some v:=by
 rw [World.cell?_of_block (w:=w) (h.block p.block (World.block_lt_of_cell? w _ hc) hp)]; exact hc
def depsL:List Edge->List Nat
 | []=>[]
 | e :: l=>if Region.binds .any e then e.on :: depsL l else depsL l
def depsO (o:Oper):List Nat:=depsL o.after.toList
def putD (ds:List (Option Tmp)) (a0:Act) (f:Nat->Value):List Nat->Act
 | []=>a0
 | j :: l=>(putD ds a0 f l).put (ds.getD j none) (f j)
def wantD (ds:List (Option Tmp)) (o:Oper) (tmps:Array Value):Bool :=
 match o.guard with
 | none=>true
 | some (g,want)=>match (ds.getD g none).bind (tmps[·]?) with|some (.bool b)=>b == want|_=>false
def KnowAll (Ks:List Know) (f:Nat->Value) (w:World):List Nat->Prop
 | []=>True
 | j :: l=>phi Ks j w (f j)/\KnowAll Ks f w l
def Aau (P:Program) (ds:List (Option Tmp)) (a0:Act) (R2:World->Prop) (Ks:List Know) (s i:Nat) (o:Oper):Prop :=
 i≠s->∀ (f:Nat->Value) (w':World),R2 w'->KnowAll Ks f w' (depsO o) ->
  (wantD ds o (putD ds a0 f (depsO o)).tmps=true/\Oper.gives P o (putD ds a0 f (depsO o)) w' (fun v w''=>Ext w' w''/\phi Ks i w'' v))\/(wantD ds o (putD ds a0 f (depsO o)).tmps=false/\phi Ks i w' undef)
def Tc (Γ:Nat->Oper->Prop):Nat->List Oper->Prop
 | _,[]=>True
 | i,o :: l=>Γ i o/\Tc Γ (i+1) l
theorem allOps_cons {Γ:Nat->Oper->Prop} {i:Nat} {o:Oper} {l:List Oper} (h:Γ i o) (hl:Tc Γ (i+1) l):Tc Γ i (o :: l):=⟨h,hl⟩
theorem allOps_nil {Γ:Nat->Oper->Prop} {i:Nat} : Tc Γ i []:=trivial
theorem Wx {Γ:Nat->Oper->Prop} : ∀ {l:List Oper} {i k:Nat} {o:Oper},Tc Γ i l->l[k]?=some o->Γ (i+k) o
 | [],_,_,_,_,h=>by simp at h
 | x :: l,i,0,o,h,e=>by simp at e; subst e; exact h.1
 | x :: l,i,k+1,o,h,e=>by
  have:=Wx (k:=k) h.2 (by simpa using e)
  rw [show i+(k+1)=i+1+k from by omega]; exact this
theorem Agi {ops:Array Oper} {i:Nat} {o:Oper} (h:ops[i]?=some o):depsOf ops i=depsO o:=by
 unfold depsOf depsO; rw [h]
 show (o.after.toList.filter (Region.binds .any)).map (·.on)=depsL o.after.toList
 generalize o.after.toList=l
 induction l with
 | nil=>rfl
 | cons e l ih =>
  simp only [List.filter_cons,depsL]
  split <;> simp_all
theorem Abm {ops:Array Oper} {ds:List (Option Tmp)} (h:ops.toList.map (·.dst)=ds) (j:Nat):Ay ops j=ds.getD j none:=by
 subst h
 unfold Ay
 cases hj:ops[j]? with
 | none=>simp [List.getD,hj]
 | some o=>simp [List.getD,hj]
theorem Ah8 {ops:Array Oper} {ds:List (Option Tmp)} (h:ops.toList.map (·.dst)=ds) (a0:Act) (f:Nat->Value) (l:List Nat):Bh ops a0 f l=putD ds a0 f l:=by
 induction l with
 | nil=>rfl
 | cons j l ih=>unfold Bh putD; rw [ih,Abm h]
theorem Alu {ops:Array Oper} {ds:List (Option Tmp)} (h:ops.toList.map (·.dst)=ds) (o:Oper) (tmps:Array Value):Region.wanted o (yielded ops tmps)=wantD ds o tmps:=by
 unfold Region.wanted wantD
 cases o.guard with
 | none=>rfl
 | some g =>
  obtain ⟨g,want⟩:=g
  simp only [yielded]
  rw [<- Abm h g]
  show ((match (Ay ops g).bind (tmps[·]?) with|some (.bool b)=>some b|_=>none) == some want)=_
  cases (Ay ops g).bind (tmps[·]?) with
  | none=>rfl
  | some v=>cases v <;> rfl
theorem Lj {Ks:List Know} {f:Nat->Value} {w:World} : ∀ {l:List Nat},(∀ j ∈ l,phi Ks j w (f j))↔KnowAll Ks f w l
 | []=>by simp [KnowAll]
 | j :: l=>by
  unfold KnowAll
  rw [<- Lj (l:=l)]
  simp
section
variable {P:Program} {ops:Array Oper} {a0:Act}
theorem Rv {ops:Array Oper} {ds:List (Option Tmp)} {o:Oper} (tmps:Array Value) (hg:o.guard=none):Region.wanted o (yielded ops tmps)=true/\wantD ds o tmps=true:=by
 unfold Region.wanted wantD; rw [hg]; exact ⟨rfl,rfl⟩
theorem Ym (ds:List (Option Tmp)) (a0:Act) (f:Nat->Value) (l:List Nat):(putD ds a0 f l).tmps.size=a0.tmps.size:=by
 induction l with
 | nil=>rfl
 | cons j l ih=>unfold putD Act.put; split <;> simp [ih]
theorem Rb (ds:List (Option Tmp)) (a0:Act) (f:Nat->Value) (l:List Nat):(putD ds a0 f l).defers=a0.defers:=by
 induction l with
 | nil=>rfl
 | cons j l ih=>unfold putD Act.put; split <;> simp [ih]
theorem opGoal_plain {ds:List (Option Tmp)} {R2:World->Prop} {Ks:List Know} {s i:Nat} {o:Oper} {d:Tmp} (hg:o.guard=none) (hd:o.dst=some d) (hs:d<a0.tmps.size)
  (h:∀ (f:Nat->Value) (w':World),R2 w'->KnowAll Ks f w' (depsO o) ->
   wpList P #[] (Ug d a0.defers.length (fun v w''=>Ext w' w''/\phi Ks i w'' v)) [o] (putD ds a0 f (depsO o)) w'):Aau P ds a0 R2 Ks s i o:=by
 intro _ f w' hr hk
 have h2:=h f w' hr hk
 rw [<- Rb ds a0 f (depsO o)] at h2
 exact .inl ⟨(Rv (ops:=#[]) _ hg).2,Js hd (by rw [Ym]; exact hs) (Rv (ds:=ds) _ hg).1 h2⟩
theorem Zo {o:Oper} {a:Act} {w:World} {Ψ:Value->World->Prop} (g:Option (Nat × Bool)) (h:Oper.gives P { o with guard:=g } a w Ψ):Oper.gives P o a w Ψ:=by
 obtain ⟨dst,op,ty,pos,after,guard⟩:=o
 exact h
theorem opGoal_guard {ds:List (Option Tmp)} {R2:World->Prop} {Ks:List Know} {s i:Nat} {dst:Option Tmp} {op:Op} {ty:TypeId} {pos:String} {after:Array Edge} {guard:Option (Nat × Bool)} {g:Nat × Bool} {d:Tmp}
  (_hg:guard=some g) (hd:dst=some d) (hs:d<a0.tmps.size)
  (h:∀ (f:Nat->Value) (w':World),R2 w'->KnowAll Ks f w' (depsO ⟨dst,op,ty,pos,after,guard⟩) ->
   wantD ds ⟨dst,op,ty,pos,after,guard⟩ (putD ds a0 f (depsO ⟨dst,op,ty,pos,after,guard⟩)).tmps=true /\
   wpList P #[] (Ug d a0.defers.length (fun v w''=>Ext w' w''/\phi Ks i w'' v)) [⟨dst,op,ty,pos,after,none⟩] (putD ds a0 f (depsO ⟨dst,op,ty,pos,after,guard⟩)) w') :
  Aau P ds a0 R2 Ks s i ⟨dst,op,ty,pos,after,guard⟩:=by
 intro _ f w' hr hk
 obtain ⟨h1,h2⟩:=h f w' hr hk
 rw [<- Rb ds a0 f (depsO ⟨dst,op,ty,pos,after,guard⟩)] at h2
 exact .inl ⟨h1,Zo none (Js (o:=⟨dst,op,ty,pos,after,none⟩) hd (by rw [Ym]; exact hs) rfl h2)⟩
theorem onePost_is {d:Tmp} {n:Nat} {Ψ:Value->World->Prop} {t:Array Value} {df:List Deferred} {w:World} (v:Value) (h:t[d]?=some v) (hn:df.length=n) (hv:Ψ v w):Ug d n Ψ .normal ⟨t,df⟩ w:=by
 refine ⟨rfl,hn,?_⟩
 rw [Array.getD_eq_getD_getElem?,h]; exact hv
theorem put_some (t:Array Value) (df:List Deferred) (d:Tmp) (v:Value):(Act.mk t df).put (some d) v=⟨t.setIfInBounds d v,df⟩:=rfl
theorem put_none (a:Act) (v:Value):a.put none v=a:=rfl
end
end Go.Proofs.YtcandeobhlfkbaaGreat.Iv
