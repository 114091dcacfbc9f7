/- Part 14. -/
import Derived.Test.YthelkgdmgihhiaaGreatZF13
import Derived.Lib.LazyBuf
open Array renaming getElem?_eq_some_iff->Cj,getElem?_eq_getElem->Ft,toList_setIfInBounds->Sg,getElem?_modify->iC
open Go.Builtin renaming zeroCells->Oo
open Go.IntKind renaming i64->Cd
open Go.Lib renaming hid->Cp
open Go.RowKit.Below renaming refl->Fw
open Go.Value renaming int->jC
open Go.World renaming setCell->iT,frozen?->lC
open Int renaming mul_comm->Fu,mul_assoc->G0,pow_succ->L3,mul_add->Oi
open List renaming replicate->Cg,length_cons->Ci,map_cons->Cn,cons_append->Co,nil_append->Cr,length_nil->Cu,append_assoc->Cy,mem_cons->C4,getElem?_map->Et,take_of_length_le->Fc,drop_length->Fi,append_nil->Fo,drop_zero->Fx,eq_nil_of_length_eq_zero->F2,getElem?_eq_some_iff->F5,mem_map->F9,take_succ_cons->Ga,length_pos_iff->Ic,mem_of_getElem?->Il,getElem?_eq_getElem->Io,mem_replicate->Ip,getElem?_take_of_lt->I5,getElem?_cons_zero->Mf,getElem?_take->Ms,length_singleton->Ou,getElem?_toArray->iA,singleton_append->iB,take_add_one->iD,drop_append->iO,set_append_right->jM,mem_of_mem_drop->kE,take_zero->kW
open Nat renaming le_refl->Ce,mul_one->Fj,zero_add->Fm,le_trans->Fp,lt_of_lt_of_le->F3,mul_comm->Iv,lt_succ_self->I4,div_lt_iff_lt_mul->I8,sub_self->Ob,mod_lt->Oq,pow_succ->Oz,div_add_mod->O9,mul_le_mul_left->Pd,mod_eq_of_lt->Se,succ_pos->S8,le_div_iff_mul_le->jQ,div_eq_of_lt->jW
open Option.some renaming injEq->Ba
namespace Go.Proofs.YthelkgdmgihhiaaGreat
section
open Go Tryz Go.RowKit
def layA:Array Value->Nat->List Value->Array Value
 | arr,_,[]=>arr
 | arr,o,v :: vs=>layA (arr.setIfInBounds o v) (o+1) vs
theorem Jy:∀ (vs:List Value) (arr:Array Value) (o:Nat),(layA arr o vs).size=arr.size
 | [],_,_=>rfl
 | v :: vs,arr,o=>by rw [layA,Jy vs]; simp
theorem Mq:∀ (vs:List Value) (arr:Array Value) (o:Nat),o+vs.length<=arr.size->(layA arr o vs).toList=arr.toList.take o++vs++arr.toList.drop (o+vs.length)
 | [],arr,o,_=>by simp [layA]
 | v :: vs,arr,o,h=>by
  simp only [Ci] at h;rw [layA,Mq vs _ _ aC,Sg];have h1:(arr.toList.set o v).take (o+1)=arr.toList.take o++[v]:=by
   rw [List.take_set,iD,jM _ _ aC];have:o - (arr.toList.take o).length=0:=aC
   rw [this];have h2:o<arr.toList.length:=aC
   rw [Io h2]; rfl
  have h2:(arr.toList.set o v).drop (o+1+vs.length)=arr.toList.drop (o+1+vs.length):=by
   rw [List.drop_set]; rw [if_pos aA]
  rw [h1,h2,Ci,show o+(vs.length+1)=o+1+vs.length by omega];simp
theorem Gh {b:Nat} {t:TypeId} {fz:Nat × Nat} : ∀ (vs:List Value) (o:Nat) (w:World) (arr:Array Value),w.heap[b]?=some (.cells arr t fz)->(w.setCells b o vs).heap[b]?=some (.cells (layA arr o vs) t fz)
 | [],_,_,_,h=>h
 | v :: vs,o,w,arr,h=>by
  refine Gh vs (o+1) (w.setCell ⟨b,o,none⟩ v) (arr.setIfInBounds o v) ?_;unfold iT;simp only;rw [iC,if_pos rfl,h];rfl
theorem Hf {B b:Nat} {a:World} (hb:B<=b):∀ (vs:List Value) (o:Nat) (w:World),Below B a w->Below B a (w.setCells b o vs)
 | [],_,_,h=>h
 | v :: vs,o,w,h=>Hf hb vs (o+1) _ (h.trans ⟨rfl,rfl,rfl,by simp [iT],fun j hj=>by
   unfold iT;simp only;rw [iC,if_neg aA]⟩)
theorem Aiu {w:World} {base g cap:Nat} {cur:Array Value} {zs:List Int} (hg:base<=g) (h:w.heap[g]?=some (.cells cur 3 (0,0))) (hn:zs.length<=cap) (hm:cap<=maxLen) (hs:cur.size=cap) (ht:cur.toList.take zs.length=zs.map num):OR w base (.slice (some ⟨g,0,none⟩) zs.length cap) zs :=
 ⟨by simp,.inr ⟨g,cap,cur,rfl,hg,h,hn,hm,aA,by rw [Fj]; exact ht⟩⟩
theorem Ahl (base:Nat) (w:World) (v:Value) (zs:List Int) (x:Int) (vb:Nat) (hO:OR w base v zs) (hbase:base<=w.heap.size) (hvb:w.heap[vb]?=some (.cells #[num x] 3 (0,0))) (hne:∀ g n c,v=.slice (some ⟨g,0,none⟩) n c->g≠vb) (hlen:zs.length<=1000000) :
  Calls prog 235 #[v,.int .i64 0,.slice (some ⟨vb,0,none⟩) 1 1] w fun e w'=>∃ v',e=.returned v'/\OR w' base v' (x :: zs)/\Below base w w':=by
 have xm:∀ (j:Nat) u,[num x][j]?=some u->w.cell? ⟨vb,0+j,none⟩=some u:=by
  intro j u hj;cases j with
  | zero =>
   simp only [Mf,Ba] at hj;subst hj;rw [Lib.cell_of_heap hvb]; rfl
  | succ j=>simp at hj
 have h1v:∀ u ∈ [num x],u.oneCell'=true:=fun u hu=>by
  have:u=num x:=eQ
  subst this; rfl
 have h1c:∀ u ∈ zs.map num,u.oneCell'=true:=fun u hu=>by
  obtain ⟨y,-,rfl⟩:=F9.1 hu;rfl
 have hmax:(1000001:Nat)<=maxLen:=fF
 have ph:Tryz.laysIns_ren.t 3=3:=rfl;have a05:(jC .i64 0).cells.size=1:=rfl;rcases hO.2 with ⟨rfl,h0⟩|⟨g,cap,cur,rfl,k1,k2,k3,k4,k5,k6⟩
 ·have hz:zs=[]:=F2 h0;subst hz;refine (Any2.slices_Insert_int_end_grow Tryz.laysIns none 0 0 vb 0 1 1 [] [num x] w aA aA aA aA rfl rfl (fun _=>rfl) (fun _ h=>aR) xm h1v).mono ?_;rintro e w' ⟨rfl,rfl⟩;exact Ya0c
 ·have hM:cap<=9223372036854775807:=by unfold maxLen at k4; omega
  have hgv:g≠vb:=hne g _ cap rfl;have hcl:(zs.map num).length=zs.length:=by simp
  have hc5:cur.size=cap:=aA
  have ig:∀ (j:Nat) u,(zs.map num)[j]?=some u->w.cell? ⟨g,0+j,none⟩=some u:=by
   intro j u hj;rw [Fj] at k6;have jd:j<zs.length:=by
    have:=(F5.1 hj).1;exact Ya1y
   rw [<- k6,Ms,if_pos jd] at hj;rw [Lib.cell_of_heap k2,Fm];simpa using hj
  have vu:∀ j,j<cap->(w.cell? ⟨g,0+j,none⟩).isSome=true:=fun j hj=>by
   rw [Lib.cell_of_heap k2,Fm];rw [Ft (show j<cur.size by omega)]; rfl
  have wy:∀ j,w.frozen? ⟨g,0+j,none⟩=false:=fun j=>by
   simp [lC,k2]
  by_cases hz:zs=[]
  ·subst hz;by_cases hc:cap=0
   ·subst hc;refine (Any2.slices_Insert_int_end_grow Tryz.laysIns (some ⟨g,0,none⟩) 0 0 vb 0 1 1 [] [num x] w aA aA aA aA rfl rfl (fun _=>rfl) (fun _ _ j u h=>aO) xm h1v).mono ?_;rintro e w' ⟨rfl,rfl⟩;exact Ya0c
   ·refine (Any2.slices_Insert_int_end_room Tryz.laysIns g 0 0 cap vb 0 1 1 [num x] w aA aA hM rfl (fun j hj=>by simpa using vu j aA) (fun j hj=>by simpa using wy j) xm h1v).mono ?_;rintro e w' ⟨rfl,rfl⟩;refine ⟨_,rfl,Aiu (zs:=[x]) (cur:=layA cur 0 [num x]) k1 (Gh _ _ _ _ k2) aC k4 (by rw [Jy]; exact hc5) ?_,Hf k1 _ _ _ (Fw _ _)⟩;rw [Mq _ _ _ aC];simp
  ·have hpos:0<zs.length:=Ic.2 hz;by_cases b7:zs.length+1<=cap
   ·refine (Any2.slices_Insert_int_shift Tryz.laysIns g 0 zs.length cap 0 vb 0 1 1 (zs.map num) [num x] w hpos aA b7 hM (fun h=>hgv h.symm) hcl rfl ig (fun j hj=>vu j aA) (fun j _=>wy j) xm h1c h1v 3 3 1 cap ?_ ?_ aA ?_ ?_).mono ?_
    ·simp [World.shape?,hvb]
    ·simp [World.shape?,k2,hc5]
    ·simp [lC,hvb]
    ·simp [lC,hvb]
    rintro e w' ⟨rfl,rfl⟩;have bu:w.drew.heap[g]?=some (.cells cur 3 (0,0)):=k2;have hA:=Gh ((zs.map num).drop 0) (0+(0+1)) w.drew cur bu;have hB:=Gh [num x] (0+0) _ _ hA;have vt:(zs.map num).length=zs.length:=by simp
    refine ⟨_,rfl,Aiu (zs:=x :: zs) k1 hB (by simpa using b7) k4 (by rw [Jy,Jy]; exact hc5) ?_,Hf k1 _ _ _ (Hf k1 _ _ _ ((Fw _ _).drew))⟩;rw [Mq _ _ _ (by rw [Jy]; simp; omega),Mq _ _ _ aC];have hl1:(cur.toList.take (0+(0+1))).length=1:=aC
    simp only [kW,Cr,Fx,Fm,Ou,Cn,Ci,iB,Ga] at hl1 ⊢;rw [Cy,iO,List.drop_of_length_le aA,Cr,hl1];simp only [Cu,Fm,Ob,Fx];exact Ya2c
   ·refine (Any2.slices_Insert_int_grow Tryz.laysIns g 0 zs.length cap 0 vb 0 1 1 (zs.map num) [num x] w hpos aA k3 aA aA hcl rfl ig xm h1c h1v).mono ?_;rintro e w' ⟨rfl,rfl⟩;rw [ph];have kv:=grownCap_ge w (zs.length+1) cap 3;obtain ⟨arr,f8⟩:∃ arr:Array Value,((zs.map num).take 0).toArray++Oo (jC .i64 0).cells (zs.length+1 - 0)++Oo (jC .i64 0).cells (grownCap w (zs.length+1) cap 3 - (zs.length+1))=arr:=⟨_,rfl⟩;rw [f8];have hsz:arr.size=grownCap w (zs.length+1) cap 3:=by
     rw [<- f8]; simp [size_zeroCells,a05]; omega
    have h0:(w.alloc (.cells arr 3)).drew.heap[w.heap.size]?=some (.cells arr 3 (0,0)):=Ax w _;have hA:=Gh [num x] 0 _ _ h0;have hB:=Gh ((zs.map num).drop 0) (0+1) (((w.alloc (.cells arr 3)).drew.setCells w.heap.size 0 [num x]).drew) _ hA;have vt:(zs.map num).length=zs.length:=by simp
    refine ⟨_,rfl,Aiu (zs:=x :: zs) hbase hB (by simpa using kv) (grownCap_le_maxLen w _ _ _ aA) (by rw [Jy,Jy]; exact hsz) ?_,Hf hbase _ _ _ (Below.drew (Hf hbase _ _ _ (((Fw _ _).alloc hbase _).drew)))⟩;rw [Mq _ _ _ (by rw [Jy,hsz]; simp; omega),Mq _ _ _ (by rw [hsz]; simp; omega)];simp only [kW,Cr,Fx,Fm,Ou,Cn,Ci,iB,Ga,Co];exact Ya2c
theorem Abp {w:World} {v1 v2:Value} {a b:Nat} (ht:Tab0 w) (h1:RD w v1 (dig a)) (h2:RD w v2 (dig b)) (ha:(dig a).length<=1000000) (hb:(dig b).length<=1000000) :
  Calls prog 233 #[v1,v2] w fun e w'=>e=.returned (.int .i64 (cmpN a b))/\Below w.heap.size w w':=by
 refine (call0 (fun S tk k=>Qb S tk k a b ha hb) ht Za43).mono ?_;rintro e w' ⟨v,rfl,hb,hv⟩;simp only [VR] at hv;rw [hv];exact ⟨rfl,hb⟩
theorem Af1 {w:World} {v1 v2:Value} {a b:Nat} (ht:Tab0 w) (h1:RD w v1 (dig a)) (h2:RD w v2 (dig b)) (ha:(dig a).length<=100000) (hb:(dig b).length<=100000) :
  Calls prog 236 #[v1,v2] w fun e w'=>∃ v,e=.returned v/\Below w.heap.size w w'/\RD w' v (dig (a*b)) :=
 call0 (fun S tk k=>Vk S tk k a b ha hb) ht Za43
theorem Ags {w:World} {base:Nat} {v:Value} {zs:List Int} (hO:OR w base v zs) (hb:0<base) (hl:zs.length<=1000000) :
  Calls prog 234 #[v] w fun e w'=>∃ v',e=.returned v'/\w'=w/\OR w base v' (Dm zs):=by
 obtain ⟨av,cv,rfl,hcv,hcells⟩:=Mh (hO.rd hb);refine (Za w av cv zs hl hcv fun j x hx=>?_).mono ?_
 ·exact Ya40
 ·rintro e w' ⟨rfl,rfl⟩;exact ⟨_,rfl,rfl,hO.trim⟩
theorem OR.weaken {w:World} {base base':Nat} {v:Value} {zs:List Int} (h:OR w base v zs) (hb:base'<=base):OR w base' v zs:=by
 refine ⟨h.1,?_⟩;rcases h.2 with h0|⟨g,cap,cur,rfl,h1,h2,h3⟩
 ·exact .inl h0
 ·exact .inr ⟨g,cap,cur,rfl,aA,h2,h3⟩
theorem Ats (w:World) (base:Nat):OR w base (.slice none 0 0) []:=⟨rfl,.inl ⟨rfl,rfl⟩⟩
theorem Aql {w:World} {d:Int} (h0:0<w.heap.size):RD (w.alloc (.cells #[num d] 3)) (.slice (some ⟨w.heap.size,0,none⟩) 1 1) [d]:=by
 refine Arq (zs:=[d]) trivial (Ce _) fun j x hx=>?_;cases j with
 | zero =>
  simp only [nth,Ba] at hx;subst hx;rw [Lib.cell_of_heap (Ax w _)]; rfl
 | succ j=>simp [nth] at hx
theorem makeN {w:World} {N:Nat} (hN:N<=1000000) {ops:Array Oper} {rest:List Oper} {op:Oper} {a:Act} {Q:Exit->Act->World->Prop} {l c:Operand} (hgd:op.guard=none) (hop:op.op=.makeSlice 58 l c) (hl:a.eval l=.int .i64 (N:Nat)) (hc:a.eval c=.int .i64 (N:Nat))
  (h:∀ w',w'.heap[w.heap.size]?=some (.cells ((Cg N (0:Int)).map num).toArray 3 (0,0))->Below w.heap.size w w'->wpList prog ops Q rest (a.put op.dst (.slice (some ⟨w.heap.size,0,none⟩) N N)) w'):wpList prog ops Q (op :: rest) a w:=by
 obtain ⟨i0,hi,hz0,hz1,hz2⟩:=info_parts Alg;refine wpList_make_row (P:=prog) w hgd l c 58 hop 3 i0 (.int .i64 0) underlying58 hi hz0 hz1 rfl .i64 .i64 N hl hc (by rw [hz2]; omega) aA ?_;have e:madeCells #[num 0] N=((Cg N (0:Int)).map num).toArray:=by
  apply Array.ext
  ·simp [madeCells]
  ·intro i h1 h2;simp [madeCells,Nat.mod_one]
 rw [e];exact h _ (Ax w _) ((Fw _ _).alloc (Ce _) _)
def topV (A:List Int) (k:Nat):Nat:=(val (A.drop k)).toNat
structure QI (A:List Int) (b k R:Nat) (qs:List Int):Prop where
 len:qs.length=A.length
 ok:okD qs
 zero:∀ j x,j<k->nth qs j=some x->x=0
 rest:R=topV A k % b
 eqv:val qs=10000 ^ k*(topV A k / b:Nat)
theorem QI.start (A:List Int) (b:Nat):QI A b A.length 0 (Cg A.length 0):=by
 have h0:topV A A.length=0:=Za49
 have hz:∀ (n j:Nat) (x:Int),nth (Cg n (0:Int)) j=some x->x=0:=fun n j x h=>by
  exact Ya3t
 refine ⟨by simp,W3 fun j x hx=>by rw [hz _ _ _ hx]; omega,fun j x _ hx=>hz _ _ _ hx,by rw [h0]; simp,?_⟩;rw [H6,h0]; simp
theorem Ql {A:List Int} (hA:okD A) {k:Nat} {x:Int} (hx:nth A k=some x):topV A k=x.toNat+10000*topV A (k+1):=by
 unfold topV;rw [Aw hx,val];have h1:=Df hA hx;have h2:=Ed (l:=A.drop (k+1)) fun d hd=>hA d (kE hd);omega
theorem QI.step {A:List Int} {b k R:Nat} {qs:List Int} {x:Int} (hA:okD A) (hb:0<b) (h:QI A b (k+1) R qs) (hx:nth A k=some x) :
  (x.toNat+10000*R) / b<10000/\topV A k / b=10000*(topV A (k+1) / b)+(x.toNat+10000*R) / b/\topV A k % b=(x.toNat+10000*R) % b:=by
 have hr:=h.rest;have hxk:=Df hA hx;have hRb:R<b:=by rw [hr]; exact Oq _ hb
 have hdm:=O9 (topV A (k+1)) b;rw [<- hr] at hdm;have hs:=Ql hA hx;have e:topV A k=(x.toNat+10000*R)+b*(10000*(topV A (k+1) / b)):=by
  rw [hs,Nat.mul_left_comm]; omega
 refine ⟨?_,?_,?_⟩
 ·rw [I8 hb];have:10000*(R+1)<=10000*b:=Pd _ hRb;omega
 ·rw [e,Nat.add_mul_div_left _ _ hb]; omega
 ·rw [e,Nat.add_mul_mod_self_left]
theorem QI.small {A:List Int} {b k R:Nat} {qs:List Int} {x:Int} (hA:okD A) (hb:0<b) (h:QI A b (k+1) R qs) (hx:nth A k=some x) (hlt:x.toNat+10000*R<b):QI A b k (x.toNat+10000*R) qs:=by
 obtain ⟨-,h2,h3⟩:=h.step hA hb hx;rw [jW hlt] at h2;rw [Se hlt] at h3;refine ⟨h.len,h.ok,fun j y hj hy=>h.zero j y aA hy,h3.symm,?_⟩;have e1:((10000*(topV A (k+1) / b)+0:Nat):Int)=10000*((topV A (k+1) / b:Nat):Int):=aA
 rw [h.eqv,h2,L3,e1,G0]
theorem QI.big {A:List Int} {b k R:Nat} {qs:List Int} {x:Int} (hA:okD A) (hb:0<b) (h:QI A b (k+1) R qs) (hx:nth A k=some x) {d:Nat} (hd:d=(x.toNat+10000*R) / b):QI A b k (x.toNat+10000*R - b*d) (qs.set k (d:Int)):=by
 obtain ⟨h1,h2,h3⟩:=h.step hA hb hx;have hk:k<qs.length:=by rw [h.len]; exact Bn hx
 obtain ⟨y,hy⟩:=Ac hk;have hy0:=h.zero k y aA hy;subst hy0;refine ⟨bQ,Ns h.ok aA aA,fun j y hj hyj=>?_,?_,?_⟩
 ·rcases Dh hyj with ⟨rfl,-⟩|⟨-,hyj⟩
  ·omega
  ·exact h.zero j y aA hyj
 ·rw [h3,hd];have:=O9 (x.toNat+10000*R) b;omega
 ·rw [Hh hy,h.eqv,h2,L3,<- hd];have e1:((10000*(topV A (k+1) / b)+d:Nat):Int)=10000*(topV A (k+1) / b:Nat)+(d:Int):=aA
  rw [e1,Oi,<- G0,Int.sub_zero,Fu (d:Int)]
theorem QI.done {a b R:Nat} {qs:List Int} (h:QI (dig a) b 0 R qs):Dm qs=dig (a / b)/\R=a % b:=by
 have ht:topV (dig a) 0=a:=eZ
 have h1:=h.rest;have h2:=h.eqv;rw [ht] at h1 h2;refine ⟨?_,h1⟩;rw [D6 h.ok,h2,Int.pow_zero,Int.one_mul,Int.toNat_natCast]
theorem Aih {R:Nat} {x:Int} (hx:0<=x/\x<10000):Dm (x :: dig R)=dig (x.toNat+10000*R):=by
 rw [D6 (fun d hd=>by
  rcases C4.1 hd with rfl|hd
  ·exact hx
  ·exact Bf R d hd)]
 congr 1;simp only [val,Br]; omega
end
section
open Go Tryz Go.RowKit
set_option maxHeartbeats 8000000
set_option maxRecDepth 100000
theorem As7 {w:World} {g i:Nat} {qs:List Int} {d x:Int} (h:w.heap[g]?=some (.cells (qs.map num).toArray 3 (0,0))) (hi:nth qs i=some x) :
  (w.setCell ⟨g,i,none⟩ (num d)).heap[g]?=some (.cells ((qs.set i d).map num).toArray 3 (0,0)):=by
 unfold iT;simp only;rw [iC,if_pos rfl,h];simp [List.map_set]
theorem Amw {w:World} {g i:Nat} {v:Value} : Below g w (w.setCell ⟨g,i,none⟩ v) :=
 Hf (Ce _) [v] i w (Fw _ _)
theorem OR.set {w:World} {g i:Nat} {u v:Value} {zs:List Int} (h:OR w (g+1) v zs):OR (w.setCell ⟨g,i,none⟩ u) (g+1) v zs:=by
 refine ⟨h.1,?_⟩;rcases h.2 with h0|⟨g',cap,cur,rfl,h1,h2,h3⟩
 ·exact .inl h0
 ·refine .inr ⟨g',cap,cur,rfl,h1,?_,h3⟩;unfold iT;simp only;rw [iC,if_neg aA];exact h2
theorem Vq {w:World} {g:Nat} {qs:List Int} (h:w.heap[g]?=some (.cells (qs.map num).toArray 3 (0,0))) {j:Nat} {x:Int} (hx:nth qs j=some x):w.cell? ⟨g,0+j,none⟩=some (num x):=by
 rw [Af] at hx;rw [Lib.cell_of_heap h,Fm,iA,Et,hx]; rfl
theorem Avt {w:World} {g cap:Nat} {qs:List Int} (h:w.heap[g]?=some (.cells (qs.map num).toArray 3 (0,0))) (_hg:True) (hc:qs.length<=cap):RD w (.slice (some ⟨g,0,none⟩) (Dm qs).length cap) (Dm qs):=by
 refine Arq trivial (Fp (Qm qs) hc) fun j x hx=>Vq h ?_;have hlt:=Bn hx;rw [Hp,Af,I5 hlt,<- Af] at hx;exact hx
theorem Aah {T b:Nat} (h:T<10000*b):(dig T).length<=(dig b).length+1:=Bg.2 (by
 have h1:=Bg.1 (Ce (dig b).length);rw [Oz,Iv (10000 ^ (dig b).length)];exact F3 h (Pd _ (Nat.le_of_lt h1)))
theorem Auo (x y:Nat):cmpN x y<=0↔x<=y:=by
 unfold cmpN;split
 ·constructor <;> omega
 ·split <;> constructor <;> omega
def NewB (base:Nat) (v:Value):Prop:=∀ b o n c,v=.slice (some ⟨b,o,none⟩) n c->base<=b
theorem OR.newB {w:World} {base base':Nat} {v:Value} {zs:List Int} (h:OR w base v zs) (hb:base'<=base):NewB base' v:=fun b _ _ _ e=>Fp hb (h.lt b (by rw [e]; rfl)).1
theorem Ahy {base g n c:Nat} (h:base<=g):NewB base (.slice (some ⟨g,0,none⟩) n c):=by
 intro b o n' c' e;cases e;exact h
theorem Abs (w:World) (va vb:Value) (a b:Nat) (ht:Tab0 w) (ha:RD w va (dig a)) (hb:RD w vb (dig b)) (hb0:0<b) (hla:(dig a).length<=90000) (hlb:(dig b).length<=90000) :
  Calls prog 228 #[va,vb] w fun e w'=>∃ v1 v2,e=.returned (.tuple #[v1,v2])/\RD w' v1 (dig (a / b))/\RD w' v2 (dig (a % b))/\Below w.heap.size w w'/\NewB w.heap.size v1/\(v2=va/\a % b=a\/NewB w.heap.size v2):=by
 have hO:=Abp ht ha hb aA aA;have hRA:=ha;obtain ⟨ax,cx,rfl,hcx,hX⟩:=Mh ha;have HX:=Cp hX;have HKX:=Cp (Bf a);have HRA:=Cp hRA;have HRB:=Cp hb;have HT:=Cp ht;have HD:=Cp (fun (R:Nat) (qs:List Int) (h:QI (dig a) b 0 R qs)=>h.done);have HS:=Cp (QI.start (dig a) b);clear hX ha hb hRA ht;generalize hXX:dig a=X at *;generalize hN:X.length=N at *;have HO:=Cp hO;have HN:=Cp (show N<=1000000 by omega);clear hO;by_cases hab:a<b
 ·have hc:cmpN a b<0:=by simp [cmpN,hab]
  go_enter func228,ntmps228;go_wp2_with (go_at_call 233; refine HO.out.mono ?_; rintro e w1 ⟨rfl,hb1⟩);go_ret2;have e1:a / b=0:=jW hab;have e2:a % b=a:=Se hab;rw [e1,e2,B3];exact ⟨_,_,rfl,Aqk _ _ _,by rw [hXX]; exact HRA.out.below hb1,hb1,fun b o n c h=>aR,.inl ⟨rfl,rfl⟩⟩
 have hc:¬ cmpN a b<0:=by
  unfold cmpN;rw [if_neg hab]; split <;> omega
 go_enter func228,ntmps228;go_wp2_with (first
  | (go_at_call 233; refine HO.out.mono ?_; rintro e w1 ⟨rfl,hb1⟩; have HB1:=Cp hb1; clear hb1)
  | (at_make; refine makeN HN.out rfl rfl rfl rfl ?_; intro w2 hq2 hb2; have HQ2:=Cp hq2; have HB2:=Cp (HB1.out.trans (hb2.mono HB1.out.size)); clear hq2 hb2))
 have hgq:w.heap.size<=w1.heap.size:=HB1.out.size;generalize hGQ:w1.heap.size=gq at *;have HGP:=Cp (show 0<w.heap.size from HT.out.pos);have HW2:=Cp (Cj.1 HQ2.out).1;go_loopw [7,8] (fun v i wr=>∃ (k R:Nat) (qs:List Int),i=.int .i64 ((k:Int) - 1)/\k<=N/\Hid (QI X b k R qs)/\Hid (OR wr (gq+1) v (dig R))/\Hid (wr.heap[gq]?=some (.cells (qs.map num).toArray 3 (0,0)))/\Hid (Below w.heap.size w wr)) (fun _ i _=>(R5 i+1).toNat);case atStart=>exact ⟨N,0,_,congrArg (jC .i64) aA,Ce _,HS,Cp (by rw [B3]; exact Ats _ _),HQ2,HB2⟩
 case round =>
  obtain ⟨k,R,qs,rfl,hk,HI,HR,HQ,HB⟩:=hrel
  cases k with
  | zero =>
   have hql:qs.length=N:=HI.out.len.trans hN
   have hT:=Za wr (some ⟨gq,0,none⟩) N qs aA aA fun j x hx=>⟨gq,0,rfl,Vq HQ.out hx⟩
   have HV:=Cp (Avt (cap:=N) HQ.out trivial aA)
   have HE:=Cp (HD.out R qs HI.out)
   rw [hql] at hT
   have HTr:=Cp hT
   clear hT
   go_wp2_with (go_at_call 234; refine HTr.out.mono ?_; rintro e w6 ⟨rfl,rfl⟩)
   go_ret2
   obtain ⟨e1,e2⟩:=HE.out
   have hv:=HV.out
   rw [e1] at hv ⊢
   exact ⟨_,_,rfl,hv,by rw [<- e2]; exact HR.out.rd aA,HB.out,Ahy aA,.inr (HR.out.newB aA)⟩
  | succ k =>
   obtain ⟨x,hx⟩:=Ac (show k<X.length by omega)
   obtain ⟨bx,ox,rfl,hcx0,-⟩:=HX.out k x hx
   have hxk:=HKX.out x dY
   have hcell:=(HB.out.cell (Gx hcx0)).trans hcx0
   have hi:(((k+1:Nat):Int) - 1)=(k:Int):=aA
   rw [hi]
   have hi1:Cd.wrap ((k:Int) - 1)=(k:Int) - 1:=Aa aD
   have hg1:(k:Int) >= 0:=aA
   have hg2:(k:Int)<(N:Int):=aA
   have hQl:=(Cj.1 HQ.out).1
   have hRl:(dig R).length<=90000:=by
    have h1:R<b:=Za44
    exact Fp (Bg.2 (Nat.lt_trans h1 (Bg.1 (Ce _)))) hlb
   have hB3:Below wr.heap.size wr (wr.alloc (.cells #[num x] 3)):=(Fw _ _).alloc (Ce _) _
   have hIns:=Ahl (gq+1) (wr.alloc (.cells #[num x] 3)) _ (dig R) x wr.heap.size (HR.out.below hB3) (by have:=hB3.size; omega) (Ax wr _) (fun g n c hv=>by
    have:=HR.out.lt g (by rw [hv]; rfl);omega) aA
   have HIns:=Cp hIns
   have HXX:=Cp hx
   have hTa:=Aih (R:=R) hxk
   have hTb:x.toNat+10000*R<10000*b:=by
    have h1:R<b:=Za44
    omega
   have HSm:=Cp (HI.out.small (b:=b) HKX.out hb0 hx)
   have HBg:=Cp (fun d=>HI.out.big (b:=b) (d:=d) HKX.out hb0 hx)
   generalize hTT:x.toNat+10000*R=T at *
   have hTl:(dig T).length<=90001:=Fp (Aah hTb) aA
   have HTa:=Cp hTa
   clear hTa
   have HB3:=Cp hB3
   clear hIns hx hcx0 hB3
   have hgq2:w.heap.size<=gq+1:=aA
   by_cases hlt:T<b
   ·have hc2:cmpN T b<0:=by simp [cmpN,hlt]
    have HSs:=Cp (HSm.out hlt)
    go_wp2_with (go_at_call 235; refine HIns.out.mono ?_; rintro e w4 ⟨v4,rfl,hO4,hB4⟩; have HO4:=Cp hO4; have HB4:=Cp hB4; clear hO4 hB4)
    have HQ5:=Cp ((HB4.out.block gq (I4 _)).trans ((HB3.out.block gq hQl).trans HQ.out))
    have HB5:=Cp ((HB.out.trans (HB3.out.mono HB.out.size)).trans (HB4.out.mono hgq2))
    go_wp2_with (go_at_call 234; refine (Ags HO4.out (S8 _) aC).mono ?_; rintro e w5 ⟨v5,rfl,rfl,hO5⟩; rw [HTa.out] at hO5; have HO5:=Cp hO5; clear hO5)
    have HT5:=Cp (HT.out.below HGP.out HB5.out)
    go_wp2_with (go_at_call 233; refine (Abp HT5.out (HO5.out.rd (S8 _)) (HRB.out.below HB5.out) aA aA).mono ?_; rintro e w6 ⟨rfl,hb6⟩; have HB6:=Cp hb6; clear hb6)
    exact ⟨⟨k,T,qs,rfl,aA,HSs,Cp (HO5.out.below HB6.out),Cp ((HB6.out.block gq (Cj.1 HQ5.out).1).trans HQ5.out),Cp (HB5.out.trans (HB6.out.mono HB5.out.size))⟩,by simp [R5]⟩
   ·have hc2:¬ cmpN T b<0:=by
     unfold cmpN;rw [if_neg hlt]; split <;> omega
    obtain ⟨d,hd⟩:∃ d,d=T / b:=⟨_,rfl⟩
    have hd1:1<=d:=by rw [hd]; exact (jQ hb0).2 aA
    have hd2:d<=9999:=by
     have:d<10000:=by rw [hd]; exact (I8 hb0).2 hTb
     omega
    have HDv:=Cp (fun m:Nat=>(show b*m<=T↔m<=d by rw [hd,jQ hb0,Iv]))
    have HBd:=Cp (HBg.out d hd)
    have hTd:b*d<=T:=by rw [hd]; exact Nat.mul_div_le T b
    have HTd:=Cp hTd
    clear hd hTd
    go_wp2_with (go_at_call 235; refine HIns.out.mono ?_; rintro e w4 ⟨v4,rfl,hO4,hB4⟩; have HO4:=Cp hO4; have HB4:=Cp hB4; clear hO4 hB4)
    have HQ5:=Cp ((HB4.out.block gq (I4 _)).trans ((HB3.out.block gq hQl).trans HQ.out))
    have HB5:=Cp ((HB.out.trans (HB3.out.mono HB.out.size)).trans (HB4.out.mono hgq2))
    go_wp2_with (go_at_call 234; refine (Ags HO4.out (S8 _) aC).mono ?_; rintro e w5 ⟨v5,rfl,rfl,hO5⟩; rw [HTa.out] at hO5; have HO5:=Cp hO5; clear hO5)
    have HT5:=Cp (HT.out.below HGP.out HB5.out)
    go_wp2_with (go_at_call 233; refine (Abp HT5.out (HO5.out.rd (S8 _)) (HRB.out.below HB5.out) aA aA).mono ?_; rintro e w6 ⟨rfl,hb6⟩; have HB6:=Cp hb6; clear hb6)
    have HB7:=Cp (HB5.out.trans (HB6.out.mono HB5.out.size))
    have HQ7:=Cp ((HB6.out.block gq (Cj.1 HQ5.out).1).trans HQ5.out)
    have HO7:=Cp (HO5.out.below HB6.out)
    clear HIns HSm HBg HO4 HB4 HB6 HO5 HT5 HQ5 HB5 HB3 hc2
    go_loopw [9,10] (fun lo hi wq=>∃ l h:Nat,lo=.int .i64 l/\hi=.int .i64 h/\1<=l/\l<=d/\d<=h/\h<=9999/\Hid (Below w6.heap.size w6 wq)) (fun lo hi _=>(R5 hi - R5 lo).toNat)
    case atStart=>exact ⟨1,9999,rfl,rfl,Ce _,hd1,hd2,Ce _,Cp (Fw _ _)⟩
    case round =>
     obtain ⟨l,h,rfl,rfl,hl1,hl2,hh1,hh2,HBq⟩:=hrel
     by_cases hlh:l<h
     ·have hg3:(l:Int)<(h:Int):=aA
      obtain ⟨m,hm⟩:∃ m:Nat,m=(l+h+1) / 2:=⟨_,rfl⟩
      have hw1:Cd.wrap ((l:Int)+(h:Int))=(l:Int)+(h:Int):=Aa aD
      have hw2:Cd.wrap ((l:Int)+(h:Int)+1)=(l:Int)+(h:Int)+1:=Aa aD
      have hdv:((l:Int)+(h:Int)+1) / 2=(m:Int):=aA
      have hwm:Cd.wrap (m:Int)=(m:Int):=Aa aD
      have hwp:Cd.wrap (((l:Int)+(h:Int)+1) / 2 - 1)=((l:Int)+(h:Int)+1) / 2 - 1:=Aa aD
      have hd1:dig m=[((l:Int)+(h:Int)+1) / 2]:=by
       rw [hdv];have:=Nl (d:=(m:Int)) aA aA;rwa [Int.toNat_natCast] at this
      have hBa:Below wr.heap.size wr (wr.alloc (.cells #[num (((l:Int)+(h:Int)+1) / 2)] 3)):=(Fw _ _).alloc (Ce _) _
      have hBw:Below w.heap.size w wr:=HB7.out.trans (HBq.out.mono HB7.out.size)
      have hTq:Tab0 wr:=HT.out.below HGP.out hBw
      have hpq:0<wr.heap.size:=hTq.pos
      have hbm:(dig (b*m)).length<=(dig b).length+1:=Aah (by rw [Iv]; exact Nat.mul_lt_mul_of_pos_right aA hb0)
      have HP:=Cp (Af1 (a:=b) (b:=m) (hTq.below hpq hBa) (HRB.out.below (hBw.trans (hBa.mono hBw.size))) (by rw [hd1]; exact Aql hpq) aA (by rw [hd1]; simp))
      have HBa:=Cp hBa
      have HBw:=Cp hBw
      have HCm:=Cp (Auo (b*m) T)
      have HDv2:=Cp hdv
      have HDv3:=Cp hm
      clear hBa hBw hTq hd1 hdv hm hwm
      by_cases hmd:m<=d
      ·have hc3:cmpN (b*m) T<=0:=HCm.out.2 ((HDv.out m).2 hmd)
       go_wp2_with (go_at_call 236; refine HP.out.mono ?_; rintro e w8 ⟨v8,rfl,hb8,hr8⟩; have HB8:=Cp hb8; have HR8:=Cp hr8; clear hb8 hr8)
       have HB9:=Cp (HBa.out.trans (HB8.out.mono HBa.out.size))
       have HT9:=Cp (HT.out.below HGP.out (HBw.out.trans (HB9.out.mono HBw.out.size)))
       have HO9:=Cp ((HO7.out.below (HBq.out)).below HB9.out)
       go_wp2_with (go_at_call 233; refine (Abp HT9.out HR8.out (HO9.out.rd (S8 _)) aA aA).mono ?_; rintro e w10 ⟨rfl,hb10⟩; have HB10:=Cp hb10; clear hb10)
       have hE:=HDv2.out
       have hE3:=HDv3.out
       refine ⟨⟨m,h,congrArg _ hE,rfl,aA,hmd,hh1,hh2,Cp ((HBq.out.trans (HB9.out.mono HBq.out.size)).trans (HB10.out.mono (Fp HBq.out.size HB9.out.size)))⟩,?_⟩
       simp only [R5]
       omega
      ·have hc3:¬ cmpN (b*m) T<=0:=fun h'=>hmd ((HDv.out m).1 (HCm.out.1 h'))
       go_wp2_with (go_at_call 236; refine HP.out.mono ?_; rintro e w8 ⟨v8,rfl,hb8,hr8⟩; have HB8:=Cp hb8; have HR8:=Cp hr8; clear hb8 hr8)
       have HB9:=Cp (HBa.out.trans (HB8.out.mono HBa.out.size))
       have HT9:=Cp (HT.out.below HGP.out (HBw.out.trans (HB9.out.mono HBw.out.size)))
       have HO9:=Cp ((HO7.out.below (HBq.out)).below HB9.out)
       go_wp2_with (go_at_call 233; refine (Abp HT9.out HR8.out (HO9.out.rd (S8 _)) aA aA).mono ?_; rintro e w10 ⟨rfl,hb10⟩; have HB10:=Cp hb10; clear hb10)
       have hE:=HDv2.out
       have hE3:=HDv3.out
       refine ⟨⟨l,m - 1,rfl,congrArg _ aA,hl1,hl2,aA,aA,Cp ((HBq.out.trans (HB9.out.mono HBq.out.size)).trans (HB10.out.mono (Fp HBq.out.size HB9.out.size)))⟩,?_⟩
       simp only [R5]
       omega
     ·have hlde:l=d:=aA
      subst hlde
      have hg3:¬ (l:Int)<(h:Int):=aA
      have hBw:Below w.heap.size w wr:=HB7.out.trans (HBq.out.mono HB7.out.size)
      have hTq:Tab0 wr:=HT.out.below HGP.out hBw
      have hpq:0<wr.heap.size:=hTq.pos
      have hql:qs.length=N:=HI.out.len.trans hN
      obtain ⟨y,hy⟩:=Ac (show k<qs.length by omega)
      have hQq:wr.heap[gq]?=some (.cells (qs.map num).toArray 3 (0,0)):=(HBq.out.block gq (Cj.1 HQ7.out).1).trans HQ7.out
      have hcq:wr.cell? ⟨gq,k,none⟩=some (num y):=by
       have:=Vq hQq hy;rwa [Fm] at this
      have hfq:wr.frozen? ⟨gq,k,none⟩=false:=by simp [lC,hQq]
      have HQ8:=Cp (As7 (d:=(l:Int)) hQq hy)
      have hS:Below gq wr (wr.setCell ⟨gq,k,none⟩ (num (l:Int))):=Amw
      have HBw2:=Cp (hBw.trans (hS.mono aA))
      have HO8:=Cp ((HO7.out.below HBq.out).set (i:=k) (u:=num (l:Int)))
      clear hQq hS hBw hTq hy
      have hsz:(wr.setCell ⟨gq,k,none⟩ (num (l:Int))).heap.size=wr.heap.size:=by simp [iT]
      have hdl:dig l=[(l:Int)]:=by
       have:=Nl (d:=(l:Int)) aA aA;rwa [Int.toNat_natCast] at this
      have hBa:Below (wr.setCell ⟨gq,k,none⟩ (num (l:Int))).heap.size (wr.setCell ⟨gq,k,none⟩ (num (l:Int))) ((wr.setCell ⟨gq,k,none⟩ (num (l:Int))).alloc (.cells #[num (l:Int)] 3)):=(Fw _ _).alloc (Ce _) _
      have hBw3:=HBw2.out.trans (hBa.mono HBw2.out.size)
      have hP:=Af1 (a:=b) (b:=l) (HT.out.below HGP.out hBw3) (HRB.out.below hBw3) (by rw [hdl]; exact Aql (by rw [hsz]; exact hpq)) aA (by rw [hdl]; simp)
      rw [hsz] at hP
      have HP:=Cp hP
      have HBa:=Cp hBa
      have HSz:=Cp hsz
      clear hP hBa hBw3 hdl hsz
      go_wp2_with (go_at_call 236; refine HP.out.mono ?_; rintro e w8 ⟨v8,rfl,hb8,hr8⟩; have HB8:=Cp hb8; have HR8:=Cp hr8; clear hb8 hr8)
      have HB9:=Cp (HBa.out.trans (HB8.out.mono HBa.out.size))
      have HBw9:=Cp (HBw2.out.trans (HB9.out.mono HBw2.out.size))
      have HO9:=Cp (HO8.out.below HB9.out)
      have HQ9:=Cp ((HB9.out.block gq (Cj.1 HQ8.out).1).trans HQ8.out)
      go_wp2_with (go_at_call 237; refine (Aph w8 v5 v8 T (b*l) (HO9.out.rd (S8 _)) HR8.out HTd.out aA (F3 HGP.out HBw9.out.size)).mono ?_; rintro e w9 ⟨v9,rfl,hO9,hB9⟩; have HO10:=Cp hO9; have HB10:=Cp hB9; clear hO9 hB9)
      have hgl:=(Cj.1 HQ9.out).1
      exact ⟨⟨k,T - b*l,qs.set k (l:Int),rfl,aA,HBd,Cp (HO10.out.weaken hgl),Cp ((HB10.out.block gq hgl).trans HQ9.out),Cp (HBw9.out.trans (HB10.out.mono HBw9.out.size))⟩,by simp [R5]⟩
end
end Go.Proofs.YthelkgdmgihhiaaGreat
