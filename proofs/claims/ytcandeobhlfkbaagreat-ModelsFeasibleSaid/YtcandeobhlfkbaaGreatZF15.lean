/- Part 15. -/
import Derived.Test.YtcandeobhlfkbaaGreatZF14
import Derived.Lib.LazyBuf
import Derived.Orders
import Derived.Tactics
import Derived.Below
import Derived.WalkKit
open Array renaming getElem?_eq_some_iff->Cj,getElem?_eq_getElem->Cy,getD_eq_getD_getElem?->Et,getD->Ip,toList_setIfInBounds->O3,getElem?_modify->S5
open Bool renaming and_eq_true->Ch,or_eq_true->F8
open Go.Act renaming put->fX
open Go.Builtin renaming zeroCells->Oe
open Go.Calls renaming mono->iU
open Go.IntKind renaming i64->Cf
open Go.Lib renaming hid->Cm
open Go.Region renaming wanted->F5
open Go.RowKit.Below renaming refl->C5,cell->iR
open Go.Value renaming int->Sl
open Go.World renaming setCell->hG,frozen?->iA
open Int renaming mul_comm->F6,mul_assoc->Ii,pow_succ->Oi,mul_add->Ow
open List renaming replicate->Ci,length_cons->Ck,mem_cons->Cn,map_cons->Cp,cons_append->Cr,length_nil->Cu,all_eq_true->Cv,nil_append->Cw,range->De,append_assoc->Fa,take_of_length_le->Fc,eq_nil_of_length_eq_zero->Fm,drop_length->Fo,getElem?_eq_some_iff->Fu,getElem?_map->Fw,take_succ_cons->F1,getElem?_cons_zero->F2,append_nil->F4,drop_zero->F7,mem_map->F9,mem_of_getElem?->Ik,getElem?_eq_getElem->Il,mem_replicate->Im,getElem?_take_of_lt->Io,getElem?_take->Iu,length_pos_iff->Lo,getElem?_toArray->O6,contains_iff_mem->O7,singleton_append->O9,mem_range->Sn,length_singleton->S6,drop_append->fP,set_append_right->gK,countP_cons->gX,take_zero->iW
open Nat renaming le_refl->Cc,le_trans->Fb,lt_of_lt_of_le->Ff,zero_add->Fg,lt_or_ge->F3,mul_one->Ib,lt_succ_self->Iy,sub_self->I4,lt_trichotomy->Oh,mul_comm->O1,div_lt_iff_lt_mul->O8,mod_eq_of_lt->Sk,pow_succ->Ss,succ_pos->Sw,mod_lt->gT,div_add_mod->iG
open Option renaming bind_some->I7
open Option.some renaming injEq->A2
namespace Go.Proofs.YtcandeobhlfkbaaGreat
open Go Tryz Go.RowKit
def layA:Array Value->Nat->List Value->Array Value
 | arr,_,[]=>arr
 | arr,o,v :: vs=>layA (arr.setIfInBounds o v) (o+1) vs
theorem H8:∀ (vs:List Value) (arr:Array Value) (o:Nat),(layA arr o vs).size=arr.size
 | [],_,_=>rfl
 | v :: vs,arr,o=>by rw [layA,H8 vs]; simp
theorem Ly:∀ (vs:List Value) (arr:Array Value) (o:Nat),o+vs.length<=arr.size->(layA arr o vs).toList=arr.toList.take o++vs++arr.toList.drop (o+vs.length)
 | [],arr,o,_=>by simp [layA]
 | v :: vs,arr,o,h=>by
  simp only [Ck] at h;rw [layA,Ly vs _ _ aB,O3];have h1:(arr.toList.set o v).take (o+1)=arr.toList.take o++[v]:=by
   rw [List.take_set,List.take_add_one,gK _ _ aB];have:o - (arr.toList.take o).length=0:=aB
   rw [this];have h2:o<arr.toList.length:=aB
   rw [Il h2]; rfl
  have h2:(arr.toList.set o v).drop (o+1+vs.length)=arr.toList.drop (o+1+vs.length):=by
   rw [List.drop_set]; rw [if_pos aA]
  rw [h1,h2,Ck,show o+(vs.length+1)=o+1+vs.length by omega];simp
theorem Ew {b:Nat} {t:TypeId} {fz:Nat × Nat} : ∀ (vs:List Value) (o:Nat) (w:World) (arr:Array Value),w.heap[b]?=some (.cells arr t fz)->(w.setCells b o vs).heap[b]?=some (.cells (layA arr o vs) t fz)
 | [],_,_,_,h=>h
 | v :: vs,o,w,arr,h=>by
  refine Ew vs (o+1) (w.setCell ⟨b,o,none⟩ v) (arr.setIfInBounds o v) ?_;unfold hG;simp only;rw [S5,if_pos rfl,h];rfl
theorem G0 {B b:Nat} {a:World} (hb:B<=b):∀ (vs:List Value) (o:Nat) (w:World),Below B a w->Below B a (w.setCells b o vs)
 | [],_,_,h=>h
 | v :: vs,o,w,h=>G0 hb vs (o+1) _ (h.trans ⟨rfl,rfl,rfl,Za4m,fun j hj=>by
   unfold hG;simp only;rw [S5,if_neg aA]⟩)
theorem Ahe {w:World} {base g cap:Nat} {cur:Array Value} {zs:List Int} (hg:base<=g) (h:w.heap[g]?=some (.cells cur 3 (0,0))) (hn:zs.length<=cap) (hm:cap<=maxLen) (hs:cur.size=cap) (ht:cur.toList.take zs.length=zs.map num):OR w base (.slice (some ⟨g,0,none⟩) zs.length cap) zs :=
 ⟨by simp,.inr ⟨g,cap,cur,rfl,hg,h,hn,hm,aA,by rw [Ib]; exact ht⟩⟩
theorem Afx (base:Nat) (w:World) (v:Value) (zs:List Int) (x:Int) (vb:Nat) (hO:OR w base v zs) (hbase:base<=w.heap.size) (hvb:w.heap[vb]?=some (.cells #[num x] 3 (0,0))) (hne:∀ g n c,v=.slice (some ⟨g,0,none⟩) n c->g≠vb) (hlen:zs.length<=1000000) :
  Calls prog 181 #[v,.int .i64 0,.slice (some ⟨vb,0,none⟩) 1 1] w fun e w'=>∃ v',e=.returned v'/\OR w' base v' (x :: zs)/\Below base w w':=by
 have uk:∀ (j:Nat) u,[num x][j]?=some u->w.cell? ⟨vb,0+j,none⟩=some u:=by
  intro j u hj;cases j with
  | zero =>
   simp only [F2,A2] at hj;subst hj;rw [Lib.cell_of_heap hvb]; rfl
  | succ j=>simp at hj
 have h1v:∀ u ∈ [num x],u.oneCell'=true:=fun u hu=>by
  have:u=num x:=dO
  subst this; rfl
 have h1c:∀ u ∈ zs.map num,u.oneCell'=true:=fun u hu=>by
  obtain ⟨y,-,rfl⟩:=F9.1 hu;rfl
 have hmax:(1000001:Nat)<=maxLen:=eF
 have np:Tryz.laysIns_ren.t 3=3:=rfl;have a0d:(Sl .i64 0).cells.size=1:=rfl;rcases hO.2 with ⟨rfl,h0⟩|⟨g,cap,cur,rfl,k1,k2,k3,k4,k5,k6⟩
 ·have hz:zs=[]:=Fm h0;subst hz;refine (Any2.slices_Insert_int_end_grow Tryz.laysIns none 0 0 vb 0 1 1 [] [num x] w aA aA aA aA rfl rfl (fun _=>rfl) (fun _ h=>aV) uk h1v).mono ?_;rintro e w' ⟨rfl,rfl⟩;exact Ya02
 ·have hM:cap<=9223372036854775807:=by unfold maxLen at k4; omega
  have hgv:g≠vb:=hne g _ cap rfl;have hcl:(zs.map num).length=zs.length:=by simp
  have hc5:cur.size=cap:=aA
  have jg:∀ (j:Nat) u,(zs.map num)[j]?=some u->w.cell? ⟨g,0+j,none⟩=some u:=by
   intro j u hj;rw [Ib] at k6;have fu:j<zs.length:=by
    have:=(Fu.1 hj).1;exact Ya15
   rw [<- k6,Iu,if_pos fu] at hj;rw [Lib.cell_of_heap k2,Fg];simpa using hj
  have pf:∀ j,j<cap->(w.cell? ⟨g,0+j,none⟩).isSome=true:=fun j hj=>by
   rw [Lib.cell_of_heap k2,Fg];rw [Cy (show j<cur.size by omega)]; rfl
  have hfz:∀ j,w.frozen? ⟨g,0+j,none⟩=false:=fun j=>by
   simp [iA,k2]
  by_cases hz:zs=[]
  ·subst hz;by_cases hc:cap=0
   ·subst hc;refine (Any2.slices_Insert_int_end_grow Tryz.laysIns (some ⟨g,0,none⟩) 0 0 vb 0 1 1 [] [num x] w aA aA aA aA rfl rfl (fun _=>rfl) (fun _ _ j u h=>aN) uk h1v).mono ?_;rintro e w' ⟨rfl,rfl⟩;exact Ya02
   ·refine (Any2.slices_Insert_int_end_room Tryz.laysIns g 0 0 cap vb 0 1 1 [num x] w aA aA hM rfl (fun j hj=>by simpa using pf j aA) (fun j hj=>by simpa using hfz j) uk h1v).mono ?_;rintro e w' ⟨rfl,rfl⟩;refine ⟨_,rfl,Ahe (zs:=[x]) (cur:=layA cur 0 [num x]) k1 (Ew _ _ _ _ k2) aB k4 (by rw [H8]; exact hc5) ?_,G0 k1 _ _ _ (C5 _ _)⟩;rw [Ly _ _ _ aB];simp
  ·have hpos:0<zs.length:=Lo.2 hz;by_cases bh:zs.length+1<=cap
   ·refine (Any2.slices_Insert_int_shift Tryz.laysIns g 0 zs.length cap 0 vb 0 1 1 (zs.map num) [num x] w hpos aA bh hM (fun h=>hgv h.symm) hcl rfl jg (fun j hj=>pf j aA) (fun j _=>hfz j) uk h1c h1v 3 3 1 cap ?_ ?_ aA ?_ ?_).mono ?_
    ·simp [World.shape?,hvb]
    ·simp [World.shape?,k2,hc5]
    ·simp [iA,hvb]
    ·simp [iA,hvb]
    rintro e w' ⟨rfl,rfl⟩;have bz:w.drew.heap[g]?=some (.cells cur 3 (0,0)):=k2;have hA:=Ew ((zs.map num).drop 0) (0+(0+1)) w.drew cur bz;have hB:=Ew [num x] (0+0) _ _ hA;have uq:(zs.map num).length=zs.length:=by simp
    refine ⟨_,rfl,Ahe (zs:=x :: zs) k1 hB (by simpa using bh) k4 (by rw [H8,H8]; exact hc5) ?_,G0 k1 _ _ _ (G0 k1 _ _ _ ((C5 _ _).drew))⟩;rw [Ly _ _ _ (by rw [H8]; simp; omega),Ly _ _ _ aB];have hl1:(cur.toList.take (0+(0+1))).length=1:=aB
    simp only [iW,Cw,F7,Fg,S6,Cp,Ck,O9,F1] at hl1 ⊢;rw [Fa,fP,List.drop_of_length_le aA,Cw,hl1];simp only [Cu,Fg,I4,F7];exact Ya1x
   ·refine (Any2.slices_Insert_int_grow Tryz.laysIns g 0 zs.length cap 0 vb 0 1 1 (zs.map num) [num x] w hpos aA k3 aA aA hcl rfl jg uk h1c h1v).mono ?_;rintro e w' ⟨rfl,rfl⟩;rw [np];have f9:=grownCap_ge w (zs.length+1) cap 3;obtain ⟨arr,ee⟩:∃ arr:Array Value,((zs.map num).take 0).toArray++Oe (Sl .i64 0).cells (zs.length+1 - 0)++Oe (Sl .i64 0).cells (grownCap w (zs.length+1) cap 3 - (zs.length+1))=arr:=⟨_,rfl⟩;rw [ee];have hsz:arr.size=grownCap w (zs.length+1) cap 3:=by
     rw [<- ee]; simp [size_zeroCells,a0d]; omega
    have h0:(w.alloc (.cells arr 3)).drew.heap[w.heap.size]?=some (.cells arr 3 (0,0)):=An w _;have hA:=Ew [num x] 0 _ _ h0;have hB:=Ew ((zs.map num).drop 0) (0+1) (((w.alloc (.cells arr 3)).drew.setCells w.heap.size 0 [num x]).drew) _ hA;have uq:(zs.map num).length=zs.length:=by simp
    refine ⟨_,rfl,Ahe (zs:=x :: zs) hbase hB (by simpa using f9) (grownCap_le_maxLen w _ _ _ aA) (by rw [H8,H8]; exact hsz) ?_,G0 hbase _ _ _ (Below.drew (G0 hbase _ _ _ (((C5 _ _).alloc hbase _).drew)))⟩;rw [Ly _ _ _ (by rw [H8,hsz]; simp; omega),Ly _ _ _ (by rw [hsz]; simp; omega)];simp only [iW,Cw,F7,Fg,S6,Cp,Ck,O9,F1,Cr];exact Ya1x
end Go.Proofs.YtcandeobhlfkbaaGreat
namespace Go.Proofs.YtcandeobhlfkbaaGreat
open Go Tryz Go.RowKit
theorem Aal {w:World} {v1 v2:Value} {a b:Nat} (ht:Tab0 w) (h1:RD w v1 (dig a)) (h2:RD w v2 (dig b)) (ha:(dig a).length<=1000000) (hb:(dig b).length<=1000000) :
  Calls prog 179 #[v1,v2] w fun e w'=>e=.returned (.int .i64 (cmpN a b))/\Below w.heap.size w w':=by
 refine (call0 (fun S tk k=>N2 S tk k a b ha hb) ht Za3c).mono ?_;rintro e w' ⟨v,rfl,hb,hv⟩;simp only [VR] at hv;rw [hv];exact ⟨rfl,hb⟩
theorem Ael {w:World} {v1 v2:Value} {a b:Nat} (ht:Tab0 w) (h1:RD w v1 (dig a)) (h2:RD w v2 (dig b)) (ha:(dig a).length<=100000) (hb:(dig b).length<=100000) :
  Calls prog 182 #[v1,v2] w fun e w'=>∃ v,e=.returned v/\Below w.heap.size w w'/\RD w' v (dig (a*b)) :=
 call0 (fun S tk k=>Tz S tk k a b ha hb) ht Za3c
theorem Ae6 {w:World} {base:Nat} {v:Value} {zs:List Int} (hO:OR w base v zs) (hb:0<base) (hl:zs.length<=1000000) :
  Calls prog 180 #[v] w fun e w'=>∃ v',e=.returned v'/\w'=w/\OR w base v' (Dx zs):=by
 obtain ⟨av,cv,rfl,hcv,hcells⟩:=Lq (hO.rd hb);refine (X7 w av cv zs hl hcv fun j x hx=>?_).mono ?_
 ·exact Ya3g
 ·rintro e w' ⟨rfl,rfl⟩;exact ⟨_,rfl,rfl,hO.trim⟩
theorem OR.weaken {w:World} {base base':Nat} {v:Value} {zs:List Int} (h:OR w base v zs) (hb:base'<=base):OR w base' v zs:=by
 refine ⟨h.1,?_⟩;rcases h.2 with h0|⟨g,cap,cur,rfl,h1,h2,h3⟩
 ·exact .inl h0
 ·exact .inr ⟨g,cap,cur,rfl,aA,h2,h3⟩
theorem Arh (w:World) (base:Nat):OR w base (.slice none 0 0) []:=⟨rfl,.inl ⟨rfl,rfl⟩⟩
theorem Aoh {w:World} {d:Int} (h0:0<w.heap.size):RD (w.alloc (.cells #[num d] 3)) (.slice (some ⟨w.heap.size,0,none⟩) 1 1) [d]:=by
 refine Ao6 (zs:=[d]) trivial (Cc _) fun j x hx=>?_;cases j with
 | zero =>
  simp only [nth,A2] at hx;subst hx;rw [Lib.cell_of_heap (An w _)]; rfl
 | succ j=>simp [nth] at hx
theorem makeN {w:World} {N:Nat} (hN:N<=1000000) {ops:Array Oper} {rest:List Oper} {op:Oper} {a:Act} {Q:Exit->Act->World->Prop} {l c:Operand} (hgd:op.guard=none) (hop:op.op=.makeSlice 45 l c) (hl:a.eval l=.int .i64 (N:Nat)) (hc:a.eval c=.int .i64 (N:Nat))
  (h:∀ w',w'.heap[w.heap.size]?=some (.cells ((Ci N (0:Int)).map num).toArray 3 (0,0))->Below w.heap.size w w'->wpList prog ops Q rest (a.put op.dst (.slice (some ⟨w.heap.size,0,none⟩) N N)) w'):wpList prog ops Q (op :: rest) a w:=by
 obtain ⟨i0,hi,hz0,hz1,hz2⟩:=info_parts Ajl;refine wpList_make_row (P:=prog) w hgd l c 45 hop 3 i0 (.int .i64 0) underlying45 hi hz0 hz1 rfl .i64 .i64 N hl hc (by rw [hz2]; omega) aA ?_;have e:madeCells #[num 0] N=((Ci N (0:Int)).map num).toArray:=by
  apply Array.ext
  ·simp [madeCells]
  ·intro i h1 h2;simp [madeCells,Nat.mod_one]
 rw [e];exact h _ (An w _) ((C5 _ _).alloc (Cc _) _)
def topV (A:List Int) (k:Nat):Nat:=(val (A.drop k)).toNat
structure QI (A:List Int) (b k R:Nat) (qs:List Int):Prop where
 len:qs.length=A.length
 ok:okD qs
 zero:∀ j x,j<k->nth qs j=some x->x=0
 rest:R=topV A k % b
 eqv:val qs=10000 ^ k*(topV A k / b:Nat)
theorem QI.start (A:List Int) (b:Nat):QI A b A.length 0 (Ci A.length 0):=by
 have h0:topV A A.length=0:=Za3i
 have hz:∀ (n j:Nat) (x:Int),nth (Ci n (0:Int)) j=some x->x=0:=fun n j x h=>by
  exact Ya3b
 refine ⟨by simp,Aak fun j x hx=>by rw [hz _ _ _ hx]; omega,fun j x _ hx=>hz _ _ _ hx,by rw [h0]; simp,?_⟩;rw [Hl,h0]; simp
theorem Aa2 {A:List Int} (hA:okD A) {k:Nat} {x:Int} (hx:nth A k=some x):topV A k=x.toNat+10000*topV A (k+1):=by
 unfold topV;rw [Ay hx,val];have h1:=Gb hA hx;have h2:=Gp (l:=A.drop (k+1)) fun d hd=>hA d (List.mem_of_mem_drop hd);omega
theorem QI.step {A:List Int} {b k R:Nat} {qs:List Int} {x:Int} (hA:okD A) (hb:0<b) (h:QI A b (k+1) R qs) (hx:nth A k=some x) :
  (x.toNat+10000*R) / b<10000/\topV A k / b=10000*(topV A (k+1) / b)+(x.toNat+10000*R) / b/\topV A k % b=(x.toNat+10000*R) % b:=by
 have hr:=h.rest;have hxk:=Gb hA hx;have hRb:R<b:=by rw [hr]; exact gT _ hb
 have hdm:=iG (topV A (k+1)) b;rw [<- hr] at hdm;have hs:=Aa2 hA hx;have e:topV A k=(x.toNat+10000*R)+b*(10000*(topV A (k+1) / b)):=by
  rw [hs,Nat.mul_left_comm]; omega
 refine ⟨?_,?_,?_⟩
 ·rw [O8 hb];have:10000*(R+1)<=10000*b:=Nat.mul_le_mul_left _ hRb;omega
 ·rw [e,Nat.add_mul_div_left _ _ hb]; omega
 ·rw [e,Nat.add_mul_mod_self_left]
theorem QI.small {A:List Int} {b k R:Nat} {qs:List Int} {x:Int} (hA:okD A) (hb:0<b) (h:QI A b (k+1) R qs) (hx:nth A k=some x) (hlt:x.toNat+10000*R<b):QI A b k (x.toNat+10000*R) qs:=by
 obtain ⟨-,h2,h3⟩:=h.step hA hb hx;rw [Nat.div_eq_of_lt hlt] at h2;rw [Sk hlt] at h3;refine ⟨h.len,h.ok,fun j y hj hy=>h.zero j y aA hy,h3.symm,?_⟩;have e1:((10000*(topV A (k+1) / b)+0:Nat):Int)=10000*((topV A (k+1) / b:Nat):Int):=aA
 rw [h.eqv,h2,Oi,e1,Ii]
theorem QI.big {A:List Int} {b k R:Nat} {qs:List Int} {x:Int} (hA:okD A) (hb:0<b) (h:QI A b (k+1) R qs) (hx:nth A k=some x) {d:Nat} (hd:d=(x.toNat+10000*R) / b):QI A b k (x.toNat+10000*R - b*d) (qs.set k (d:Int)):=by
 obtain ⟨h1,h2,h3⟩:=h.step hA hb hx;have hk:k<qs.length:=by rw [h.len]; exact Bh hx
 obtain ⟨y,hy⟩:=Af hk;have hy0:=h.zero k y aA hy;subst hy0;refine ⟨cR,Xj h.ok aA aA,fun j y hj hyj=>?_,?_,?_⟩
 ·rcases Gg hyj with ⟨rfl,-⟩|⟨-,hyj⟩
  ·omega
  ·exact h.zero j y aA hyj
 ·rw [h3,hd];have:=iG (x.toNat+10000*R) b;omega
 ·rw [Kc hy,h.eqv,h2,Oi,<- hd];have e1:((10000*(topV A (k+1) / b)+d:Nat):Int)=10000*(topV A (k+1) / b:Nat)+(d:Int):=aA
  rw [e1,Ow,<- Ii,Int.sub_zero,F6 (d:Int)]
theorem QI.done {a b R:Nat} {qs:List Int} (h:QI (dig a) b 0 R qs):Dx qs=dig (a / b)/\R=a % b:=by
 have ht:topV (dig a) 0=a:=Za3d
 have h1:=h.rest;have h2:=h.eqv;rw [ht] at h1 h2;refine ⟨?_,h1⟩;rw [En h.ok,h2,Int.pow_zero,Int.one_mul,Int.toNat_natCast]
theorem Agx {R:Nat} {x:Int} (hx:0<=x/\x<10000):Dx (x :: dig R)=dig (x.toNat+10000*R):=by
 rw [En (fun d hd=>by
  rcases Cn.1 hd with rfl|hd
  ·exact hx
  ·exact Da R d hd)]
 congr 1;simp only [val,Dm]; omega
end Go.Proofs.YtcandeobhlfkbaaGreat
namespace Go.Proofs.YtcandeobhlfkbaaGreat
open Go Tryz Go.RowKit
set_option maxHeartbeats 8000000
set_option maxRecDepth 100000
theorem Aqv {w:World} {g i:Nat} {qs:List Int} {d x:Int} (h:w.heap[g]?=some (.cells (qs.map num).toArray 3 (0,0))) (hi:nth qs i=some x) :
  (w.setCell ⟨g,i,none⟩ (num d)).heap[g]?=some (.cells ((qs.set i d).map num).toArray 3 (0,0)):=by
 unfold hG;simp only;rw [S5,if_pos rfl,h];simp [List.map_set]
theorem Akx {w:World} {g i:Nat} {v:Value} : Below g w (w.setCell ⟨g,i,none⟩ v) :=
 G0 (Cc _) [v] i w (C5 _ _)
theorem OR.set {w:World} {g i:Nat} {u v:Value} {zs:List Int} (h:OR w (g+1) v zs):OR (w.setCell ⟨g,i,none⟩ u) (g+1) v zs:=by
 refine ⟨h.1,?_⟩;rcases h.2 with h0|⟨g',cap,cur,rfl,h1,h2,h3⟩
 ·exact .inl h0
 ·refine .inr ⟨g',cap,cur,rfl,h1,?_,h3⟩;unfold hG;simp only;rw [S5,if_neg aA];exact h2
theorem T7 {w:World} {g:Nat} {qs:List Int} (h:w.heap[g]?=some (.cells (qs.map num).toArray 3 (0,0))) {j:Nat} {x:Int} (hx:nth qs j=some x):w.cell? ⟨g,0+j,none⟩=some (num x):=by
 rw [Ae] at hx;rw [Lib.cell_of_heap h,Fg,O6,Fw,hx]; rfl
theorem As4 {w:World} {g cap:Nat} {qs:List Int} (h:w.heap[g]?=some (.cells (qs.map num).toArray 3 (0,0))) (_hg:True) (hc:qs.length<=cap):RD w (.slice (some ⟨g,0,none⟩) (Dx qs).length cap) (Dx qs):=by
 refine Ao6 trivial (Fb (Qw qs) hc) fun j x hx=>T7 h ?_;have hlt:=Bh hx;rw [Jc,Ae,Io hlt,<- Ae] at hx;exact hx
theorem Zg {T b:Nat} (h:T<10000*b):(dig T).length<=(dig b).length+1:=Bt.2 (by
 have h1:=Bt.1 (Cc (dig b).length);rw [Ss,O1 (10000 ^ (dig b).length)];exact Ff h (Nat.mul_le_mul_left _ (Nat.le_of_lt h1)))
theorem Asb (x y:Nat):cmpN x y<=0↔x<=y:=by
 unfold cmpN;split
 ·constructor <;> omega
 ·split <;> constructor <;> omega
def NewB (base:Nat) (v:Value):Prop:=∀ b o n c,v=.slice (some ⟨b,o,none⟩) n c->base<=b
theorem OR.newB {w:World} {base base':Nat} {v:Value} {zs:List Int} (h:OR w base v zs) (hb:base'<=base):NewB base' v:=fun b _ _ _ e=>Fb hb (h.lt b (by rw [e]; rfl)).1
theorem Aga {base g n c:Nat} (h:base<=g):NewB base (.slice (some ⟨g,0,none⟩) n c):=by
 intro b o n' c' e;cases e;exact h
theorem Aaq (w:World) (va vb:Value) (a b:Nat) (ht:Tab0 w) (ha:RD w va (dig a)) (hb:RD w vb (dig b)) (hb0:0<b) (hla:(dig a).length<=90000) (hlb:(dig b).length<=90000) :
  Calls prog 174 #[va,vb] w fun e w'=>∃ v1 v2,e=.returned (.tuple #[v1,v2])/\RD w' v1 (dig (a / b))/\RD w' v2 (dig (a % b))/\Below w.heap.size w w'/\NewB w.heap.size v1/\(v2=va/\a % b=a\/NewB w.heap.size v2):=by
 have hO:=Aal ht ha hb aA aA;have hRA:=ha;obtain ⟨ax,cx,rfl,hcx,hX⟩:=Lq ha;have HX:=Cm hX;have HKX:=Cm (Da a);have HRA:=Cm hRA;have HRB:=Cm hb;have HT:=Cm ht;have HD:=Cm (fun (R:Nat) (qs:List Int) (h:QI (dig a) b 0 R qs)=>h.done);have HS:=Cm (QI.start (dig a) b);clear hX ha hb hRA ht;generalize hXX:dig a=X at *;generalize hN:X.length=N at *;have HO:=Cm hO;have HN:=Cm (show N<=1000000 by omega);clear hO;by_cases hab:a<b
 ·have hc:cmpN a b<0:=by simp [cmpN,hab]
  go_enter func174,ntmps174;go_wp2_with (go_at_call 179; refine HO.out.mono ?_; rintro e w1 ⟨rfl,hb1⟩);go_ret2;have e1:a / b=0:=Nat.div_eq_of_lt hab;have e2:a % b=a:=Sk hab;rw [e1,e2,Dv];exact ⟨_,_,rfl,Aog _ _ _,by rw [hXX]; exact HRA.out.below hb1,hb1,fun b o n c h=>aV,.inl ⟨rfl,rfl⟩⟩
 have hc:¬ cmpN a b<0:=by
  unfold cmpN;rw [if_neg hab]; split <;> omega
 go_enter func174,ntmps174;go_wp2_with (first
  | (go_at_call 179; refine HO.out.mono ?_; rintro e w1 ⟨rfl,hb1⟩; have HB1:=Cm hb1; clear hb1)
  | (at_make; refine makeN HN.out rfl rfl rfl rfl ?_; intro w2 hq2 hb2; have HQ2:=Cm hq2; have HB2:=Cm (HB1.out.trans (hb2.mono HB1.out.size)); clear hq2 hb2))
 have hgq:w.heap.size<=w1.heap.size:=HB1.out.size;generalize hGQ:w1.heap.size=gq at *;have HGP:=Cm (show 0<w.heap.size from HT.out.pos);have HW2:=Cm (Cj.1 HQ2.out).1;go_loopw [7,8] (fun v i wr=>∃ (k R:Nat) (qs:List Int),i=.int .i64 ((k:Int) - 1)/\k<=N/\Hid (QI X b k R qs)/\Hid (OR wr (gq+1) v (dig R))/\Hid (wr.heap[gq]?=some (.cells (qs.map num).toArray 3 (0,0)))/\Hid (Below w.heap.size w wr)) (fun _ i _=>(Ko i+1).toNat);case atStart=>exact ⟨N,0,_,congrArg (Sl .i64) aA,Cc _,HS,Cm (by rw [Dv]; exact Arh _ _),HQ2,HB2⟩
 case round =>
  obtain ⟨k,R,qs,rfl,hk,HI,HR,HQ,HB⟩:=hrel
  cases k with
  | zero =>
   have hql:qs.length=N:=HI.out.len.trans hN
   have hT:=X7 wr (some ⟨gq,0,none⟩) N qs aA aA fun j x hx=>⟨gq,0,rfl,T7 HQ.out hx⟩
   have HV:=Cm (As4 (cap:=N) HQ.out trivial aA)
   have HE:=Cm (HD.out R qs HI.out)
   rw [hql] at hT
   have HTr:=Cm hT
   clear hT
   go_wp2_with (go_at_call 180; refine HTr.out.mono ?_; rintro e w6 ⟨rfl,rfl⟩)
   go_ret2
   obtain ⟨e1,e2⟩:=HE.out
   have hv:=HV.out
   rw [e1] at hv ⊢
   exact ⟨_,_,rfl,hv,by rw [<- e2]; exact HR.out.rd aA,HB.out,Aga aA,.inr (HR.out.newB aA)⟩
  | succ k =>
   obtain ⟨x,hx⟩:=Af (show k<X.length by omega)
   obtain ⟨bx,ox,rfl,hcx0,-⟩:=HX.out k x hx
   have hxk:=HKX.out x Za1a
   have hcell:=(HB.out.cell (Ea hcx0)).trans hcx0
   have hi:(((k+1:Nat):Int) - 1)=(k:Int):=aA
   rw [hi]
   have hi1:Cf.wrap ((k:Int) - 1)=(k:Int) - 1:=Ab aC
   have hg1:(k:Int) >= 0:=aA
   have hg2:(k:Int)<(N:Int):=aA
   have hQl:=(Cj.1 HQ.out).1
   have hRl:(dig R).length<=90000:=by
    have h1:R<b:=Za3e
    exact Fb (Bt.2 (Nat.lt_trans h1 (Bt.1 (Cc _)))) hlb
   have hB3:Below wr.heap.size wr (wr.alloc (.cells #[num x] 3)):=(C5 _ _).alloc (Cc _) _
   have hIns:=Afx (gq+1) (wr.alloc (.cells #[num x] 3)) _ (dig R) x wr.heap.size (HR.out.below hB3) (by have:=hB3.size; omega) (An wr _) (fun g n c hv=>by
    have:=HR.out.lt g (by rw [hv]; rfl);omega) aA
   have HIns:=Cm hIns
   have HXX:=Cm hx
   have hTa:=Agx (R:=R) hxk
   have hTb:x.toNat+10000*R<10000*b:=by
    have h1:R<b:=Za3e
    omega
   have HSm:=Cm (HI.out.small (b:=b) HKX.out hb0 hx)
   have HBg:=Cm (fun d=>HI.out.big (b:=b) (d:=d) HKX.out hb0 hx)
   generalize hTT:x.toNat+10000*R=T at *
   have hTl:(dig T).length<=90001:=Fb (Zg hTb) aA
   have HTa:=Cm hTa
   clear hTa
   have HB3:=Cm hB3
   clear hIns hx hcx0 hB3
   have hgq2:w.heap.size<=gq+1:=aA
   by_cases hlt:T<b
   ·have hc2:cmpN T b<0:=by simp [cmpN,hlt]
    have HSs:=Cm (HSm.out hlt)
    go_wp2_with (go_at_call 181; refine HIns.out.mono ?_; rintro e w4 ⟨v4,rfl,hO4,hB4⟩; have HO4:=Cm hO4; have HB4:=Cm hB4; clear hO4 hB4)
    have HQ5:=Cm ((HB4.out.block gq (Iy _)).trans ((HB3.out.block gq hQl).trans HQ.out))
    have HB5:=Cm ((HB.out.trans (HB3.out.mono HB.out.size)).trans (HB4.out.mono hgq2))
    go_wp2_with (go_at_call 180; refine (Ae6 HO4.out (Sw _) aB).mono ?_; rintro e w5 ⟨v5,rfl,rfl,hO5⟩; rw [HTa.out] at hO5; have HO5:=Cm hO5; clear hO5)
    have HT5:=Cm (HT.out.below HGP.out HB5.out)
    go_wp2_with (go_at_call 179; refine (Aal HT5.out (HO5.out.rd (Sw _)) (HRB.out.below HB5.out) aA aA).mono ?_; rintro e w6 ⟨rfl,hb6⟩; have HB6:=Cm hb6; clear hb6)
    exact ⟨⟨k,T,qs,rfl,aA,HSs,Cm (HO5.out.below HB6.out),Cm ((HB6.out.block gq (Cj.1 HQ5.out).1).trans HQ5.out),Cm (HB5.out.trans (HB6.out.mono HB5.out.size))⟩,by simp [Ko]⟩
   ·have hc2:¬ cmpN T b<0:=by
     unfold cmpN;rw [if_neg hlt]; split <;> omega
    obtain ⟨d,hd⟩:∃ d,d=T / b:=⟨_,rfl⟩
    have hd1:1<=d:=by rw [hd]; exact (Nat.le_div_iff_mul_le hb0).2 aA
    have hd2:d<=9999:=by
     have:d<10000:=by rw [hd]; exact (O8 hb0).2 hTb
     omega
    have HDv:=Cm (fun m:Nat=>(show b*m<=T↔m<=d by rw [hd,Nat.le_div_iff_mul_le hb0,O1]))
    have HBd:=Cm (HBg.out d hd)
    have hTd:b*d<=T:=by rw [hd]; exact Nat.mul_div_le T b
    have HTd:=Cm hTd
    clear hd hTd
    go_wp2_with (go_at_call 181; refine HIns.out.mono ?_; rintro e w4 ⟨v4,rfl,hO4,hB4⟩; have HO4:=Cm hO4; have HB4:=Cm hB4; clear hO4 hB4)
    have HQ5:=Cm ((HB4.out.block gq (Iy _)).trans ((HB3.out.block gq hQl).trans HQ.out))
    have HB5:=Cm ((HB.out.trans (HB3.out.mono HB.out.size)).trans (HB4.out.mono hgq2))
    go_wp2_with (go_at_call 180; refine (Ae6 HO4.out (Sw _) aB).mono ?_; rintro e w5 ⟨v5,rfl,rfl,hO5⟩; rw [HTa.out] at hO5; have HO5:=Cm hO5; clear hO5)
    have HT5:=Cm (HT.out.below HGP.out HB5.out)
    go_wp2_with (go_at_call 179; refine (Aal HT5.out (HO5.out.rd (Sw _)) (HRB.out.below HB5.out) aA aA).mono ?_; rintro e w6 ⟨rfl,hb6⟩; have HB6:=Cm hb6; clear hb6)
    have HB7:=Cm (HB5.out.trans (HB6.out.mono HB5.out.size))
    have HQ7:=Cm ((HB6.out.block gq (Cj.1 HQ5.out).1).trans HQ5.out)
    have HO7:=Cm (HO5.out.below HB6.out)
    clear HIns HSm HBg HO4 HB4 HB6 HO5 HT5 HQ5 HB5 HB3 hc2
    go_loopw [9,10] (fun lo hi wq=>∃ l h:Nat,lo=.int .i64 l/\hi=.int .i64 h/\1<=l/\l<=d/\d<=h/\h<=9999/\Hid (Below w6.heap.size w6 wq)) (fun lo hi _=>(Ko hi - Ko lo).toNat)
    case atStart=>exact ⟨1,9999,rfl,rfl,Cc _,hd1,hd2,Cc _,Cm (C5 _ _)⟩
    case round =>
     obtain ⟨l,h,rfl,rfl,hl1,hl2,hh1,hh2,HBq⟩:=hrel
     by_cases hlh:l<h
     ·have hg3:(l:Int)<(h:Int):=aA
      obtain ⟨m,hm⟩:∃ m:Nat,m=(l+h+1) / 2:=⟨_,rfl⟩
      have hw1:Cf.wrap ((l:Int)+(h:Int))=(l:Int)+(h:Int):=Ab aC
      have hw2:Cf.wrap ((l:Int)+(h:Int)+1)=(l:Int)+(h:Int)+1:=Ab aC
      have hdv:((l:Int)+(h:Int)+1) / 2=(m:Int):=aA
      have hwm:Cf.wrap (m:Int)=(m:Int):=Ab aC
      have hwp:Cf.wrap (((l:Int)+(h:Int)+1) / 2 - 1)=((l:Int)+(h:Int)+1) / 2 - 1:=Ab aC
      have hd1:dig m=[((l:Int)+(h:Int)+1) / 2]:=by
       rw [hdv];have:=Wp (d:=(m:Int)) aA aA;rwa [Int.toNat_natCast] at this
      have hBa:Below wr.heap.size wr (wr.alloc (.cells #[num (((l:Int)+(h:Int)+1) / 2)] 3)):=(C5 _ _).alloc (Cc _) _
      have hBw:Below w.heap.size w wr:=HB7.out.trans (HBq.out.mono HB7.out.size)
      have hTq:Tab0 wr:=HT.out.below HGP.out hBw
      have hpq:0<wr.heap.size:=hTq.pos
      have hbm:(dig (b*m)).length<=(dig b).length+1:=Zg (by rw [O1]; exact Nat.mul_lt_mul_of_pos_right aA hb0)
      have HP:=Cm (Ael (a:=b) (b:=m) (hTq.below hpq hBa) (HRB.out.below (hBw.trans (hBa.mono hBw.size))) (by rw [hd1]; exact Aoh hpq) aA (by rw [hd1]; simp))
      have HBa:=Cm hBa
      have HBw:=Cm hBw
      have HCm:=Cm (Asb (b*m) T)
      have HDv2:=Cm hdv
      have HDv3:=Cm hm
      clear hBa hBw hTq hd1 hdv hm hwm
      by_cases hmd:m<=d
      ·have hc3:cmpN (b*m) T<=0:=HCm.out.2 ((HDv.out m).2 hmd)
       go_wp2_with (go_at_call 182; refine HP.out.mono ?_; rintro e w8 ⟨v8,rfl,hb8,hr8⟩; have HB8:=Cm hb8; have HR8:=Cm hr8; clear hb8 hr8)
       have HB9:=Cm (HBa.out.trans (HB8.out.mono HBa.out.size))
       have HT9:=Cm (HT.out.below HGP.out (HBw.out.trans (HB9.out.mono HBw.out.size)))
       have HO9:=Cm ((HO7.out.below (HBq.out)).below HB9.out)
       go_wp2_with (go_at_call 179; refine (Aal HT9.out HR8.out (HO9.out.rd (Sw _)) aA aA).mono ?_; rintro e w10 ⟨rfl,hb10⟩; have HB10:=Cm hb10; clear hb10)
       have hE:=HDv2.out
       have hE3:=HDv3.out
       refine ⟨⟨m,h,congrArg _ hE,rfl,aA,hmd,hh1,hh2,Cm ((HBq.out.trans (HB9.out.mono HBq.out.size)).trans (HB10.out.mono (Fb HBq.out.size HB9.out.size)))⟩,?_⟩
       simp only [Ko]
       omega
      ·have hc3:¬ cmpN (b*m) T<=0:=fun h'=>hmd ((HDv.out m).1 (HCm.out.1 h'))
       go_wp2_with (go_at_call 182; refine HP.out.mono ?_; rintro e w8 ⟨v8,rfl,hb8,hr8⟩; have HB8:=Cm hb8; have HR8:=Cm hr8; clear hb8 hr8)
       have HB9:=Cm (HBa.out.trans (HB8.out.mono HBa.out.size))
       have HT9:=Cm (HT.out.below HGP.out (HBw.out.trans (HB9.out.mono HBw.out.size)))
       have HO9:=Cm ((HO7.out.below (HBq.out)).below HB9.out)
       go_wp2_with (go_at_call 179; refine (Aal HT9.out HR8.out (HO9.out.rd (Sw _)) aA aA).mono ?_; rintro e w10 ⟨rfl,hb10⟩; have HB10:=Cm hb10; clear hb10)
       have hE:=HDv2.out
       have hE3:=HDv3.out
       refine ⟨⟨l,m - 1,rfl,congrArg _ aA,hl1,hl2,aA,aA,Cm ((HBq.out.trans (HB9.out.mono HBq.out.size)).trans (HB10.out.mono (Fb HBq.out.size HB9.out.size)))⟩,?_⟩
       simp only [Ko]
       omega
     ·have hlde:l=d:=aA
      subst hlde
      have hg3:¬ (l:Int)<(h:Int):=aA
      have hBw:Below w.heap.size w wr:=HB7.out.trans (HBq.out.mono HB7.out.size)
      have hTq:Tab0 wr:=HT.out.below HGP.out hBw
      have hpq:0<wr.heap.size:=hTq.pos
      have hql:qs.length=N:=HI.out.len.trans hN
      obtain ⟨y,hy⟩:=Af (show k<qs.length by omega)
      have hQq:wr.heap[gq]?=some (.cells (qs.map num).toArray 3 (0,0)):=(HBq.out.block gq (Cj.1 HQ7.out).1).trans HQ7.out
      have hcq:wr.cell? ⟨gq,k,none⟩=some (num y):=by
       have:=T7 hQq hy;rwa [Fg] at this
      have hfq:wr.frozen? ⟨gq,k,none⟩=false:=by simp [iA,hQq]
      have HQ8:=Cm (Aqv (d:=(l:Int)) hQq hy)
      have hS:Below gq wr (wr.setCell ⟨gq,k,none⟩ (num (l:Int))):=Akx
      have HBw2:=Cm (hBw.trans (hS.mono aA))
      have HO8:=Cm ((HO7.out.below HBq.out).set (i:=k) (u:=num (l:Int)))
      clear hQq hS hBw hTq hy
      have hsz:(wr.setCell ⟨gq,k,none⟩ (num (l:Int))).heap.size=wr.heap.size:=Za4m
      have hdl:dig l=[(l:Int)]:=by
       have:=Wp (d:=(l:Int)) aA aA;rwa [Int.toNat_natCast] at this
      have hBa:Below (wr.setCell ⟨gq,k,none⟩ (num (l:Int))).heap.size (wr.setCell ⟨gq,k,none⟩ (num (l:Int))) ((wr.setCell ⟨gq,k,none⟩ (num (l:Int))).alloc (.cells #[num (l:Int)] 3)):=(C5 _ _).alloc (Cc _) _
      have hBw3:=HBw2.out.trans (hBa.mono HBw2.out.size)
      have hP:=Ael (a:=b) (b:=l) (HT.out.below HGP.out hBw3) (HRB.out.below hBw3) (by rw [hdl]; exact Aoh (by rw [hsz]; exact hpq)) aA (by rw [hdl]; simp)
      rw [hsz] at hP
      have HP:=Cm hP
      have HBa:=Cm hBa
      have HSz:=Cm hsz
      clear hP hBa hBw3 hdl hsz
      go_wp2_with (go_at_call 182; refine HP.out.mono ?_; rintro e w8 ⟨v8,rfl,hb8,hr8⟩; have HB8:=Cm hb8; have HR8:=Cm hr8; clear hb8 hr8)
      have HB9:=Cm (HBa.out.trans (HB8.out.mono HBa.out.size))
      have HBw9:=Cm (HBw2.out.trans (HB9.out.mono HBw2.out.size))
      have HO9:=Cm (HO8.out.below HB9.out)
      have HQ9:=Cm ((HB9.out.block gq (Cj.1 HQ8.out).1).trans HQ8.out)
      go_wp2_with (go_at_call 183; refine (Ana w8 v5 v8 T (b*l) (HO9.out.rd (Sw _)) HR8.out HTd.out aA (Ff HGP.out HBw9.out.size)).mono ?_; rintro e w9 ⟨v9,rfl,hO9,hB9⟩; have HO10:=Cm hO9; have HB10:=Cm hB9; clear hO9 hB9)
      have hgl:=(Cj.1 HQ9.out).1
      exact ⟨⟨k,T - b*l,qs.set k (l:Int),rfl,aA,HBd,Cm (HO10.out.weaken hgl),Cm ((HB10.out.block gq hgl).trans HQ9.out),Cm (HBw9.out.trans (HB10.out.mono HBw9.out.size))⟩,by simp [Ko]⟩
end Go.Proofs.YtcandeobhlfkbaaGreat
namespace Go.Proofs.YtcandeobhlfkbaaGreat.Iv
section
variable {P:Program}
def A6 (ops:Array Oper) (j:Nat):Option Tmp:=(ops[j]?).bind (·.dst)
def depsOf (ops:Array Oper) (i:Nat):List Nat:=match ops[i]? with|some o=>(o.after.toList.filter (Region.binds .any)).map (·.on)|none=>[]
def B1 (ops:Array Oper) (a0:Act) (f:Nat->Value):List Nat->Act
 | []=>a0
 | j :: l=>(B1 ops a0 f l).put (A6 ops j) (f j)
def Nx (ops:Array Oper) (size i:Nat) (o:Oper):Bool :=
 (match o.op with|.select ..=>false|_=>true) && (depsOf ops i).all (·<i) &&
 (match o.guard with|none=>true|some (g,_)=>(depsOf ops i).contains g) &&
 (o.dst.all fun d=>decide (d<size) && (De i).all fun j=>A6 ops j != some d) &&
 (o.op.operands.all fun x=>match x with
  | .tmp t=>(De ops.size).all fun j=>A6 ops j != some t || j == i || (depsOf ops i).contains j || (depsOf ops j).contains i
  | _=>true)
def reachAt (ops:Array Oper) (i:Nat):List Nat:=((De i).reverse).foldl (fun s j=>if s.contains j then depsOf ops j++s else s) (depsOf ops i)
def Dr (ops:Array Oper) (size m:Nat):Bool :=
 ((De ops.size).all fun i=>((ops[i]?).map (Nx ops size i)).getD false) &&
 (De ops.size).all fun i=>decide (i<m) || (De i).all fun j=>(reachAt ops i).contains j
def Oper.gives (P:Program) (o:Oper) (a:Act) (w:World) (Ψ:Value->World->Prop):Prop :=
 match (execOp a.eval o).run P w with
 | .ok (.value v) w'=>Ψ v w'
 | .ok .skip w'=>Ψ undef w'
 | .ok (.enter f args) w'=>Calls P f args w' fun|.returned v,w''=>Ψ v w''|_,_=>False
 | .ok (.row row args) w'=>Rows P row args w' fun v w''=>Ψ v w''
 | _=>False
def V3 (d:Tmp) (n:Nat) (Ψ:Value->World->Prop):Exit->Act->World->Prop:=fun e a w=>e=.normal/\a.defers.length=n/\Ψ (a.tmps.getD d undef) w
theorem L4 {a:Act} {d:Tmp} {v:Value} (h:d<a.tmps.size):(a.put (some d) v).tmps.getD d undef=v:=by
 simp [fX,Ip,h]
theorem Kz {ops:Array Oper} {o:Oper} {a:Act} {w:World} {d:Tmp} {Ψ:Value->World->Prop} (hd:o.dst=some d) (hs:d<a.tmps.size) (hw:F5 o (yielded ops a.tmps)=true)
  (h:wpList P ops (V3 d a.defers.length Ψ) [o] a w):Oper.gives P o a w Ψ:=by
 unfold wpList at h;rw [if_pos hw] at h;rcases h with h|⟨_,a',w',h,_⟩
 ·unfold Oper.wp at h;unfold Oper.gives;generalize (execOp a.eval o).run P w=r at *;cases r with
  | ok n w' =>
   cases n <;> simp only [Oper.upon,wpList,hd] at h ⊢;case value v=>have:=h.2.2; rwa [L4 hs] at this
   case skip=>have:=h.2.2; rwa [L4 hs] at this
   case defer d'=>have:=h.2.1; simp [fX] at this
   case enter f args =>
    refine iU h fun e w'' he=>?_
    cases e with
    | returned v=>have:=he.2.2; rwa [L4 hs] at this
    | panicked c=>exact absurd he.1 (by simp)
    | outgrown=>obtain ⟨_,_,h,_⟩:=he; exact absurd h (by simp)
   case row row args=>exact Rows.mono h fun v w'' he=>by have:=he.2.2; rwa [L4 hs] at this
  | halt x w' =>
   cases x <;> simp only [Oper.upon] at h;exact absurd h.1 (by simp)
 ·exact absurd h (by simp)
theorem Vj {o:Oper} {a:Act} {w:World} {Ψ Ψ':Value->World->Prop} (h:Oper.gives P o a w Ψ) (hi:∀ v w',Ψ v w'->Ψ' v w'):Oper.gives P o a w Ψ':=by
 unfold Oper.gives at *;generalize (execOp a.eval o).run P w=r at *;cases r with
 | ok n w' =>
  cases n <;> simp only at h ⊢;case value v=>exact hi _ _ h
  case skip=>exact hi _ _ h
  case enter f args=>exact iU h fun e w'' he=>by cases e <;> first|exact hi _ _ he|exact he
  case row row args=>exact Rows.mono h fun v w'' he=>hi _ _ he
 | halt x w'=>exact h
theorem Lb (ops:Array Oper) (a0:Act) (f:Nat->Value) (l:List Nat):(B1 ops a0 f l).tmps.size=a0.tmps.size:=by
 exact Ya2p
theorem Ur (ops:Array Oper) (a0:Act) (f:Nat->Value) (l:List Nat):(B1 ops a0 f l).defers=a0.defers:=by
 exact Ya2p
theorem N0 {ops:Array Oper} {a0:Act} {f:Nat->Value} {t:Tmp} {l:List Nat} (h:∀ j,j ∈ l->A6 ops j≠some t):(B1 ops a0 f l).tmps.getD t undef=a0.tmps.getD t undef:=by
 induction l with
 | nil=>rfl
 | cons j l ih =>
  have ih:=ih fun k hk=>h k (by simp [hk]);unfold B1 fX;cases hd:A6 ops j with
  | none=>exact ih
  | some d =>
   have hne:d≠t:=fun e=>h j (by simp) (by rw [hd,e]);simp only;rw [<- ih];exact Ya08
theorem Vu {ops:Array Oper} {a0:Act} {f:Nat->Value} {t:Tmp} {l:List Nat} {i:Nat} (hi:i ∈ l) (hd:A6 ops i=some t) (hs:t<a0.tmps.size)
  (hu:∀ j,j ∈ l->A6 ops j=some t->j=i):(B1 ops a0 f l).tmps.getD t undef=f i:=by
 induction l with
 | nil=>simp at hi
 | cons j l ih =>
  by_cases hj:A6 ops j=some t
  ·obtain rfl:=hu j (by simp) hj;unfold B1;rw [hj];exact L4 (by rw [Lb]; exact hs)
  ·have a8:i ∈ l:=by
    rcases Cn.1 hi with h|h
    ·exact absurd (h ▸ hd) hj
    ·exact h
   have ih:=ih a8 fun k hk=>hu k (by simp [hk]);unfold B1 fX;cases dd:A6 ops j with
   | none=>exact ih
   | some d =>
    have hne:d≠t:=fun e=>hj (by rw [dd,e]);simp only;rw [<- ih];exact Ya08
structure Sofar (ops:Array Oper) (a0:Act) (R1 R2:World->Prop) (s:Nat) (Φ:Nat->World->Value->Prop) (listed:Array Bool) (f:Nat->Value) (a:Act) (w:World):Prop where
 len:listed.size=ops.size
 size:a.tmps.size=a0.tmps.size
 defers:a.defers=a0.defers
 val:∀ j d,listed.getD j false=true->A6 ops j=some d->a.tmps.getD d undef=f j
 old:∀ t,(∀ j,listed.getD j false=true->A6 ops j≠some t)->a.tmps.getD t undef=a0.tmps.getD t undef
 holds:∀ j,listed.getD j false=true->Φ j w (f j)
 one:listed.getD s false=false->R1 w
 two:R2 w
 closed:∀ j,listed.getD j false=true->∀ e ∈ depsOf ops j,listed.getD e false=true
variable {ops:Array Oper} {a0:Act} {R1 R2:World->Prop} {S:World->World->Prop} {Φ:Nat->World->Value->Prop} {m s:Nat}
theorem Mm (ag:Dr ops a0.tmps.size m=true) {i:Nat} {o:Oper} (hi:ops[i]?=some o):Nx ops a0.tmps.size i o=true:=by
 unfold Dr at ag;rw [Ch,Cv] at ag;have h:=ag.1 i (by simp; exact (Cj.1 hi).1);rw [hi] at h;exact h
theorem Rk (ag:Dr ops a0.tmps.size m=true) {i:Nat} {d:Tmp} (hd:A6 ops i=some d):d<a0.tmps.size/\i<ops.size/\∀ j,j<i->A6 ops j≠some d:=by
 unfold A6 at hd;cases ho:ops[i]? with
 | none=>rw [ho] at hd; simp at hd
 | some o =>
  rw [ho] at hd;have hd:o.dst=some d:=cF
  have h:=Mm ag ho;unfold Nx at h;simp only [Ch,hd,Option.all_some,decide_eq_true_eq,Cv,Sn,bne_iff_ne] at h;exact ⟨h.1.2.1,(Cj.1 ho).1,h.1.2.2⟩
theorem Wt (ag:Dr ops a0.tmps.size m=true) {i j:Nat} {d:Tmp} (hi:A6 ops i=some d) (hj:A6 ops j=some d):i=j:=by
 rcases Oh i j with h|h|h
 ·exact absurd hi ((Rk ag hj).2.2 i h)
 ·exact h
 ·exact absurd hj ((Rk ag hi).2.2 j h)
theorem Dd {listed:Array Bool} {i:Nat} (h:listed.getD i true=false):listed.getD i false=false:=by
 by_cases hi:i<listed.size
 ·simpa [Ip,hi] using h
 ·simp [Ip,hi] at h
theorem Sofar.eval {listed:Array Bool} {f:Nat->Value} {a:Act} {w:World} (h:Sofar ops a0 R1 R2 s Φ listed f a w) (ag:Dr ops a0.tmps.size m=true) {i:Nat} {o:Oper} (ho:ops[i]?=some o)
  (io:listed.getD i false=false) (ew:∀ e ∈ depsOf ops i,listed.getD e false=true) :
  execOp a.eval o=execOp (B1 ops a0 f (depsOf ops i)).eval o/\F5 o (yielded ops a.tmps)=F5 o (yielded ops (B1 ops a0 f (depsOf ops i)).tmps):=by
 have hf:=Mm ag ho;unfold Nx at hf;simp only [Ch] at hf;obtain ⟨⟨⟨⟨sx,hlt⟩,hg⟩,u4⟩,hop⟩:=hf;have key:∀ t,(∀ j,A6 ops j=some t->j=i\/j ∈ depsOf ops i\/i ∈ depsOf ops j)->a.tmps.getD t undef=(B1 ops a0 f (depsOf ops i)).tmps.getD t undef:=by
  intro t ht;by_cases hx:∃ j,listed.getD j false=true/\A6 ops j=some t
  ·obtain ⟨j,hj,fm⟩:=hx;rw [h.val j t hj fm];rcases ht j fm with e|e|e
   ·subst e; rw [io] at hj; simp at hj
   ·exact (Vu e fm (Rk ag fm).1 fun k _ hk=>Wt ag hk fm).symm
   ·have:=h.closed j hj i e; rw [io] at this; simp at this
  ·rw [h.old t fun j hj fm=>hx ⟨j,hj,fm⟩,N0 fun j hj fm=>hx ⟨j,ew j hj,fm⟩]
 refine ⟨execOp_congr o (fun cs b e=>by rw [e] at sx; simp at sx) fun x hx=>?_,?_⟩
 ·cases x with
  | tmp t =>
   have h1:=Array.all_eq_true_iff_forall_mem.1 hop (.tmp t) hx;simp only [Cv,Sn,F8,bne_iff_ne,beq_iff_eq,O7] at h1;refine key t fun j hj=>?_;rcases h1 j (Rk ag hj).2.1 with ((h2|h2)|h2)|h2
   ·exact absurd hj h2
   ·exact .inl h2
   ·exact .inr (.inl h2)
   ·exact .inr (.inr h2)
  | _=>rfl
 ·unfold F5;cases hgd:o.guard with
  | none=>rfl
  | some gw =>
   obtain ⟨g,want⟩:=gw;rw [hgd] at hg;have hgm:g ∈ depsOf ops i:=by simpa using hg
   have:yielded ops a.tmps g=yielded ops (B1 ops a0 f (depsOf ops i)).tmps g:=by
    unfold yielded;cases a18:(ops[g]?).bind (·.dst) with
    | none=>rfl
    | some d =>
     have hgd'':A6 ops g=some d:=a18;have hs:=(Rk ag hgd'').1;have e:=key d fun j hj=>by rw [Wt ag hj hgd'']; exact .inr (.inl hgm)
     have s1:d<a.tmps.size:=by rw [h.size]; exact hs
     have s2:d<(B1 ops a0 f (depsOf ops i)).tmps.size:=by rw [Lb]; exact hs
     simp only [Ip,s1,s2,dif_pos] at e;simp only [I7,Cy s1,Cy s2];have e':a.tmps[d]=(B1 ops a0 f (depsOf ops i)).tmps[d]:=e;rw [e']
   simp only [this]
theorem Sofar.next {listed:Array Bool} {f:Nat->Value} {a:Act} {w w':World} {v:Value} (h:Sofar ops a0 R1 R2 s Φ listed f a w) (ag:Dr ops a0.tmps.size m=true)
  {i:Nat} {o:Oper} (ho:ops[i]?=some o) (ew:∀ e ∈ depsOf ops i,listed.getD e false=true) (h1:i≠s->listed.getD s false=false->R1 w') (h2:R2 w')
  (a1j:∀ j u,j≠i->Φ j w u->Φ j w' u) (hv:Φ i w' v) :
  Sofar ops a0 R1 R2 s Φ (listed.setIfInBounds i true) (fun j=>if j=i then v else f j) (a.put o.dst v) w':=by
 have a8:i<listed.size:=by rw [h.len]; exact (Cj.1 ho).1
 have am:∀ j,(listed.setIfInBounds i true).getD j false=true↔j=i\/listed.getD j false=true:=by
  intro j;by_cases e:j=i
  ·subst e; simp [Ip,a8]
  ·simp only [e,false_or];rw [getD_set_ne false (fun x=>e x.symm)]
 have y7:A6 ops i=o.dst:=by simp [A6,ho]
 refine ⟨dD,?_,?_,?_,?_,?_,?_,h2,?_⟩
 ·unfold fX; split <;> simp [h.size]
 ·unfold fX; split <;> simp [h.defers]
 ·intro j d hj hd;by_cases e:j=i
  ·subst e;rw [y7] at hd;rw [hd,if_pos rfl];exact L4 (by rw [h.size]; exact (Rk ag (by rw [y7]; exact hd)).1)
  ·rw [if_neg e];have dv:=((am j).1 hj).resolve_left e;rw [<- h.val j d dv hd];unfold fX;cases fi:o.dst with
   | none=>rfl
   | some d' =>
    have hne:d'≠d:=fun x=>e (Wt ag hd (by rw [y7,fi,x]));exact Ya08
 ·intro t ht;rw [<- h.old t fun j hj=>ht j ((am j).2 (.inr hj))];have hi:=ht i ((am i).2 (.inl rfl));rw [y7] at hi;unfold fX;cases fi:o.dst with
  | none=>rfl
  | some d' =>
   have hne:d'≠t:=fun x=>hi (by rw [fi,x]);exact Ya08
 ·intro j hj;by_cases e:j=i
  ·subst e; simpa using hv
  ·simp only [if_neg e];exact a1j _ _ e (h.holds j (((am j).1 hj).resolve_left e))
 ·intro hs;have hne:i≠s:=fun e=>by rw [(am s).2 (.inl e.symm)] at hs; simp at hs
  refine h1 hne ?_;cases hl:listed.getD s false with
  | false=>rfl
  | true=>rw [(am s).2 (.inr hl)] at hs; simp at hs
 ·intro j hj e he;rcases (am j).1 hj with x|x
  ·subst x; exact (am e).2 (.inr (ew e he))
  ·exact (am e).2 (.inr (h.closed j x e he))
theorem Sofar.full {listed:Array Bool} {f:Nat->Value} {a:Act} {w:World} (h:Sofar ops a0 R1 R2 s Φ listed f a w) (ag:Dr ops a0.tmps.size m=true) {k:Nat} (hk:∀ j,listed.getD j false=true↔j<k) :
  a=B1 ops a0 f (De k):=by
 obtain ⟨tm,df⟩:=a;have e1:df=(B1 ops a0 f (De k)).defers:=by rw [Ur]; exact h.defers
 have e2:tm=(B1 ops a0 f (De k)).tmps:=by
  apply Array.ext
  ·rw [Lb]; exact h.size
  ·intro t h1 h2;have key:tm.getD t undef=(B1 ops a0 f (De k)).tmps.getD t undef:=by
    by_cases hx:∃ j,j<k/\A6 ops j=some t
    ·obtain ⟨j,hj,fm⟩:=hx;rw [h.val j t ((hk j).2 hj) fm];exact (Vu aW fm (Rk ag fm).1 fun i _ hi=>Wt ag hi fm).symm
    ·rw [h.old t fun j hj fm=>hx ⟨j,(hk j).1 hj,fm⟩,N0 fun j hj fm=>hx ⟨j,aW,fm⟩]
   simpa [Ip,h1,h2] using key
 rw [e1,e2]
theorem Ps (ag:Dr ops a0.tmps.size m=true) {listed:Array Bool} (hc:∀ j,listed.getD j false=true->∀ e ∈ depsOf ops j,listed.getD e false=true) {i:Nat} (hi:i ∈ Region.ready .any ops listed) (hm:m<=i) :
  ∀ j,j<i->listed.getD j false=true:=by
 obtain ⟨_,o,ho,hd⟩:=B2 hi;unfold Dr at ag;rw [Ch,Cv,Cv] at ag;have h:=ag.2 i (by simp; exact (Cj.1 ho).1);simp only [F8,decide_eq_true_eq,Cv,Sn,O7] at h;intro j hj;exact Br hc hd j ((h.resolve_left aA) j hj)
theorem We (ag:Dr ops a0.tmps.size m=true) {Q:Exit->Act->World->Prop} : ∀ (fuel k:Nat) (listed:Array Bool) (a:Act) (w:World),ops.size - k<=fuel->m<=k->listed.size=ops.size ->
  (∀ j,listed.getD j false=true↔j<k)->k<=ops.size->wpOps P ops Q (List.range' k (ops.size - k)) a w->wpAny P .any ops Q fuel listed a w:=by
 intro fuel;have closed:∀ (k:Nat) (listed:Array Bool),(∀ j,listed.getD j false=true↔j<k)->k<=ops.size->∀ j,listed.getD j false=true->∀ e ∈ depsOf ops j,listed.getD e false=true:=by
  intro k listed hk l7 j hj e he;exact Yay
 have rdy:∀ (k:Nat) (listed:Array Bool),(∀ j,listed.getD j false=true↔j<k)->k<=ops.size->m<=k->listed.size=ops.size->∀ i ∈ Region.ready .any ops listed,i=k:=by
  intro k listed hk l7 hm hl i hi;exact Yav
 induction fuel with
 | zero =>
  intro k listed a w hf hm hl hk l7 h;exact Ya01
 | succ fuel ih =>
  intro k listed a w hf hm hl hk l7 h;refine ⟨fun h0=>?_,fun i hi=>?_⟩
  ·exact Ya7
  ·have nq:=rdy k listed hk l7 hm hl i hi;subst nq;obtain ⟨_,o,ho,_⟩:=B2 hi;have hlt:=(Cj.1 ho).1;have e:ops.size - i=(ops.size - (i+1))+1:=aA
   rw [e,List.range'_succ,wpOps_cons] at h;refine wpOp_mono (fun a w h=>ih (i+1) _ a w aA aA bP (fun j=>?_) aA h) h;exact Ya1e
def A5 (listed:Array Bool) (n:Nat):Nat:=(De n).countP fun j=>listed.getD j false=false
theorem Lk {listed:Array Bool} {n i:Nat} (hi:i<n) (hl:listed.size=n) (hu:listed.getD i false=false):A5 (listed.setIfInBounds i true) n+1<=A5 listed n:=by
 have key:∀ (l:List Nat),l.Nodup->(l.countP fun j=>(listed.setIfInBounds i true).getD j false=false)+(if i ∈ l then 1 else 0)=l.countP fun j=>listed.getD j false=false:=by
  intro l;induction l with
  | nil=>intro _; simp
  | cons x l ih =>
   intro hn;rw [List.nodup_cons] at hn;have ih:=ih hn.2;by_cases e:x=i
   ·subst e;have h1:(listed.setIfInBounds x true).getD x false=true:=by simp [Ip,hl,hi]
    exact Ya2g
   ·have h1:(listed.setIfInBounds i true).getD x false=listed.getD x false:=getD_set_ne false (fun y=>e y.symm);exact Ya1i
 exact Ya1l
end
end Go.Proofs.YtcandeobhlfkbaaGreat.Iv
namespace Go.Proofs.YtcandeobhlfkbaaGreat.Iv
open Go.RowKit
abbrev Ext (w w':World):Prop:=Below w.heap.size w w'
theorem Ext.refl (w:World):Ext w w:=C5 _ _
theorem Ext.trans {a b c:World} (h:Ext a b) (k:Ext b c):Ext a c:=Below.trans h (k.mono h.size)
theorem Ext.drew {a b:World} (h:Ext a.drew b):Ext a b:=⟨h.os,h.tape,h.output,h.size,h.block⟩
theorem Ext.alloc (w:World) (o:Obj):Ext w (w.alloc o):=(C5 _ _).alloc (Cc _) _
theorem Ext.frozen {w w':World} (h:Ext w w') {p:Addr} {v:Value} (hc:w.cell? p=some v) (hf:w.frozen? p=false):w'.frozen? p=false:=by
 rw [Below.frozen h (World.block_lt_of_cell? w _ hc)]; exact hf
theorem Ext.set {w w':World} (h:Ext w w') {p:Addr} (hp:w.heap.size<=p.block) (u:Value):Ext w (w'.setCell p u):=Below.setCell h hp u
theorem Ext.cell {w w':World} (h:Ext w w') {p:Addr} {v:Value} (hc:w.cell? p=some v):w'.cell? p=some v:=by
 rw [iR h (World.block_lt_of_cell? w _ hc)]; exact hc
theorem Gg {w:World} {p:Addr} {u v:Value} (h:w.cell? p=some u):(w.setCell p v).cell? p=some v:=World.cell?_setCell_same _ _ _ h
structure Know where
 p:World->Value->Prop
 mono:∀ w w' v,Ext w w'->p w v->p w' v
def Is (x:Value):Know:=⟨fun _ v=>v=x,fun _ _ _ _ h=>h⟩
def Any:Know:=⟨fun _ _=>True,fun _ _ _ _ h=>h⟩
def phi (Ks:List Know) (j:Nat) (w:World) (v:Value):Prop:=(Ks.getD j Any).p w v
theorem Anl (Ks:List Know) (j:Nat) (w w':World) (v:Value) (h:Ext w w') (hv:phi Ks j w v):phi Ks j w' v:=(Ks.getD j Any).mono w w' v h hv
structure ExtL (L:List Nat) (w w':World):Prop where
 os:w'.os=w.os
 tape:w'.tape=w.tape
 output:w'.output=w.output
 size:w.heap.size<=w'.heap.size
 block:∀ k,k<w.heap.size->k ∉ L->w'.heap[k]?=w.heap[k]?
theorem ExtL.refl (L:List Nat) (w:World):ExtL L w w:=⟨rfl,rfl,rfl,Cc _,fun _ _ _=>rfl⟩
theorem ExtL.trans {L:List Nat} {a b c:World} (h:ExtL L a b) (k:ExtL L b c):ExtL L a c :=
 ⟨k.os.trans h.os,k.tape.trans h.tape,k.output.trans h.output,Fb h.size k.size,fun i hi hn=>(k.block i (Ff hi h.size) hn).trans (h.block i hi hn)⟩
theorem ExtL.set {L:List Nat} {w w':World} (h:ExtL L w w') {p:Addr} (hp:p.block ∈ L) (u:Value):ExtL L w (w'.setCell p u) :=
 h.trans ⟨rfl,rfl,rfl,Za4m,fun k _ hn=>Below.heap_setCell _ _ _ _ fun e=>hn (e ▸ hp)⟩
theorem ExtL.cell {L:List Nat} {w w':World} (h:ExtL L w w') {p:Addr} (hp:p.block ∉ L) {v:Value} (hc:w.cell? p=some v):w'.cell? p=some v:=by
 rw [World.cell?_of_block (w:=w) (h.block p.block (World.block_lt_of_cell? w _ hc) hp)]; exact hc
def depsL:List Edge->List Nat
 | []=>[]
 | e :: l=>if Region.binds .any e then e.on :: depsL l else depsL l
def depsO (o:Oper):List Nat:=depsL o.after.toList
def putD (ds:List (Option Tmp)) (a0:Act) (f:Nat->Value):List Nat->Act
 | []=>a0
 | j :: l=>(putD ds a0 f l).put (ds.getD j none) (f j)
def wantD (ds:List (Option Tmp)) (o:Oper) (tmps:Array Value):Bool :=
 match o.guard with
 | none=>true
 | some (g,want)=>match (ds.getD g none).bind (tmps[·]?) with|some (.bool b)=>b == want|_=>false
def KnowAll (Ks:List Know) (f:Nat->Value) (w:World):List Nat->Prop
 | []=>True
 | j :: l=>phi Ks j w (f j)/\KnowAll Ks f w l
def Acy (P:Program) (ds:List (Option Tmp)) (a0:Act) (R2:World->Prop) (Ks:List Know) (s i:Nat) (o:Oper):Prop :=
 i≠s->∀ (f:Nat->Value) (w':World),R2 w'->KnowAll Ks f w' (depsO o) ->
  (wantD ds o (putD ds a0 f (depsO o)).tmps=true/\Oper.gives P o (putD ds a0 f (depsO o)) w' (fun v w''=>Ext w' w''/\phi Ks i w'' v))\/(wantD ds o (putD ds a0 f (depsO o)).tmps=false/\phi Ks i w' undef)
def Uw (Γ:Nat->Oper->Prop):Nat->List Oper->Prop
 | _,[]=>True
 | i,o :: l=>Γ i o/\Uw Γ (i+1) l
theorem allOps_cons {Γ:Nat->Oper->Prop} {i:Nat} {o:Oper} {l:List Oper} (h:Γ i o) (hl:Uw Γ (i+1) l):Uw Γ i (o :: l):=⟨h,hl⟩
theorem allOps_nil {Γ:Nat->Oper->Prop} {i:Nat} : Uw Γ i []:=trivial
theorem Yr {Γ:Nat->Oper->Prop} : ∀ {l:List Oper} {i k:Nat} {o:Oper},Uw Γ i l->l[k]?=some o->Γ (i+k) o
 | [],_,_,_,_,h=>aN
 | x :: l,i,0,o,h,e=>by simp at e; subst e; exact h.1
 | x :: l,i,k+1,o,h,e=>by
  have:=Yr (k:=k) h.2 (by simpa using e);rw [show i+(k+1)=i+1+k from by omega]; exact this
theorem Air {ops:Array Oper} {i:Nat} {o:Oper} (h:ops[i]?=some o):depsOf ops i=depsO o:=by
 unfold depsOf depsO; rw [h];show (o.after.toList.filter (Region.binds .any)).map (·.on)=depsL o.after.toList;generalize o.after.toList=l;induction l with
 | nil=>rfl
 | cons e l ih =>
  simp only [List.filter_cons,depsL];split <;> simp_all
theorem Adq {ops:Array Oper} {ds:List (Option Tmp)} (h:ops.toList.map (·.dst)=ds) (j:Nat):A6 ops j=ds.getD j none:=by
 subst h;unfold A6;cases hj:ops[j]? with
 | none=>simp [List.getD,hj]
 | some o=>simp [List.getD,hj]
theorem Akl {ops:Array Oper} {ds:List (Option Tmp)} (h:ops.toList.map (·.dst)=ds) (a0:Act) (f:Nat->Value) (l:List Nat):B1 ops a0 f l=putD ds a0 f l:=by
 induction l with
 | nil=>rfl
 | cons j l ih=>unfold B1 putD; rw [ih,Adq h]
theorem Aob {ops:Array Oper} {ds:List (Option Tmp)} (h:ops.toList.map (·.dst)=ds) (o:Oper) (tmps:Array Value):F5 o (yielded ops tmps)=wantD ds o tmps:=by
 unfold F5 wantD;cases o.guard with
 | none=>rfl
 | some g =>
  obtain ⟨g,want⟩:=g;simp only [yielded];rw [<- Adq h g];show ((match (A6 ops g).bind (tmps[·]?) with|some (.bool b)=>some b|_=>none) == some want)=_;cases (A6 ops g).bind (tmps[·]?) with
  | none=>rfl
  | some v=>cases v <;> rfl
theorem Mo {Ks:List Know} {f:Nat->Value} {w:World} : ∀ {l:List Nat},(∀ j ∈ l,phi Ks j w (f j))↔KnowAll Ks f w l
 | []=>by simp [KnowAll]
 | j :: l=>by
  unfold KnowAll;rw [<- Mo (l:=l)];simp
section
variable {P:Program} {ops:Array Oper} {a0:Act}
theorem Uh {ops:Array Oper} {ds:List (Option Tmp)} {o:Oper} (tmps:Array Value) (hg:o.guard=none):F5 o (yielded ops tmps)=true/\wantD ds o tmps=true:=by
 unfold F5 wantD; rw [hg]; exact ⟨rfl,rfl⟩
theorem Aam (ds:List (Option Tmp)) (a0:Act) (f:Nat->Value) (l:List Nat):(putD ds a0 f l).tmps.size=a0.tmps.size:=by
 exact Ya2k
theorem Ts (ds:List (Option Tmp)) (a0:Act) (f:Nat->Value) (l:List Nat):(putD ds a0 f l).defers=a0.defers:=by
 exact Ya2k
theorem opGoal_plain {ds:List (Option Tmp)} {R2:World->Prop} {Ks:List Know} {s i:Nat} {o:Oper} {d:Tmp} (hg:o.guard=none) (hd:o.dst=some d) (hs:d<a0.tmps.size)
  (h:∀ (f:Nat->Value) (w':World),R2 w'->KnowAll Ks f w' (depsO o) ->
   wpList P #[] (V3 d a0.defers.length (fun v w''=>Ext w' w''/\phi Ks i w'' v)) [o] (putD ds a0 f (depsO o)) w'):Acy P ds a0 R2 Ks s i o:=by
 intro _ f w' hr hk;have h2:=h f w' hr hk;rw [<- Ts ds a0 f (depsO o)] at h2;exact .inl ⟨(Uh (ops:=#[]) _ hg).2,Kz hd (by rw [Aam]; exact hs) (Uh (ds:=ds) _ hg).1 h2⟩
theorem Abs {o:Oper} {a:Act} {w:World} {Ψ:Value->World->Prop} (g:Option (Nat × Bool)) (h:Oper.gives P { o with guard:=g } a w Ψ):Oper.gives P o a w Ψ:=by
 obtain ⟨dst,op,ty,pos,after,guard⟩:=o;exact h
theorem opGoal_guard {ds:List (Option Tmp)} {R2:World->Prop} {Ks:List Know} {s i:Nat} {dst:Option Tmp} {op:Op} {ty:TypeId} {pos:String} {after:Array Edge} {guard:Option (Nat × Bool)} {g:Nat × Bool} {d:Tmp}
  (_hg:guard=some g) (hd:dst=some d) (hs:d<a0.tmps.size)
  (h:∀ (f:Nat->Value) (w':World),R2 w'->KnowAll Ks f w' (depsO ⟨dst,op,ty,pos,after,guard⟩) ->
   wantD ds ⟨dst,op,ty,pos,after,guard⟩ (putD ds a0 f (depsO ⟨dst,op,ty,pos,after,guard⟩)).tmps=true /\
   wpList P #[] (V3 d a0.defers.length (fun v w''=>Ext w' w''/\phi Ks i w'' v)) [⟨dst,op,ty,pos,after,none⟩] (putD ds a0 f (depsO ⟨dst,op,ty,pos,after,guard⟩)) w') :
  Acy P ds a0 R2 Ks s i ⟨dst,op,ty,pos,after,guard⟩:=by
 intro _ f w' hr hk;obtain ⟨h1,h2⟩:=h f w' hr hk;rw [<- Ts ds a0 f (depsO ⟨dst,op,ty,pos,after,guard⟩)] at h2;exact .inl ⟨h1,Abs none (Kz (o:=⟨dst,op,ty,pos,after,none⟩) hd (by rw [Aam]; exact hs) rfl h2)⟩
theorem onePost_is {d:Tmp} {n:Nat} {Ψ:Value->World->Prop} {t:Array Value} {df:List Deferred} {w:World} (v:Value) (h:t[d]?=some v) (hn:df.length=n) (hv:Ψ v w):V3 d n Ψ .normal ⟨t,df⟩ w:=by
 refine ⟨rfl,hn,?_⟩;rw [Et,h]; exact hv
theorem put_some (t:Array Value) (df:List Deferred) (d:Tmp) (v:Value):(Act.mk t df).put (some d) v=⟨t.setIfInBounds d v,df⟩:=rfl
theorem put_none (a:Act) (v:Value):a.put none v=a:=rfl
end
end Go.Proofs.YtcandeobhlfkbaaGreat.Iv
