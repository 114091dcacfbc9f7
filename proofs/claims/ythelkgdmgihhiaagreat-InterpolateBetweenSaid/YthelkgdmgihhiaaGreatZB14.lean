/- Part 14. -/
import Derived.Test.YthelkgdmgihhiaaGreatZB13
import Derived.Lib.LazyBuf
open Array renaming getElem?_eq_some_iff->Cj,getElem?_eq_getElem->Fm,toList_setIfInBounds->Sj,getElem?_modify->gC
open Go.Builtin renaming zeroCells->Ot
open Go.IntKind renaming i64->Ce
open Go.Lib renaming hid->Cr
open Go.RowKit.Below renaming refl->Fq
open Go.Value renaming int->iH
open Go.World renaming setCell->gU,frozen?->kI
open Int renaming mul_comm->F3,mul_assoc->Ia,mul_add->Ir,pow_succ->Lz
open List renaming replicate->Cg,length_cons->Cm,map_cons->Cn,cons_append->Cp,nil_append->Cz,mem_cons->C6,length_nil->C7,drop_length->C9,take_of_length_le->Dc,mem_map->Fg,append_assoc->Fh,drop_zero->Fi,getElem?_eq_some_iff->Fk,append_nil->Fp,eq_nil_of_length_eq_zero->Fy,getElem?_map->F1,take_succ_cons->F9,getElem?_take_of_lt->Ii,mem_of_getElem?->Iq,getElem?_eq_getElem->It,mem_replicate->Iu,getElem?_take->I2,getElem?_cons_zero->M2,length_pos_iff->Oe,set_append_right->fX,getElem?_toArray->fY,singleton_append->fZ,length_singleton->gD,drop_append->gI,length_set->iA,mem_of_mem_drop->jJ,take_zero->kE
open Nat renaming le_refl->Cf,mul_one->Fa,le_trans->Fe,zero_add->Fo,lt_of_lt_of_le->Ft,div_lt_iff_lt_mul->Ik,mul_comm->Ip,lt_succ_self->I4,pow_succ->Lq,sub_self->Mg,mul_le_mul_left->Og,mod_eq_of_lt->Om,mod_lt->Ov,div_add_mod->Ow,le_div_iff_mul_le->So,succ_pos->S9,div_eq_of_lt->iX,le_of_lt->jU
open Option.some renaming injEq->A3
namespace Go.Proofs.YthelkgdmgihhiaaGreat
section
open Go Tryz Go.RowKit
def layA:Array Value->Nat->List Value->Array Value
 | arr,_,[]=>arr
 | arr,o,v :: vs=>layA (arr.setIfInBounds o v) (o+1) vs
theorem Jq:∀ (vs:List Value) (arr:Array Value) (o:Nat),(layA arr o vs).size=arr.size
 | [],_,_=>rfl
 | v :: vs,arr,o=>by rw [layA,Jq vs]; simp
theorem Me:∀ (vs:List Value) (arr:Array Value) (o:Nat),o+vs.length<=arr.size->(layA arr o vs).toList=arr.toList.take o++vs++arr.toList.drop (o+vs.length)
 | [],arr,o,_=>by simp [layA]
 | v :: vs,arr,o,h=>by
  simp only [Cm] at h;rw [layA,Me vs _ _ aC,Sj];have h1:(arr.toList.set o v).take (o+1)=arr.toList.take o++[v]:=by
   rw [List.take_set,List.take_add_one,fX _ _ aC];have:o - (arr.toList.take o).length=0:=aC
   rw [this];have h2:o<arr.toList.length:=aC
   rw [It h2]; rfl
  have h2:(arr.toList.set o v).drop (o+1+vs.length)=arr.toList.drop (o+1+vs.length):=by
   rw [List.drop_set]; rw [if_pos aA]
  rw [h1,h2,Cm,show o+(vs.length+1)=o+1+vs.length by omega];simp
theorem Gc {b:Nat} {t:TypeId} {fz:Nat × Nat} : ∀ (vs:List Value) (o:Nat) (w:World) (arr:Array Value),w.heap[b]?=some (.cells arr t fz)->(w.setCells b o vs).heap[b]?=some (.cells (layA arr o vs) t fz)
 | [],_,_,_,h=>h
 | v :: vs,o,w,arr,h=>by
  refine Gc vs (o+1) (w.setCell ⟨b,o,none⟩ v) (arr.setIfInBounds o v) ?_;unfold gU;simp only;rw [gC,if_pos rfl,h];rfl
theorem Hh {B b:Nat} {a:World} (hb:B<=b):∀ (vs:List Value) (o:Nat) (w:World),Below B a w->Below B a (w.setCells b o vs)
 | [],_,_,h=>h
 | v :: vs,o,w,h=>Hh hb vs (o+1) _ (h.trans ⟨rfl,rfl,rfl,by simp [gU],fun j hj=>by
   unfold gU;simp only;rw [gC,if_neg aA]⟩)
theorem Ajs {w:World} {base g cap:Nat} {cur:Array Value} {zs:List Int} (hg:base<=g) (h:w.heap[g]?=some (.cells cur 3 (0,0))) (hn:zs.length<=cap) (hm:cap<=maxLen) (hs:cur.size=cap) (ht:cur.toList.take zs.length=zs.map num):OR w base (.slice (some ⟨g,0,none⟩) zs.length cap) zs :=
 ⟨by simp,.inr ⟨g,cap,cur,rfl,hg,h,hn,hm,aA,by rw [Fa]; exact ht⟩⟩
theorem Aih (base:Nat) (w:World) (v:Value) (zs:List Int) (x:Int) (vb:Nat) (hO:OR w base v zs) (hbase:base<=w.heap.size) (hvb:w.heap[vb]?=some (.cells #[num x] 3 (0,0))) (hne:∀ g n c,v=.slice (some ⟨g,0,none⟩) n c->g≠vb) (hlen:zs.length<=1000000) :
  Calls prog 235 #[v,.int .i64 0,.slice (some ⟨vb,0,none⟩) 1 1] w fun e w'=>∃ v',e=.returned v'/\OR w' base v' (x :: zs)/\Below base w w':=by
 have wu:∀ (j:Nat) u,[num x][j]?=some u->w.cell? ⟨vb,0+j,none⟩=some u:=by
  intro j u hj;cases j with
  | zero =>
   simp only [M2,A3] at hj;subst hj;rw [Lib.cell_of_heap hvb]; rfl
  | succ j=>simp at hj
 have h1v:∀ u ∈ [num x],u.oneCell'=true:=fun u hu=>by
  have:u=num x:=eD
  subst this; rfl
 have h1c:∀ u ∈ zs.map num,u.oneCell'=true:=fun u hu=>by
  obtain ⟨y,-,rfl⟩:=Fg.1 hu;rfl
 have hmax:(1000001:Nat)<=maxLen:=eW
 have p9:Tryz.laysIns_ren.t 3=3:=rfl;have a0x:(iH .i64 0).cells.size=1:=rfl;rcases hO.2 with ⟨rfl,h0⟩|⟨g,cap,cur,rfl,k1,k2,k3,k4,k5,k6⟩
 ·have hz:zs=[]:=Fy h0;subst hz;refine (Any2.slices_Insert_int_end_grow Tryz.laysIns none 0 0 vb 0 1 1 [] [num x] w aA aA aA aA rfl rfl (fun _=>rfl) (fun _ h=>aT) wu h1v).mono ?_;rintro e w' ⟨rfl,rfl⟩;exact Ya04
 ·have hM:cap<=9223372036854775807:=by unfold maxLen at k4; omega
  have hgv:g≠vb:=hne g _ cap rfl;have hcl:(zs.map num).length=zs.length:=by simp
  have hc5:cur.size=cap:=aA
  have gt:∀ (j:Nat) u,(zs.map num)[j]?=some u->w.cell? ⟨g,0+j,none⟩=some u:=by
   intro j u hj;rw [Fa] at k6;have jn:j<zs.length:=by
    have:=(Fk.1 hj).1;exact Ya1f
   rw [<- k6,I2,if_pos jn] at hj;rw [Lib.cell_of_heap k2,Fo];simpa using hj
  have k9:∀ j,j<cap->(w.cell? ⟨g,0+j,none⟩).isSome=true:=fun j hj=>by
   rw [Lib.cell_of_heap k2,Fo];rw [Fm (show j<cur.size by omega)]; rfl
  have jd:∀ j,w.frozen? ⟨g,0+j,none⟩=false:=fun j=>by
   simp [kI,k2]
  by_cases hz:zs=[]
  ·subst hz;by_cases hc:cap=0
   ·subst hc;refine (Any2.slices_Insert_int_end_grow Tryz.laysIns (some ⟨g,0,none⟩) 0 0 vb 0 1 1 [] [num x] w aA aA aA aA rfl rfl (fun _=>rfl) (fun _ _ j u h=>aO) wu h1v).mono ?_;rintro e w' ⟨rfl,rfl⟩;exact Ya04
   ·refine (Any2.slices_Insert_int_end_room Tryz.laysIns g 0 0 cap vb 0 1 1 [num x] w aA aA hM rfl (fun j hj=>by simpa using k9 j aA) (fun j hj=>by simpa using jd j) wu h1v).mono ?_;rintro e w' ⟨rfl,rfl⟩;refine ⟨_,rfl,Ajs (zs:=[x]) (cur:=layA cur 0 [num x]) k1 (Gc _ _ _ _ k2) aC k4 (by rw [Jq]; exact hc5) ?_,Hh k1 _ _ _ (Fq _ _)⟩;rw [Me _ _ _ aC];simp
  ·have hpos:0<zs.length:=Oe.2 hz;by_cases bv:zs.length+1<=cap
   ·refine (Any2.slices_Insert_int_shift Tryz.laysIns g 0 zs.length cap 0 vb 0 1 1 (zs.map num) [num x] w hpos aA bv hM (fun h=>hgv h.symm) hcl rfl gt (fun j hj=>k9 j aA) (fun j _=>jd j) wu h1c h1v 3 3 1 cap ?_ ?_ aA ?_ ?_).mono ?_
    ·simp [World.shape?,hvb]
    ·simp [World.shape?,k2,hc5]
    ·simp [kI,hvb]
    ·simp [kI,hvb]
    rintro e w' ⟨rfl,rfl⟩;have ck:w.drew.heap[g]?=some (.cells cur 3 (0,0)):=k2;have hA:=Gc ((zs.map num).drop 0) (0+(0+1)) w.drew cur ck;have hB:=Gc [num x] (0+0) _ _ hA;have wz:(zs.map num).length=zs.length:=by simp
    refine ⟨_,rfl,Ajs (zs:=x :: zs) k1 hB (by simpa using bv) k4 (by rw [Jq,Jq]; exact hc5) ?_,Hh k1 _ _ _ (Hh k1 _ _ _ ((Fq _ _).drew))⟩;rw [Me _ _ _ (by rw [Jq]; simp; omega),Me _ _ _ aC];have hl1:(cur.toList.take (0+(0+1))).length=1:=aC
    simp only [kE,Cz,Fi,Fo,gD,Cn,Cm,fZ,F9] at hl1 ⊢;rw [Fh,gI,List.drop_of_length_le aA,Cz,hl1];simp only [C7,Fo,Mg,Fi];exact Ya27
   ·refine (Any2.slices_Insert_int_grow Tryz.laysIns g 0 zs.length cap 0 vb 0 1 1 (zs.map num) [num x] w hpos aA k3 aA aA hcl rfl gt wu h1c h1v).mono ?_;rintro e w' ⟨rfl,rfl⟩;rw [p9];have iy:=grownCap_ge w (zs.length+1) cap 3;obtain ⟨arr,fo⟩:∃ arr:Array Value,((zs.map num).take 0).toArray++Ot (iH .i64 0).cells (zs.length+1 - 0)++Ot (iH .i64 0).cells (grownCap w (zs.length+1) cap 3 - (zs.length+1))=arr:=⟨_,rfl⟩;rw [fo];have hsz:arr.size=grownCap w (zs.length+1) cap 3:=by
     rw [<- fo]; simp [size_zeroCells,a0x]; omega
    have h0:(w.alloc (.cells arr 3)).drew.heap[w.heap.size]?=some (.cells arr 3 (0,0)):=Ap w _;have hA:=Gc [num x] 0 _ _ h0;have hB:=Gc ((zs.map num).drop 0) (0+1) (((w.alloc (.cells arr 3)).drew.setCells w.heap.size 0 [num x]).drew) _ hA;have wz:(zs.map num).length=zs.length:=by simp
    refine ⟨_,rfl,Ajs (zs:=x :: zs) hbase hB (by simpa using iy) (grownCap_le_maxLen w _ _ _ aA) (by rw [Jq,Jq]; exact hsz) ?_,Hh hbase _ _ _ (Below.drew (Hh hbase _ _ _ (((Fq _ _).alloc hbase _).drew)))⟩;rw [Me _ _ _ (by rw [Jq,hsz]; simp; omega),Me _ _ _ (by rw [hsz]; simp; omega)];simp only [kE,Cz,Fi,Fo,gD,Cn,Cm,fZ,F9,Cp];exact Ya27
theorem Aci {w:World} {v1 v2:Value} {a b:Nat} (ht:Tab0 w) (h1:RD w v1 (dig a)) (h2:RD w v2 (dig b)) (ha:(dig a).length<=1000000) (hb:(dig b).length<=1000000) :
  Calls prog 233 #[v1,v2] w fun e w'=>e=.returned (.int .i64 (cmpN a b))/\Below w.heap.size w w':=by
 refine (call0 (fun S tk k=>Ps S tk k a b ha hb) ht Za3e).mono ?_;rintro e w' ⟨v,rfl,hb,hv⟩;simp only [VR] at hv;rw [hv];exact ⟨rfl,hb⟩
theorem Ag1 {w:World} {v1 v2:Value} {a b:Nat} (ht:Tab0 w) (h1:RD w v1 (dig a)) (h2:RD w v2 (dig b)) (ha:(dig a).length<=100000) (hb:(dig b).length<=100000) :
  Calls prog 236 #[v1,v2] w fun e w'=>∃ v,e=.returned v/\Below w.heap.size w w'/\RD w' v (dig (a*b)) :=
 call0 (fun S tk k=>Vl S tk k a b ha hb) ht Za3e
theorem Aho {w:World} {base:Nat} {v:Value} {zs:List Int} (hO:OR w base v zs) (hb:0<base) (hl:zs.length<=1000000) :
  Calls prog 234 #[v] w fun e w'=>∃ v',e=.returned v'/\w'=w/\OR w base v' (Df zs):=by
 obtain ⟨av,cv,rfl,hcv,hcells⟩:=L1 (hO.rd hb);refine (Zy w av cv zs hl hcv fun j x hx=>?_).mono ?_
 ·exact Ya3o
 ·rintro e w' ⟨rfl,rfl⟩;exact ⟨_,rfl,rfl,hO.trim⟩
theorem OR.weaken {w:World} {base base':Nat} {v:Value} {zs:List Int} (h:OR w base v zs) (hb:base'<=base):OR w base' v zs:=by
 refine ⟨h.1,?_⟩;rcases h.2 with h0|⟨g,cap,cur,rfl,h1,h2,h3⟩
 ·exact .inl h0
 ·exact .inr ⟨g,cap,cur,rfl,aA,h2,h3⟩
theorem Av9 (w:World) (base:Nat):OR w base (.slice none 0 0) []:=⟨rfl,.inl ⟨rfl,rfl⟩⟩
theorem Asd {w:World} {d:Int} (h0:0<w.heap.size):RD (w.alloc (.cells #[num d] 3)) (.slice (some ⟨w.heap.size,0,none⟩) 1 1) [d]:=by
 refine Atf (zs:=[d]) trivial (Cf _) fun j x hx=>?_;cases j with
 | zero =>
  simp only [nth,A3] at hx;subst hx;rw [Lib.cell_of_heap (Ap w _)]; rfl
 | succ j=>simp [nth] at hx
theorem makeN {w:World} {N:Nat} (hN:N<=1000000) {ops:Array Oper} {rest:List Oper} {op:Oper} {a:Act} {Q:Exit->Act->World->Prop} {l c:Operand} (hgd:op.guard=none) (hop:op.op=.makeSlice 58 l c) (hl:a.eval l=.int .i64 (N:Nat)) (hc:a.eval c=.int .i64 (N:Nat))
  (h:∀ w',w'.heap[w.heap.size]?=some (.cells ((Cg N (0:Int)).map num).toArray 3 (0,0))->Below w.heap.size w w'->wpList prog ops Q rest (a.put op.dst (.slice (some ⟨w.heap.size,0,none⟩) N N)) w'):wpList prog ops Q (op :: rest) a w:=by
 obtain ⟨i0,hi,hz0,hz1,hz2⟩:=info_parts Amk;refine wpList_make_row (P:=prog) w hgd l c 58 hop 3 i0 (.int .i64 0) underlying58 hi hz0 hz1 rfl .i64 .i64 N hl hc (by rw [hz2]; omega) aA ?_;have e:madeCells #[num 0] N=((Cg N (0:Int)).map num).toArray:=by
  apply Array.ext
  ·simp [madeCells]
  ·intro i h1 h2;simp [madeCells,Nat.mod_one]
 rw [e];exact h _ (Ap w _) ((Fq _ _).alloc (Cf _) _)
def topV (A:List Int) (k:Nat):Nat:=(val (A.drop k)).toNat
structure QI (A:List Int) (b k R:Nat) (qs:List Int):Prop where
 len:qs.length=A.length
 ok:okD qs
 zero:∀ j x,j<k->nth qs j=some x->x=0
 rest:R=topV A k % b
 eqv:val qs=10000 ^ k*(topV A k / b:Nat)
theorem QI.start (A:List Int) (b:Nat):QI A b A.length 0 (Cg A.length 0):=by
 have h0:topV A A.length=0:=Za3i
 have hz:∀ (n j:Nat) (x:Int),nth (Cg n (0:Int)) j=some x->x=0:=fun n j x h=>by
  exact Ya3k
 refine ⟨by simp,U8 fun j x hx=>by rw [hz _ _ _ hx]; omega,fun j x _ hx=>hz _ _ _ hx,by rw [h0]; simp,?_⟩;rw [H4,h0]; simp
theorem Ac3 {A:List Int} (hA:okD A) {k:Nat} {x:Int} (hx:nth A k=some x):topV A k=x.toNat+10000*topV A (k+1):=by
 unfold topV;rw [Au hx,val];have h1:=B5 hA hx;have h2:=Eo (l:=A.drop (k+1)) fun d hd=>hA d (jJ hd);omega
theorem QI.step {A:List Int} {b k R:Nat} {qs:List Int} {x:Int} (hA:okD A) (hb:0<b) (h:QI A b (k+1) R qs) (hx:nth A k=some x) :
  (x.toNat+10000*R) / b<10000/\topV A k / b=10000*(topV A (k+1) / b)+(x.toNat+10000*R) / b/\topV A k % b=(x.toNat+10000*R) % b:=by
 have hr:=h.rest;have hxk:=B5 hA hx;have hRb:R<b:=by rw [hr]; exact Ov _ hb
 have hdm:=Ow (topV A (k+1)) b;rw [<- hr] at hdm;have hs:=Ac3 hA hx;have e:topV A k=(x.toNat+10000*R)+b*(10000*(topV A (k+1) / b)):=by
  rw [hs,Nat.mul_left_comm]; omega
 refine ⟨?_,?_,?_⟩
 ·rw [Ik hb];have:10000*(R+1)<=10000*b:=Og _ hRb;omega
 ·rw [e,Nat.add_mul_div_left _ _ hb]; omega
 ·rw [e,Nat.add_mul_mod_self_left]
theorem QI.small {A:List Int} {b k R:Nat} {qs:List Int} {x:Int} (hA:okD A) (hb:0<b) (h:QI A b (k+1) R qs) (hx:nth A k=some x) (hlt:x.toNat+10000*R<b):QI A b k (x.toNat+10000*R) qs:=by
 obtain ⟨-,h2,h3⟩:=h.step hA hb hx;rw [iX hlt] at h2;rw [Om hlt] at h3;refine ⟨h.len,h.ok,fun j y hj hy=>h.zero j y aA hy,h3.symm,?_⟩;have e1:((10000*(topV A (k+1) / b)+0:Nat):Int)=10000*((topV A (k+1) / b:Nat):Int):=aA
 rw [h.eqv,h2,Lz,e1,Ia]
theorem QI.big {A:List Int} {b k R:Nat} {qs:List Int} {x:Int} (hA:okD A) (hb:0<b) (h:QI A b (k+1) R qs) (hx:nth A k=some x) {d:Nat} (hd:d=(x.toNat+10000*R) / b):QI A b k (x.toNat+10000*R - b*d) (qs.set k (d:Int)):=by
 obtain ⟨h1,h2,h3⟩:=h.step hA hb hx;have hk:k<qs.length:=by rw [h.len]; exact A8 hx
 obtain ⟨y,hy⟩:=Ab hk;have hy0:=h.zero k y aA hy;subst hy0;refine ⟨bM,Nk h.ok aA aA,fun j y hj hyj=>?_,?_,?_⟩
 ·rcases Bz hyj with ⟨rfl,-⟩|⟨-,hyj⟩
  ·omega
  ·exact h.zero j y aA hyj
 ·rw [h3,hd];have:=Ow (x.toNat+10000*R) b;omega
 ·rw [Hi hy,h.eqv,h2,Lz,<- hd];have e1:((10000*(topV A (k+1) / b)+d:Nat):Int)=10000*(topV A (k+1) / b:Nat)+(d:Int):=aA
  rw [e1,Ir,<- Ia,Int.sub_zero,F3 (d:Int)]
theorem QI.done {a b R:Nat} {qs:List Int} (h:QI (dig a) b 0 R qs):Df qs=dig (a / b)/\R=a % b:=by
 have ht:topV (dig a) 0=a:=Za3f
 have h1:=h.rest;have h2:=h.eqv;rw [ht] at h1 h2;refine ⟨?_,h1⟩;rw [Dw h.ok,h2,Int.pow_zero,Int.one_mul,Int.toNat_natCast]
theorem Ajd {R:Nat} {x:Int} (hx:0<=x/\x<10000):Df (x :: dig R)=dig (x.toNat+10000*R):=by
 rw [Dw (fun d hd=>by
  rcases C6.1 hd with rfl|hd
  ·exact hx
  ·exact Bd R d hd)]
 congr 1;simp only [val,B3]; omega
end
section
open Go Tryz Go.RowKit
set_option maxHeartbeats 8000000
set_option maxRecDepth 100000
theorem Avi {w:World} {g i:Nat} {qs:List Int} {d x:Int} (h:w.heap[g]?=some (.cells (qs.map num).toArray 3 (0,0))) (hi:nth qs i=some x) :
  (w.setCell ⟨g,i,none⟩ (num d)).heap[g]?=some (.cells ((qs.set i d).map num).toArray 3 (0,0)):=by
 unfold gU;simp only;rw [gC,if_pos rfl,h];simp [List.map_set]
theorem An3 {w:World} {g i:Nat} {v:Value} : Below g w (w.setCell ⟨g,i,none⟩ v) :=
 Hh (Cf _) [v] i w (Fq _ _)
theorem OR.set {w:World} {g i:Nat} {u v:Value} {zs:List Int} (h:OR w (g+1) v zs):OR (w.setCell ⟨g,i,none⟩ u) (g+1) v zs:=by
 refine ⟨h.1,?_⟩;rcases h.2 with h0|⟨g',cap,cur,rfl,h1,h2,h3⟩
 ·exact .inl h0
 ·refine .inr ⟨g',cap,cur,rfl,h1,?_,h3⟩;unfold gU;simp only;rw [gC,if_neg aA];exact h2
theorem Vs {w:World} {g:Nat} {qs:List Int} (h:w.heap[g]?=some (.cells (qs.map num).toArray 3 (0,0))) {j:Nat} {x:Int} (hx:nth qs j=some x):w.cell? ⟨g,0+j,none⟩=some (num x):=by
 rw [Ae] at hx;rw [Lib.cell_of_heap h,Fo,fY,F1,hx]; rfl
theorem Ayd {w:World} {g cap:Nat} {qs:List Int} (h:w.heap[g]?=some (.cells (qs.map num).toArray 3 (0,0))) (_hg:True) (hc:qs.length<=cap):RD w (.slice (some ⟨g,0,none⟩) (Df qs).length cap) (Df qs):=by
 refine Atf trivial (Fe (Ha qs) hc) fun j x hx=>Vs h ?_;have hlt:=A8 hx;rw [Dh,Ae,Ii hlt,<- Ae] at hx;exact hx
theorem Aa1 {T b:Nat} (h:T<10000*b):(dig T).length<=(dig b).length+1:=A9.2 (by
 have h1:=A9.1 (Cf (dig b).length);rw [Lq,Ip (10000 ^ (dig b).length)];exact Ft h (Og _ (jU h1)))
theorem Aw4 (x y:Nat):cmpN x y<=0↔x<=y:=by
 unfold cmpN;split
 ·constructor <;> omega
 ·split <;> constructor <;> omega
def NewB (base:Nat) (v:Value):Prop:=∀ b o n c,v=.slice (some ⟨b,o,none⟩) n c->base<=b
theorem OR.newB {w:World} {base base':Nat} {v:Value} {zs:List Int} (h:OR w base v zs) (hb:base'<=base):NewB base' v:=fun b _ _ _ e=>Fe hb (h.lt b (by rw [e]; rfl)).1
theorem Aiu {base g n c:Nat} (h:base<=g):NewB base (.slice (some ⟨g,0,none⟩) n c):=by
 intro b o n' c' e;cases e;exact h
theorem Aco (w:World) (va vb:Value) (a b:Nat) (ht:Tab0 w) (ha:RD w va (dig a)) (hb:RD w vb (dig b)) (hb0:0<b) (hla:(dig a).length<=90000) (hlb:(dig b).length<=90000) :
  Calls prog 228 #[va,vb] w fun e w'=>∃ v1 v2,e=.returned (.tuple #[v1,v2])/\RD w' v1 (dig (a / b))/\RD w' v2 (dig (a % b))/\Below w.heap.size w w'/\NewB w.heap.size v1/\(v2=va/\a % b=a\/NewB w.heap.size v2):=by
 have hO:=Aci ht ha hb aA aA;have hRA:=ha;obtain ⟨ax,cx,rfl,hcx,hX⟩:=L1 ha;have HX:=Cr hX;have HKX:=Cr (Bd a);have HRA:=Cr hRA;have HRB:=Cr hb;have HT:=Cr ht;have HD:=Cr (fun (R:Nat) (qs:List Int) (h:QI (dig a) b 0 R qs)=>h.done);have HS:=Cr (QI.start (dig a) b);clear hX ha hb hRA ht;generalize hXX:dig a=X at *;generalize hN:X.length=N at *;have HO:=Cr hO;have HN:=Cr (show N<=1000000 by omega);clear hO;by_cases hab:a<b
 ·have hc:cmpN a b<0:=by simp [cmpN,hab]
  go_enter func228,ntmps228;go_wp2_with (go_at_call 233; refine HO.out.mono ?_; rintro e w1 ⟨rfl,hb1⟩);go_ret2;have e1:a / b=0:=iX hab;have e2:a % b=a:=Om hab;rw [e1,e2,Bp];exact ⟨_,_,rfl,Asc _ _ _,by rw [hXX]; exact HRA.out.below hb1,hb1,fun b o n c h=>aT,.inl ⟨rfl,rfl⟩⟩
 have hc:¬ cmpN a b<0:=by
  unfold cmpN;rw [if_neg hab]; split <;> omega
 go_enter func228,ntmps228;go_wp2_with (first
  | (go_at_call 233; refine HO.out.mono ?_; rintro e w1 ⟨rfl,hb1⟩; have HB1:=Cr hb1; clear hb1)
  | (at_make; refine makeN HN.out rfl rfl rfl rfl ?_; intro w2 hq2 hb2; have HQ2:=Cr hq2; have HB2:=Cr (HB1.out.trans (hb2.mono HB1.out.size)); clear hq2 hb2))
 have hgq:w.heap.size<=w1.heap.size:=HB1.out.size;generalize hGQ:w1.heap.size=gq at *;have HGP:=Cr (show 0<w.heap.size from HT.out.pos);have HW2:=Cr (Cj.1 HQ2.out).1;go_loopw [7,8] (fun v i wr=>∃ (k R:Nat) (qs:List Int),i=.int .i64 ((k:Int) - 1)/\k<=N/\Hid (QI X b k R qs)/\Hid (OR wr (gq+1) v (dig R))/\Hid (wr.heap[gq]?=some (.cells (qs.map num).toArray 3 (0,0)))/\Hid (Below w.heap.size w wr)) (fun _ i _=>(Rh i+1).toNat);case atStart=>exact ⟨N,0,_,congrArg (iH .i64) aA,Cf _,HS,Cr (by rw [Bp]; exact Av9 _ _),HQ2,HB2⟩
 case round =>
  obtain ⟨k,R,qs,rfl,hk,HI,HR,HQ,HB⟩:=hrel
  cases k with
  | zero =>
   have hql:qs.length=N:=HI.out.len.trans hN
   have hT:=Zy wr (some ⟨gq,0,none⟩) N qs aA aA fun j x hx=>⟨gq,0,rfl,Vs HQ.out hx⟩
   have HV:=Cr (Ayd (cap:=N) HQ.out trivial aA)
   have HE:=Cr (HD.out R qs HI.out)
   rw [hql] at hT
   have HTr:=Cr hT
   clear hT
   go_wp2_with (go_at_call 234; refine HTr.out.mono ?_; rintro e w6 ⟨rfl,rfl⟩)
   go_ret2
   obtain ⟨e1,e2⟩:=HE.out
   have hv:=HV.out
   rw [e1] at hv ⊢
   exact ⟨_,_,rfl,hv,by rw [<- e2]; exact HR.out.rd aA,HB.out,Aiu aA,.inr (HR.out.newB aA)⟩
  | succ k =>
   obtain ⟨x,hx⟩:=Ab (show k<X.length by omega)
   obtain ⟨bx,ox,rfl,hcx0,-⟩:=HX.out k x hx
   have hxk:=HKX.out x eO
   have hcell:=(HB.out.cell (Gv hcx0)).trans hcx0
   have hi:(((k+1:Nat):Int) - 1)=(k:Int):=aA
   rw [hi]
   have hi1:Ce.wrap ((k:Int) - 1)=(k:Int) - 1:=Aa aD
   have hg1:(k:Int) >= 0:=aA
   have hg2:(k:Int)<(N:Int):=aA
   have hQl:=(Cj.1 HQ.out).1
   have hRl:(dig R).length<=90000:=by
    have h1:R<b:=Za3g
    exact Fe (A9.2 (Nat.lt_trans h1 (A9.1 (Cf _)))) hlb
   have hB3:Below wr.heap.size wr (wr.alloc (.cells #[num x] 3)):=(Fq _ _).alloc (Cf _) _
   have hIns:=Aih (gq+1) (wr.alloc (.cells #[num x] 3)) _ (dig R) x wr.heap.size (HR.out.below hB3) (by have:=hB3.size; omega) (Ap wr _) (fun g n c hv=>by
    have:=HR.out.lt g (by rw [hv]; rfl);omega) aA
   have HIns:=Cr hIns
   have HXX:=Cr hx
   have hTa:=Ajd (R:=R) hxk
   have hTb:x.toNat+10000*R<10000*b:=by
    have h1:R<b:=Za3g
    omega
   have HSm:=Cr (HI.out.small (b:=b) HKX.out hb0 hx)
   have HBg:=Cr (fun d=>HI.out.big (b:=b) (d:=d) HKX.out hb0 hx)
   generalize hTT:x.toNat+10000*R=T at *
   have hTl:(dig T).length<=90001:=Fe (Aa1 hTb) aA
   have HTa:=Cr hTa
   clear hTa
   have HB3:=Cr hB3
   clear hIns hx hcx0 hB3
   have hgq2:w.heap.size<=gq+1:=aA
   by_cases hlt:T<b
   ·have hc2:cmpN T b<0:=by simp [cmpN,hlt]
    have HSs:=Cr (HSm.out hlt)
    go_wp2_with (go_at_call 235; refine HIns.out.mono ?_; rintro e w4 ⟨v4,rfl,hO4,hB4⟩; have HO4:=Cr hO4; have HB4:=Cr hB4; clear hO4 hB4)
    have HQ5:=Cr ((HB4.out.block gq (I4 _)).trans ((HB3.out.block gq hQl).trans HQ.out))
    have HB5:=Cr ((HB.out.trans (HB3.out.mono HB.out.size)).trans (HB4.out.mono hgq2))
    go_wp2_with (go_at_call 234; refine (Aho HO4.out (S9 _) aC).mono ?_; rintro e w5 ⟨v5,rfl,rfl,hO5⟩; rw [HTa.out] at hO5; have HO5:=Cr hO5; clear hO5)
    have HT5:=Cr (HT.out.below HGP.out HB5.out)
    go_wp2_with (go_at_call 233; refine (Aci HT5.out (HO5.out.rd (S9 _)) (HRB.out.below HB5.out) aA aA).mono ?_; rintro e w6 ⟨rfl,hb6⟩; have HB6:=Cr hb6; clear hb6)
    exact ⟨⟨k,T,qs,rfl,aA,HSs,Cr (HO5.out.below HB6.out),Cr ((HB6.out.block gq (Cj.1 HQ5.out).1).trans HQ5.out),Cr (HB5.out.trans (HB6.out.mono HB5.out.size))⟩,by simp [Rh]⟩
   ·have hc2:¬ cmpN T b<0:=by
     unfold cmpN;rw [if_neg hlt]; split <;> omega
    obtain ⟨d,hd⟩:∃ d,d=T / b:=⟨_,rfl⟩
    have hd1:1<=d:=by rw [hd]; exact (So hb0).2 aA
    have hd2:d<=9999:=by
     have:d<10000:=by rw [hd]; exact (Ik hb0).2 hTb
     omega
    have HDv:=Cr (fun m:Nat=>(show b*m<=T↔m<=d by rw [hd,So hb0,Ip]))
    have HBd:=Cr (HBg.out d hd)
    have hTd:b*d<=T:=by rw [hd]; exact Nat.mul_div_le T b
    have HTd:=Cr hTd
    clear hd hTd
    go_wp2_with (go_at_call 235; refine HIns.out.mono ?_; rintro e w4 ⟨v4,rfl,hO4,hB4⟩; have HO4:=Cr hO4; have HB4:=Cr hB4; clear hO4 hB4)
    have HQ5:=Cr ((HB4.out.block gq (I4 _)).trans ((HB3.out.block gq hQl).trans HQ.out))
    have HB5:=Cr ((HB.out.trans (HB3.out.mono HB.out.size)).trans (HB4.out.mono hgq2))
    go_wp2_with (go_at_call 234; refine (Aho HO4.out (S9 _) aC).mono ?_; rintro e w5 ⟨v5,rfl,rfl,hO5⟩; rw [HTa.out] at hO5; have HO5:=Cr hO5; clear hO5)
    have HT5:=Cr (HT.out.below HGP.out HB5.out)
    go_wp2_with (go_at_call 233; refine (Aci HT5.out (HO5.out.rd (S9 _)) (HRB.out.below HB5.out) aA aA).mono ?_; rintro e w6 ⟨rfl,hb6⟩; have HB6:=Cr hb6; clear hb6)
    have HB7:=Cr (HB5.out.trans (HB6.out.mono HB5.out.size))
    have HQ7:=Cr ((HB6.out.block gq (Cj.1 HQ5.out).1).trans HQ5.out)
    have HO7:=Cr (HO5.out.below HB6.out)
    clear HIns HSm HBg HO4 HB4 HB6 HO5 HT5 HQ5 HB5 HB3 hc2
    go_loopw [9,10] (fun lo hi wq=>∃ l h:Nat,lo=.int .i64 l/\hi=.int .i64 h/\1<=l/\l<=d/\d<=h/\h<=9999/\Hid (Below w6.heap.size w6 wq)) (fun lo hi _=>(Rh hi - Rh lo).toNat)
    case atStart=>exact ⟨1,9999,rfl,rfl,Cf _,hd1,hd2,Cf _,Cr (Fq _ _)⟩
    case round =>
     obtain ⟨l,h,rfl,rfl,hl1,hl2,hh1,hh2,HBq⟩:=hrel
     by_cases hlh:l<h
     ·have hg3:(l:Int)<(h:Int):=aA
      obtain ⟨m,hm⟩:∃ m:Nat,m=(l+h+1) / 2:=⟨_,rfl⟩
      have hw1:Ce.wrap ((l:Int)+(h:Int))=(l:Int)+(h:Int):=Aa aD
      have hw2:Ce.wrap ((l:Int)+(h:Int)+1)=(l:Int)+(h:Int)+1:=Aa aD
      have hdv:((l:Int)+(h:Int)+1) / 2=(m:Int):=aA
      have hwm:Ce.wrap (m:Int)=(m:Int):=Aa aD
      have hwp:Ce.wrap (((l:Int)+(h:Int)+1) / 2 - 1)=((l:Int)+(h:Int)+1) / 2 - 1:=Aa aD
      have hd1:dig m=[((l:Int)+(h:Int)+1) / 2]:=by
       rw [hdv];have:=T3 (d:=(m:Int)) aA aA;rwa [Int.toNat_natCast] at this
      have hBa:Below wr.heap.size wr (wr.alloc (.cells #[num (((l:Int)+(h:Int)+1) / 2)] 3)):=(Fq _ _).alloc (Cf _) _
      have hBw:Below w.heap.size w wr:=HB7.out.trans (HBq.out.mono HB7.out.size)
      have hTq:Tab0 wr:=HT.out.below HGP.out hBw
      have hpq:0<wr.heap.size:=hTq.pos
      have hbm:(dig (b*m)).length<=(dig b).length+1:=Aa1 (by rw [Ip]; exact Nat.mul_lt_mul_of_pos_right aA hb0)
      have HP:=Cr (Ag1 (a:=b) (b:=m) (hTq.below hpq hBa) (HRB.out.below (hBw.trans (hBa.mono hBw.size))) (by rw [hd1]; exact Asd hpq) aA (by rw [hd1]; simp))
      have HBa:=Cr hBa
      have HBw:=Cr hBw
      have HCm:=Cr (Aw4 (b*m) T)
      have HDv2:=Cr hdv
      have HDv3:=Cr hm
      clear hBa hBw hTq hd1 hdv hm hwm
      by_cases hmd:m<=d
      ·have hc3:cmpN (b*m) T<=0:=HCm.out.2 ((HDv.out m).2 hmd)
       go_wp2_with (go_at_call 236; refine HP.out.mono ?_; rintro e w8 ⟨v8,rfl,hb8,hr8⟩; have HB8:=Cr hb8; have HR8:=Cr hr8; clear hb8 hr8)
       have HB9:=Cr (HBa.out.trans (HB8.out.mono HBa.out.size))
       have HT9:=Cr (HT.out.below HGP.out (HBw.out.trans (HB9.out.mono HBw.out.size)))
       have HO9:=Cr ((HO7.out.below (HBq.out)).below HB9.out)
       go_wp2_with (go_at_call 233; refine (Aci HT9.out HR8.out (HO9.out.rd (S9 _)) aA aA).mono ?_; rintro e w10 ⟨rfl,hb10⟩; have HB10:=Cr hb10; clear hb10)
       have hE:=HDv2.out
       have hE3:=HDv3.out
       refine ⟨⟨m,h,congrArg _ hE,rfl,aA,hmd,hh1,hh2,Cr ((HBq.out.trans (HB9.out.mono HBq.out.size)).trans (HB10.out.mono (Fe HBq.out.size HB9.out.size)))⟩,?_⟩
       simp only [Rh]
       omega
      ·have hc3:¬ cmpN (b*m) T<=0:=fun h'=>hmd ((HDv.out m).1 (HCm.out.1 h'))
       go_wp2_with (go_at_call 236; refine HP.out.mono ?_; rintro e w8 ⟨v8,rfl,hb8,hr8⟩; have HB8:=Cr hb8; have HR8:=Cr hr8; clear hb8 hr8)
       have HB9:=Cr (HBa.out.trans (HB8.out.mono HBa.out.size))
       have HT9:=Cr (HT.out.below HGP.out (HBw.out.trans (HB9.out.mono HBw.out.size)))
       have HO9:=Cr ((HO7.out.below (HBq.out)).below HB9.out)
       go_wp2_with (go_at_call 233; refine (Aci HT9.out HR8.out (HO9.out.rd (S9 _)) aA aA).mono ?_; rintro e w10 ⟨rfl,hb10⟩; have HB10:=Cr hb10; clear hb10)
       have hE:=HDv2.out
       have hE3:=HDv3.out
       refine ⟨⟨l,m - 1,rfl,congrArg _ aA,hl1,hl2,aA,aA,Cr ((HBq.out.trans (HB9.out.mono HBq.out.size)).trans (HB10.out.mono (Fe HBq.out.size HB9.out.size)))⟩,?_⟩
       simp only [Rh]
       omega
     ·have hlde:l=d:=aA
      subst hlde
      have hg3:¬ (l:Int)<(h:Int):=aA
      have hBw:Below w.heap.size w wr:=HB7.out.trans (HBq.out.mono HB7.out.size)
      have hTq:Tab0 wr:=HT.out.below HGP.out hBw
      have hpq:0<wr.heap.size:=hTq.pos
      have hql:qs.length=N:=HI.out.len.trans hN
      obtain ⟨y,hy⟩:=Ab (show k<qs.length by omega)
      have hQq:wr.heap[gq]?=some (.cells (qs.map num).toArray 3 (0,0)):=(HBq.out.block gq (Cj.1 HQ7.out).1).trans HQ7.out
      have hcq:wr.cell? ⟨gq,k,none⟩=some (num y):=by
       have:=Vs hQq hy;rwa [Fo] at this
      have hfq:wr.frozen? ⟨gq,k,none⟩=false:=by simp [kI,hQq]
      have HQ8:=Cr (Avi (d:=(l:Int)) hQq hy)
      have hS:Below gq wr (wr.setCell ⟨gq,k,none⟩ (num (l:Int))):=An3
      have HBw2:=Cr (hBw.trans (hS.mono aA))
      have HO8:=Cr ((HO7.out.below HBq.out).set (i:=k) (u:=num (l:Int)))
      clear hQq hS hBw hTq hy
      have hsz:(wr.setCell ⟨gq,k,none⟩ (num (l:Int))).heap.size=wr.heap.size:=by simp [gU]
      have hdl:dig l=[(l:Int)]:=by
       have:=T3 (d:=(l:Int)) aA aA;rwa [Int.toNat_natCast] at this
      have hBa:Below (wr.setCell ⟨gq,k,none⟩ (num (l:Int))).heap.size (wr.setCell ⟨gq,k,none⟩ (num (l:Int))) ((wr.setCell ⟨gq,k,none⟩ (num (l:Int))).alloc (.cells #[num (l:Int)] 3)):=(Fq _ _).alloc (Cf _) _
      have hBw3:=HBw2.out.trans (hBa.mono HBw2.out.size)
      have hP:=Ag1 (a:=b) (b:=l) (HT.out.below HGP.out hBw3) (HRB.out.below hBw3) (by rw [hdl]; exact Asd (by rw [hsz]; exact hpq)) aA (by rw [hdl]; simp)
      rw [hsz] at hP
      have HP:=Cr hP
      have HBa:=Cr hBa
      have HSz:=Cr hsz
      clear hP hBa hBw3 hdl hsz
      go_wp2_with (go_at_call 236; refine HP.out.mono ?_; rintro e w8 ⟨v8,rfl,hb8,hr8⟩; have HB8:=Cr hb8; have HR8:=Cr hr8; clear hb8 hr8)
      have HB9:=Cr (HBa.out.trans (HB8.out.mono HBa.out.size))
      have HBw9:=Cr (HBw2.out.trans (HB9.out.mono HBw2.out.size))
      have HO9:=Cr (HO8.out.below HB9.out)
      have HQ9:=Cr ((HB9.out.block gq (Cj.1 HQ8.out).1).trans HQ8.out)
      go_wp2_with (go_at_call 237; refine (Aq5 w8 v5 v8 T (b*l) (HO9.out.rd (S9 _)) HR8.out HTd.out aA (Ft HGP.out HBw9.out.size)).mono ?_; rintro e w9 ⟨v9,rfl,hO9,hB9⟩; have HO10:=Cr hO9; have HB10:=Cr hB9; clear hO9 hB9)
      have hgl:=(Cj.1 HQ9.out).1
      exact ⟨⟨k,T - b*l,qs.set k (l:Int),rfl,aA,HBd,Cr (HO10.out.weaken hgl),Cr ((HB10.out.block gq hgl).trans HQ9.out),Cr (HBw9.out.trans (HB10.out.mono HBw9.out.size))⟩,by simp [Rh]⟩
end
end Go.Proofs.YthelkgdmgihhiaaGreat
