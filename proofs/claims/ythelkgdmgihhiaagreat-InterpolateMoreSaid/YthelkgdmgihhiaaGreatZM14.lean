/- Part 14. -/
import Derived.Test.YthelkgdmgihhiaaGreatZM13
import Derived.Lib.LazyBuf
open Array renaming getElem?_eq_some_iff->Ci,getElem?_eq_getElem->Ei,toList_setIfInBounds->Om,getElem?_modify->Sl
open Go.Builtin renaming zeroCells->Nx
open Go.IntKind renaming i64->Ce
open Go.Lib renaming hid->Cl
open Go.RowKit.Below renaming refl->Fb
open Go.Value renaming int->fO
open Go.World renaming setCell->S7,frozen?->iW
open Int renaming mul_comm->Fp,mul_assoc->F1,pow_succ->Iu,mul_add->I7
open List renaming replicate->Cd,length_cons->Ck,map_cons->Cm,cons_append->Co,nil_append->Ct,mem_cons->Cy,length_nil->C3,append_assoc->C7,take_of_length_le->Fa,eq_nil_of_length_eq_zero->Fg,drop_length->Fh,getElem?_eq_some_iff->Fq,drop_zero->Fs,append_nil->Fu,getElem?_map->Fw,mem_map->Fy,take_succ_cons->F4,getElem?_eq_getElem->Ig,mem_replicate->Ih,mem_of_getElem?->Il,getElem?_take_of_lt->Iq,getElem?_cons_zero->Iv,getElem?_take->Iw,length_pos_iff->I5,getElem?_toArray->Sj,singleton_append->Sk,length_singleton->Sn,drop_append->Sv,set_append_right->fX,take_zero->iR
open Nat renaming le_refl->Cb,lt_of_lt_of_le->Fi,zero_add->Fo,le_trans->Fv,mul_one->Ia,lt_succ_self->Ip,mul_comm->I2,sub_self->I3,div_lt_iff_lt_mul->I8,pow_succ->Oj,div_add_mod->Oy,mod_eq_of_lt->O6,mod_lt->Sc,succ_pos->Se,mul_le_mul_left->S5
open Option.some renaming injEq->A0
namespace Go.Proofs.YthelkgdmgihhiaaGreat
section
open Go Tryz Go.RowKit
def layA:Array Value->Nat->List Value->Array Value
 | arr,_,[]=>arr
 | arr,o,v :: vs=>layA (arr.setIfInBounds o v) (o+1) vs
theorem H1:∀ (vs:List Value) (arr:Array Value) (o:Nat),(layA arr o vs).size=arr.size
 | [],_,_=>rfl
 | v :: vs,arr,o=>by rw [layA,H1 vs]; simp
theorem Ld:∀ (vs:List Value) (arr:Array Value) (o:Nat),o+vs.length<=arr.size->(layA arr o vs).toList=arr.toList.take o++vs++arr.toList.drop (o+vs.length)
 | [],arr,o,_=>by simp [layA]
 | v :: vs,arr,o,h=>by
  simp only [Ck] at h;rw [layA,Ld vs _ _ aB,Om];have h1:(arr.toList.set o v).take (o+1)=arr.toList.take o++[v]:=by
   rw [List.take_set,List.take_add_one,fX _ _ aB];have:o - (arr.toList.take o).length=0:=aB
   rw [this];have h2:o<arr.toList.length:=aB
   rw [Ig h2]; rfl
  have h2:(arr.toList.set o v).drop (o+1+vs.length)=arr.toList.drop (o+1+vs.length):=by
   rw [List.drop_set]; rw [if_pos aA]
  rw [h1,h2,Ck,show o+(vs.length+1)=o+1+vs.length by omega];simp
theorem Em {b:Nat} {t:TypeId} {fz:Nat × Nat} : ∀ (vs:List Value) (o:Nat) (w:World) (arr:Array Value),w.heap[b]?=some (.cells arr t fz)->(w.setCells b o vs).heap[b]?=some (.cells (layA arr o vs) t fz)
 | [],_,_,_,h=>h
 | v :: vs,o,w,arr,h=>by
  refine Em vs (o+1) (w.setCell ⟨b,o,none⟩ v) (arr.setIfInBounds o v) ?_;unfold S7;simp only;rw [Sl,if_pos rfl,h];rfl
theorem Gp {B b:Nat} {a:World} (hb:B<=b):∀ (vs:List Value) (o:Nat) (w:World),Below B a w->Below B a (w.setCells b o vs)
 | [],_,_,h=>h
 | v :: vs,o,w,h=>Gp hb vs (o+1) _ (h.trans ⟨rfl,rfl,rfl,by simp [S7],fun j hj=>by
   unfold S7;simp only;rw [Sl,if_neg aA]⟩)
theorem Aev {w:World} {base g cap:Nat} {cur:Array Value} {zs:List Int} (hg:base<=g) (h:w.heap[g]?=some (.cells cur 3 (0,0))) (hn:zs.length<=cap) (hm:cap<=maxLen) (hs:cur.size=cap) (ht:cur.toList.take zs.length=zs.map num):OR w base (.slice (some ⟨g,0,none⟩) zs.length cap) zs :=
 ⟨by simp,.inr ⟨g,cap,cur,rfl,hg,h,hn,hm,aA,by rw [Ia]; exact ht⟩⟩
theorem Adh (base:Nat) (w:World) (v:Value) (zs:List Int) (x:Int) (vb:Nat) (hO:OR w base v zs) (hbase:base<=w.heap.size) (hvb:w.heap[vb]?=some (.cells #[num x] 3 (0,0))) (hne:∀ g n c,v=.slice (some ⟨g,0,none⟩) n c->g≠vb) (hlen:zs.length<=1000000) :
  Calls prog 235 #[v,.int .i64 0,.slice (some ⟨vb,0,none⟩) 1 1] w fun e w'=>∃ v',e=.returned v'/\OR w' base v' (x :: zs)/\Below base w w':=by
 have ul:∀ (j:Nat) u,[num x][j]?=some u->w.cell? ⟨vb,0+j,none⟩=some u:=by
  intro j u hj;cases j with
  | zero =>
   simp only [Iv,A0] at hj;subst hj;rw [Lib.cell_of_heap hvb]; rfl
  | succ j=>simp at hj
 have h1v:∀ u ∈ [num x],u.oneCell'=true:=fun u hu=>by
  have:u=num x:=dM
  subst this; rfl
 have h1c:∀ u ∈ zs.map num,u.oneCell'=true:=fun u hu=>by
  obtain ⟨y,-,rfl⟩:=Fy.1 hu;rfl
 have hmax:(1000001:Nat)<=maxLen:=eD
 have n9:Tryz.laysIns_ren.t 3=3:=rfl;have z7:(fO .i64 0).cells.size=1:=rfl;rcases hO.2 with ⟨rfl,h0⟩|⟨g,cap,cur,rfl,k1,k2,k3,k4,k5,k6⟩
 ·have hz:zs=[]:=Fg h0;subst hz;refine (Any2.slices_Insert_int_end_grow Tryz.laysIns none 0 0 vb 0 1 1 [] [num x] w aA aA aA aA rfl rfl (fun _=>rfl) (fun _ h=>aP) ul h1v).mono ?_;rintro e w' ⟨rfl,rfl⟩;exact Yax
 ·have hM:cap<=9223372036854775807:=by unfold maxLen at k4; omega
  have hgv:g≠vb:=hne g _ cap rfl;have hcl:(zs.map num).length=zs.length:=by simp
  have hc5:cur.size=cap:=aA
  have ip:∀ (j:Nat) u,(zs.map num)[j]?=some u->w.cell? ⟨g,0+j,none⟩=some u:=by
   intro j u hj;rw [Ia] at k6;have io:j<zs.length:=by
    have:=(Fq.1 hj).1;exact Ya17
   rw [<- k6,Iw,if_pos io] at hj;rw [Lib.cell_of_heap k2,Fo];simpa using hj
  have sv:∀ j,j<cap->(w.cell? ⟨g,0+j,none⟩).isSome=true:=fun j hj=>by
   rw [Lib.cell_of_heap k2,Fo];rw [Ei (show j<cur.size by omega)]; rfl
  have z8:∀ j,w.frozen? ⟨g,0+j,none⟩=false:=fun j=>by
   simp [iW,k2]
  by_cases hz:zs=[]
  ·subst hz;by_cases hc:cap=0
   ·subst hc;refine (Any2.slices_Insert_int_end_grow Tryz.laysIns (some ⟨g,0,none⟩) 0 0 vb 0 1 1 [] [num x] w aA aA aA aA rfl rfl (fun _=>rfl) (fun _ _ j u h=>aM) ul h1v).mono ?_;rintro e w' ⟨rfl,rfl⟩;exact Yax
   ·refine (Any2.slices_Insert_int_end_room Tryz.laysIns g 0 0 cap vb 0 1 1 [num x] w aA aA hM rfl (fun j hj=>by simpa using sv j aA) (fun j hj=>by simpa using z8 j) ul h1v).mono ?_;rintro e w' ⟨rfl,rfl⟩;refine ⟨_,rfl,Aev (zs:=[x]) (cur:=layA cur 0 [num x]) k1 (Em _ _ _ _ k2) aB k4 (by rw [H1]; exact hc5) ?_,Gp k1 _ _ _ (Fb _ _)⟩;rw [Ld _ _ _ aB];simp
  ·have hpos:0<zs.length:=I5.2 hz;by_cases bl:zs.length+1<=cap
   ·refine (Any2.slices_Insert_int_shift Tryz.laysIns g 0 zs.length cap 0 vb 0 1 1 (zs.map num) [num x] w hpos aA bl hM (fun h=>hgv h.symm) hcl rfl ip (fun j hj=>sv j aA) (fun j _=>z8 j) ul h1c h1v 3 3 1 cap ?_ ?_ aA ?_ ?_).mono ?_
    ·simp [World.shape?,hvb]
    ·simp [World.shape?,k2,hc5]
    ·simp [iW,hvb]
    ·simp [iW,hvb]
    rintro e w' ⟨rfl,rfl⟩;have ca:w.drew.heap[g]?=some (.cells cur 3 (0,0)):=k2;have hA:=Em ((zs.map num).drop 0) (0+(0+1)) w.drew cur ca;have hB:=Em [num x] (0+0) _ _ hA;have ur:(zs.map num).length=zs.length:=by simp
    refine ⟨_,rfl,Aev (zs:=x :: zs) k1 hB (by simpa using bl) k4 (by rw [H1,H1]; exact hc5) ?_,Gp k1 _ _ _ (Gp k1 _ _ _ ((Fb _ _).drew))⟩;rw [Ld _ _ _ (by rw [H1]; simp; omega),Ld _ _ _ aB];have hl1:(cur.toList.take (0+(0+1))).length=1:=aB
    simp only [iR,Ct,Fs,Fo,Sn,Cm,Ck,Sk,F4] at hl1 ⊢;rw [C7,Sv,List.drop_of_length_le aA,Ct,hl1];simp only [C3,Fo,I3,Fs];exact Ya1l
   ·refine (Any2.slices_Insert_int_grow Tryz.laysIns g 0 zs.length cap 0 vb 0 1 1 (zs.map num) [num x] w hpos aA k3 aA aA hcl rfl ip ul h1c h1v).mono ?_;rintro e w' ⟨rfl,rfl⟩;rw [n9];have lu:=grownCap_ge w (zs.length+1) cap 3;obtain ⟨arr,ev⟩:∃ arr:Array Value,((zs.map num).take 0).toArray++Nx (fO .i64 0).cells (zs.length+1 - 0)++Nx (fO .i64 0).cells (grownCap w (zs.length+1) cap 3 - (zs.length+1))=arr:=⟨_,rfl⟩;rw [ev];have hsz:arr.size=grownCap w (zs.length+1) cap 3:=by
     rw [<- ev]; simp [size_zeroCells,z7]; omega
    have h0:(w.alloc (.cells arr 3)).drew.heap[w.heap.size]?=some (.cells arr 3 (0,0)):=An w _;have hA:=Em [num x] 0 _ _ h0;have hB:=Em ((zs.map num).drop 0) (0+1) (((w.alloc (.cells arr 3)).drew.setCells w.heap.size 0 [num x]).drew) _ hA;have ur:(zs.map num).length=zs.length:=by simp
    refine ⟨_,rfl,Aev (zs:=x :: zs) hbase hB (by simpa using lu) (grownCap_le_maxLen w _ _ _ aA) (by rw [H1,H1]; exact hsz) ?_,Gp hbase _ _ _ (Below.drew (Gp hbase _ _ _ (((Fb _ _).alloc hbase _).drew)))⟩;rw [Ld _ _ _ (by rw [H1,hsz]; simp; omega),Ld _ _ _ (by rw [hsz]; simp; omega)];simp only [iR,Ct,Fs,Fo,Sn,Cm,Ck,Sk,F4,Co];exact Ya1l
theorem Yk {w:World} {v1 v2:Value} {a b:Nat} (ht:Tab0 w) (h1:RD w v1 (dig a)) (h2:RD w v2 (dig b)) (ha:(dig a).length<=1000000) (hb:(dig b).length<=1000000) :
  Calls prog 233 #[v1,v2] w fun e w'=>e=.returned (.int .i64 (cmpN a b))/\Below w.heap.size w w':=by
 refine (call0 (fun S tk k=>M8 S tk k a b ha hb) ht Za2x).mono ?_;rintro e w' ⟨v,rfl,hb,hv⟩;simp only [VR] at hv;rw [hv];exact ⟨rfl,hb⟩
theorem Ab6 {w:World} {v1 v2:Value} {a b:Nat} (ht:Tab0 w) (h1:RD w v1 (dig a)) (h2:RD w v2 (dig b)) (ha:(dig a).length<=100000) (hb:(dig b).length<=100000) :
  Calls prog 236 #[v1,v2] w fun e w'=>∃ v,e=.returned v/\Below w.heap.size w w'/\RD w' v (dig (a*b)) :=
 call0 (fun S tk k=>Rr S tk k a b ha hb) ht Za2x
theorem Acq {w:World} {base:Nat} {v:Value} {zs:List Int} (hO:OR w base v zs) (hb:0<base) (hl:zs.length<=1000000) :
  Calls prog 234 #[v] w fun e w'=>∃ v',e=.returned v'/\w'=w/\OR w base v' (Dk zs):=by
 obtain ⟨av,cv,rfl,hcv,hcells⟩:=K4 (hO.rd hb);refine (Wf w av cv zs hl hcv fun j x hx=>?_).mono ?_
 ·exact Ya2w
 ·rintro e w' ⟨rfl,rfl⟩;exact ⟨_,rfl,rfl,hO.trim⟩
theorem OR.weaken {w:World} {base base':Nat} {v:Value} {zs:List Int} (h:OR w base v zs) (hb:base'<=base):OR w base' v zs:=by
 refine ⟨h.1,?_⟩;rcases h.2 with h0|⟨g,cap,cur,rfl,h1,h2,h3⟩
 ·exact .inl h0
 ·exact .inr ⟨g,cap,cur,rfl,aA,h2,h3⟩
theorem Aou (w:World) (base:Nat):OR w base (.slice none 0 0) []:=⟨rfl,.inl ⟨rfl,rfl⟩⟩
theorem Alv {w:World} {d:Int} (h0:0<w.heap.size):RD (w.alloc (.cells #[num d] 3)) (.slice (some ⟨w.heap.size,0,none⟩) 1 1) [d]:=by
 refine Amr (zs:=[d]) trivial (Cb _) fun j x hx=>?_;cases j with
 | zero =>
  simp only [nth,A0] at hx;subst hx;rw [Lib.cell_of_heap (An w _)]; rfl
 | succ j=>simp [nth] at hx
theorem makeN {w:World} {N:Nat} (hN:N<=1000000) {ops:Array Oper} {rest:List Oper} {op:Oper} {a:Act} {Q:Exit->Act->World->Prop} {l c:Operand} (hgd:op.guard=none) (hop:op.op=.makeSlice 58 l c) (hl:a.eval l=.int .i64 (N:Nat)) (hc:a.eval c=.int .i64 (N:Nat))
  (h:∀ w',w'.heap[w.heap.size]?=some (.cells ((Cd N (0:Int)).map num).toArray 3 (0,0))->Below w.heap.size w w'->wpList prog ops Q rest (a.put op.dst (.slice (some ⟨w.heap.size,0,none⟩) N N)) w'):wpList prog ops Q (op :: rest) a w:=by
 obtain ⟨i0,hi,hz0,hz1,hz2⟩:=info_parts Ag3;refine wpList_make_row (P:=prog) w hgd l c 58 hop 3 i0 (.int .i64 0) underlying58 hi hz0 hz1 rfl .i64 .i64 N hl hc (by rw [hz2]; omega) aA ?_;have e:madeCells #[num 0] N=((Cd N (0:Int)).map num).toArray:=by
  apply Array.ext
  ·simp [madeCells]
  ·intro i h1 h2;simp [madeCells,Nat.mod_one]
 rw [e];exact h _ (An w _) ((Fb _ _).alloc (Cb _) _)
def topV (A:List Int) (k:Nat):Nat:=(val (A.drop k)).toNat
structure QI (A:List Int) (b k R:Nat) (qs:List Int):Prop where
 len:qs.length=A.length
 ok:okD qs
 zero:∀ j x,j<k->nth qs j=some x->x=0
 rest:R=topV A k % b
 eqv:val qs=10000 ^ k*(topV A k / b:Nat)
theorem QI.start (A:List Int) (b:Nat):QI A b A.length 0 (Cd A.length 0):=by
 have h0:topV A A.length=0:=Za33
 have hz:∀ (n j:Nat) (x:Int),nth (Cd n (0:Int)) j=some x->x=0:=fun n j x h=>by
  exact Ya2r
 refine ⟨by simp,Uc fun j x hx=>by rw [hz _ _ _ hx]; omega,fun j x _ hx=>hz _ _ _ hx,by rw [h0]; simp,?_⟩;rw [Hd,h0]; simp
theorem Yz {A:List Int} (hA:okD A) {k:Nat} {x:Int} (hx:nth A k=some x):topV A k=x.toNat+10000*topV A (k+1):=by
 unfold topV;rw [Av hx,val];have h1:=Du hA hx;have h2:=En (l:=A.drop (k+1)) fun d hd=>hA d (List.mem_of_mem_drop hd);omega
theorem QI.step {A:List Int} {b k R:Nat} {qs:List Int} {x:Int} (hA:okD A) (hb:0<b) (h:QI A b (k+1) R qs) (hx:nth A k=some x) :
  (x.toNat+10000*R) / b<10000/\topV A k / b=10000*(topV A (k+1) / b)+(x.toNat+10000*R) / b/\topV A k % b=(x.toNat+10000*R) % b:=by
 have hr:=h.rest;have hxk:=Du hA hx;have hRb:R<b:=by rw [hr]; exact Sc _ hb
 have hdm:=Oy (topV A (k+1)) b;rw [<- hr] at hdm;have hs:=Yz hA hx;have e:topV A k=(x.toNat+10000*R)+b*(10000*(topV A (k+1) / b)):=by
  rw [hs,Nat.mul_left_comm]; omega
 refine ⟨?_,?_,?_⟩
 ·rw [I8 hb];have:10000*(R+1)<=10000*b:=S5 _ hRb;omega
 ·rw [e,Nat.add_mul_div_left _ _ hb]; omega
 ·rw [e,Nat.add_mul_mod_self_left]
theorem QI.small {A:List Int} {b k R:Nat} {qs:List Int} {x:Int} (hA:okD A) (hb:0<b) (h:QI A b (k+1) R qs) (hx:nth A k=some x) (hlt:x.toNat+10000*R<b):QI A b k (x.toNat+10000*R) qs:=by
 obtain ⟨-,h2,h3⟩:=h.step hA hb hx;rw [Nat.div_eq_of_lt hlt] at h2;rw [O6 hlt] at h3;refine ⟨h.len,h.ok,fun j y hj hy=>h.zero j y aA hy,h3.symm,?_⟩;have e1:((10000*(topV A (k+1) / b)+0:Nat):Int)=10000*((topV A (k+1) / b:Nat):Int):=aA
 rw [h.eqv,h2,Iu,e1,F1]
theorem QI.big {A:List Int} {b k R:Nat} {qs:List Int} {x:Int} (hA:okD A) (hb:0<b) (h:QI A b (k+1) R qs) (hx:nth A k=some x) {d:Nat} (hd:d=(x.toNat+10000*R) / b):QI A b k (x.toNat+10000*R - b*d) (qs.set k (d:Int)):=by
 obtain ⟨h1,h2,h3⟩:=h.step hA hb hx;have hk:k<qs.length:=by rw [h.len]; exact Bb hx
 obtain ⟨y,hy⟩:=Ah hk;have hy0:=h.zero k y aA hy;subst hy0;refine ⟨bK,L5 h.ok aA aA,fun j y hj hyj=>?_,?_,?_⟩
 ·rcases B5 hyj with ⟨rfl,-⟩|⟨-,hyj⟩
  ·omega
  ·exact h.zero j y aA hyj
 ·rw [h3,hd];have:=Oy (x.toNat+10000*R) b;omega
 ·rw [Gv hy,h.eqv,h2,Iu,<- hd];have e1:((10000*(topV A (k+1) / b)+d:Nat):Int)=10000*(topV A (k+1) / b:Nat)+(d:Int):=aA
  rw [e1,I7,<- F1,Int.sub_zero,Fp (d:Int)]
theorem QI.done {a b R:Nat} {qs:List Int} (h:QI (dig a) b 0 R qs):Dk qs=dig (a / b)/\R=a % b:=by
 have ht:topV (dig a) 0=a:=Za2y
 have h1:=h.rest;have h2:=h.eqv;rw [ht] at h1 h2;refine ⟨?_,h1⟩;rw [Dw h.ok,h2,Int.pow_zero,Int.one_mul,Int.toNat_natCast]
theorem Aeh {R:Nat} {x:Int} (hx:0<=x/\x<10000):Dk (x :: dig R)=dig (x.toNat+10000*R):=by
 rw [Dw (fun d hd=>by
  rcases Cy.1 hd with rfl|hd
  ·exact hx
  ·exact Br R d hd)]
 congr 1;simp only [val,B4]; omega
end
section
open Go Tryz Go.RowKit
set_option maxHeartbeats 8000000
set_option maxRecDepth 100000
theorem Aoc {w:World} {g i:Nat} {qs:List Int} {d x:Int} (h:w.heap[g]?=some (.cells (qs.map num).toArray 3 (0,0))) (hi:nth qs i=some x) :
  (w.setCell ⟨g,i,none⟩ (num d)).heap[g]?=some (.cells ((qs.set i d).map num).toArray 3 (0,0)):=by
 unfold S7;simp only;rw [Sl,if_pos rfl,h];simp [List.map_set]
theorem Aii {w:World} {g i:Nat} {v:Value} : Below g w (w.setCell ⟨g,i,none⟩ v) :=
 Gp (Cb _) [v] i w (Fb _ _)
theorem OR.set {w:World} {g i:Nat} {u v:Value} {zs:List Int} (h:OR w (g+1) v zs):OR (w.setCell ⟨g,i,none⟩ u) (g+1) v zs:=by
 refine ⟨h.1,?_⟩;rcases h.2 with h0|⟨g',cap,cur,rfl,h1,h2,h3⟩
 ·exact .inl h0
 ·refine .inr ⟨g',cap,cur,rfl,h1,?_,h3⟩;unfold S7;simp only;rw [Sl,if_neg aA];exact h2
theorem Rz {w:World} {g:Nat} {qs:List Int} (h:w.heap[g]?=some (.cells (qs.map num).toArray 3 (0,0))) {j:Nat} {x:Int} (hx:nth qs j=some x):w.cell? ⟨g,0+j,none⟩=some (num x):=by
 rw [Ae] at hx;rw [Lib.cell_of_heap h,Fo,Sj,Fw,hx]; rfl
theorem Aqu {w:World} {g cap:Nat} {qs:List Int} (h:w.heap[g]?=some (.cells (qs.map num).toArray 3 (0,0))) (_hg:True) (hc:qs.length<=cap):RD w (.slice (some ⟨g,0,none⟩) (Dk qs).length cap) (Dk qs):=by
 refine Amr trivial (Fv (P7 qs) hc) fun j x hx=>Rz h ?_;have hlt:=Bb hx;rw [H3,Ae,Iq hlt,<- Ae] at hx;exact hx
theorem Xf {T b:Nat} (h:T<10000*b):(dig T).length<=(dig b).length+1:=Bg.2 (by
 have h1:=Bg.1 (Cb (dig b).length);rw [Oj,I2 (10000 ^ (dig b).length)];exact Fi h (S5 _ (Nat.le_of_lt h1)))
theorem Apq (x y:Nat):cmpN x y<=0↔x<=y:=by
 unfold cmpN;split
 ·constructor <;> omega
 ·split <;> constructor <;> omega
def NewB (base:Nat) (v:Value):Prop:=∀ b o n c,v=.slice (some ⟨b,o,none⟩) n c->base<=b
theorem OR.newB {w:World} {base base':Nat} {v:Value} {zs:List Int} (h:OR w base v zs) (hb:base'<=base):NewB base' v:=fun b _ _ _ e=>Fv hb (h.lt b (by rw [e]; rfl)).1
theorem Adv {base g n c:Nat} (h:base<=g):NewB base (.slice (some ⟨g,0,none⟩) n c):=by
 intro b o n' c' e;cases e;exact h
theorem Yn (w:World) (va vb:Value) (a b:Nat) (ht:Tab0 w) (ha:RD w va (dig a)) (hb:RD w vb (dig b)) (hb0:0<b) (hla:(dig a).length<=90000) (hlb:(dig b).length<=90000) :
  Calls prog 228 #[va,vb] w fun e w'=>∃ v1 v2,e=.returned (.tuple #[v1,v2])/\RD w' v1 (dig (a / b))/\RD w' v2 (dig (a % b))/\Below w.heap.size w w'/\NewB w.heap.size v1/\(v2=va/\a % b=a\/NewB w.heap.size v2):=by
 have hO:=Yk ht ha hb aA aA;have hRA:=ha;obtain ⟨ax,cx,rfl,hcx,hX⟩:=K4 ha;have HX:=Cl hX;have HKX:=Cl (Br a);have HRA:=Cl hRA;have HRB:=Cl hb;have HT:=Cl ht;have HD:=Cl (fun (R:Nat) (qs:List Int) (h:QI (dig a) b 0 R qs)=>h.done);have HS:=Cl (QI.start (dig a) b);clear hX ha hb hRA ht;generalize hXX:dig a=X at *;generalize hN:X.length=N at *;have HO:=Cl hO;have HN:=Cl (show N<=1000000 by omega);clear hO;by_cases hab:a<b
 ·have hc:cmpN a b<0:=by simp [cmpN,hab]
  go_enter func228,ntmps228;go_wp2_with (go_at_call 233; refine HO.out.mono ?_; rintro e w1 ⟨rfl,hb1⟩);go_ret2;have e1:a / b=0:=Nat.div_eq_of_lt hab;have e2:a % b=a:=O6 hab;rw [e1,e2,Dm];exact ⟨_,_,rfl,Alu _ _ _,by rw [hXX]; exact HRA.out.below hb1,hb1,fun b o n c h=>aP,.inl ⟨rfl,rfl⟩⟩
 have hc:¬ cmpN a b<0:=by
  unfold cmpN;rw [if_neg hab]; split <;> omega
 go_enter func228,ntmps228;go_wp2_with (first
  | (go_at_call 233; refine HO.out.mono ?_; rintro e w1 ⟨rfl,hb1⟩; have HB1:=Cl hb1; clear hb1)
  | (at_make; refine makeN HN.out rfl rfl rfl rfl ?_; intro w2 hq2 hb2; have HQ2:=Cl hq2; have HB2:=Cl (HB1.out.trans (hb2.mono HB1.out.size)); clear hq2 hb2))
 have hgq:w.heap.size<=w1.heap.size:=HB1.out.size;generalize hGQ:w1.heap.size=gq at *;have HGP:=Cl (show 0<w.heap.size from HT.out.pos);have HW2:=Cl (Ci.1 HQ2.out).1;go_loopw [7,8] (fun v i wr=>∃ (k R:Nat) (qs:List Int),i=.int .i64 ((k:Int) - 1)/\k<=N/\Hid (QI X b k R qs)/\Hid (OR wr (gq+1) v (dig R))/\Hid (wr.heap[gq]?=some (.cells (qs.map num).toArray 3 (0,0)))/\Hid (Below w.heap.size w wr)) (fun _ i _=>(Po i+1).toNat);case atStart=>exact ⟨N,0,_,congrArg (fO .i64) aA,Cb _,HS,Cl (by rw [Dm]; exact Aou _ _),HQ2,HB2⟩
 case round =>
  obtain ⟨k,R,qs,rfl,hk,HI,HR,HQ,HB⟩:=hrel
  cases k with
  | zero =>
   have hql:qs.length=N:=HI.out.len.trans hN
   have hT:=Wf wr (some ⟨gq,0,none⟩) N qs aA aA fun j x hx=>⟨gq,0,rfl,Rz HQ.out hx⟩
   have HV:=Cl (Aqu (cap:=N) HQ.out trivial aA)
   have HE:=Cl (HD.out R qs HI.out)
   rw [hql] at hT
   have HTr:=Cl hT
   clear hT
   go_wp2_with (go_at_call 234; refine HTr.out.mono ?_; rintro e w6 ⟨rfl,rfl⟩)
   go_ret2
   obtain ⟨e1,e2⟩:=HE.out
   have hv:=HV.out
   rw [e1] at hv ⊢
   exact ⟨_,_,rfl,hv,by rw [<- e2]; exact HR.out.rd aA,HB.out,Adv aA,.inr (HR.out.newB aA)⟩
  | succ k =>
   obtain ⟨x,hx⟩:=Ah (show k<X.length by omega)
   obtain ⟨bx,ox,rfl,hcx0,-⟩:=HX.out k x hx
   have hxk:=HKX.out x dW
   have hcell:=(HB.out.cell (E2 hcx0)).trans hcx0
   have hi:(((k+1:Nat):Int) - 1)=(k:Int):=aA
   rw [hi]
   have hi1:Ce.wrap ((k:Int) - 1)=(k:Int) - 1:=Ac aD
   have hg1:(k:Int) >= 0:=aA
   have hg2:(k:Int)<(N:Int):=aA
   have hQl:=(Ci.1 HQ.out).1
   have hRl:(dig R).length<=90000:=by
    have h1:R<b:=Za2z
    exact Fv (Bg.2 (Nat.lt_trans h1 (Bg.1 (Cb _)))) hlb
   have hB3:Below wr.heap.size wr (wr.alloc (.cells #[num x] 3)):=(Fb _ _).alloc (Cb _) _
   have hIns:=Adh (gq+1) (wr.alloc (.cells #[num x] 3)) _ (dig R) x wr.heap.size (HR.out.below hB3) (by have:=hB3.size; omega) (An wr _) (fun g n c hv=>by
    have:=HR.out.lt g (by rw [hv]; rfl);omega) aA
   have HIns:=Cl hIns
   have HXX:=Cl hx
   have hTa:=Aeh (R:=R) hxk
   have hTb:x.toNat+10000*R<10000*b:=by
    have h1:R<b:=Za2z
    omega
   have HSm:=Cl (HI.out.small (b:=b) HKX.out hb0 hx)
   have HBg:=Cl (fun d=>HI.out.big (b:=b) (d:=d) HKX.out hb0 hx)
   generalize hTT:x.toNat+10000*R=T at *
   have hTl:(dig T).length<=90001:=Fv (Xf hTb) aA
   have HTa:=Cl hTa
   clear hTa
   have HB3:=Cl hB3
   clear hIns hx hcx0 hB3
   have hgq2:w.heap.size<=gq+1:=aA
   by_cases hlt:T<b
   ·have hc2:cmpN T b<0:=by simp [cmpN,hlt]
    have HSs:=Cl (HSm.out hlt)
    go_wp2_with (go_at_call 235; refine HIns.out.mono ?_; rintro e w4 ⟨v4,rfl,hO4,hB4⟩; have HO4:=Cl hO4; have HB4:=Cl hB4; clear hO4 hB4)
    have HQ5:=Cl ((HB4.out.block gq (Ip _)).trans ((HB3.out.block gq hQl).trans HQ.out))
    have HB5:=Cl ((HB.out.trans (HB3.out.mono HB.out.size)).trans (HB4.out.mono hgq2))
    go_wp2_with (go_at_call 234; refine (Acq HO4.out (Se _) aB).mono ?_; rintro e w5 ⟨v5,rfl,rfl,hO5⟩; rw [HTa.out] at hO5; have HO5:=Cl hO5; clear hO5)
    have HT5:=Cl (HT.out.below HGP.out HB5.out)
    go_wp2_with (go_at_call 233; refine (Yk HT5.out (HO5.out.rd (Se _)) (HRB.out.below HB5.out) aA aA).mono ?_; rintro e w6 ⟨rfl,hb6⟩; have HB6:=Cl hb6; clear hb6)
    exact ⟨⟨k,T,qs,rfl,aA,HSs,Cl (HO5.out.below HB6.out),Cl ((HB6.out.block gq (Ci.1 HQ5.out).1).trans HQ5.out),Cl (HB5.out.trans (HB6.out.mono HB5.out.size))⟩,by simp [Po]⟩
   ·have hc2:¬ cmpN T b<0:=by
     unfold cmpN;rw [if_neg hlt]; split <;> omega
    obtain ⟨d,hd⟩:∃ d,d=T / b:=⟨_,rfl⟩
    have hd1:1<=d:=by rw [hd]; exact (Nat.le_div_iff_mul_le hb0).2 aA
    have hd2:d<=9999:=by
     have:d<10000:=by rw [hd]; exact (I8 hb0).2 hTb
     omega
    have HDv:=Cl (fun m:Nat=>(show b*m<=T↔m<=d by rw [hd,Nat.le_div_iff_mul_le hb0,I2]))
    have HBd:=Cl (HBg.out d hd)
    have hTd:b*d<=T:=by rw [hd]; exact Nat.mul_div_le T b
    have HTd:=Cl hTd
    clear hd hTd
    go_wp2_with (go_at_call 235; refine HIns.out.mono ?_; rintro e w4 ⟨v4,rfl,hO4,hB4⟩; have HO4:=Cl hO4; have HB4:=Cl hB4; clear hO4 hB4)
    have HQ5:=Cl ((HB4.out.block gq (Ip _)).trans ((HB3.out.block gq hQl).trans HQ.out))
    have HB5:=Cl ((HB.out.trans (HB3.out.mono HB.out.size)).trans (HB4.out.mono hgq2))
    go_wp2_with (go_at_call 234; refine (Acq HO4.out (Se _) aB).mono ?_; rintro e w5 ⟨v5,rfl,rfl,hO5⟩; rw [HTa.out] at hO5; have HO5:=Cl hO5; clear hO5)
    have HT5:=Cl (HT.out.below HGP.out HB5.out)
    go_wp2_with (go_at_call 233; refine (Yk HT5.out (HO5.out.rd (Se _)) (HRB.out.below HB5.out) aA aA).mono ?_; rintro e w6 ⟨rfl,hb6⟩; have HB6:=Cl hb6; clear hb6)
    have HB7:=Cl (HB5.out.trans (HB6.out.mono HB5.out.size))
    have HQ7:=Cl ((HB6.out.block gq (Ci.1 HQ5.out).1).trans HQ5.out)
    have HO7:=Cl (HO5.out.below HB6.out)
    clear HIns HSm HBg HO4 HB4 HB6 HO5 HT5 HQ5 HB5 HB3 hc2
    go_loopw [9,10] (fun lo hi wq=>∃ l h:Nat,lo=.int .i64 l/\hi=.int .i64 h/\1<=l/\l<=d/\d<=h/\h<=9999/\Hid (Below w6.heap.size w6 wq)) (fun lo hi _=>(Po hi - Po lo).toNat)
    case atStart=>exact ⟨1,9999,rfl,rfl,Cb _,hd1,hd2,Cb _,Cl (Fb _ _)⟩
    case round =>
     obtain ⟨l,h,rfl,rfl,hl1,hl2,hh1,hh2,HBq⟩:=hrel
     by_cases hlh:l<h
     ·have hg3:(l:Int)<(h:Int):=aA
      obtain ⟨m,hm⟩:∃ m:Nat,m=(l+h+1) / 2:=⟨_,rfl⟩
      have hw1:Ce.wrap ((l:Int)+(h:Int))=(l:Int)+(h:Int):=Ac aD
      have hw2:Ce.wrap ((l:Int)+(h:Int)+1)=(l:Int)+(h:Int)+1:=Ac aD
      have hdv:((l:Int)+(h:Int)+1) / 2=(m:Int):=aA
      have hwm:Ce.wrap (m:Int)=(m:Int):=Ac aD
      have hwp:Ce.wrap (((l:Int)+(h:Int)+1) / 2 - 1)=((l:Int)+(h:Int)+1) / 2 - 1:=Ac aD
      have hd1:dig m=[((l:Int)+(h:Int)+1) / 2]:=by
       rw [hdv];have:=U7 (d:=(m:Int)) aA aA;rwa [Int.toNat_natCast] at this
      have hBa:Below wr.heap.size wr (wr.alloc (.cells #[num (((l:Int)+(h:Int)+1) / 2)] 3)):=(Fb _ _).alloc (Cb _) _
      have hBw:Below w.heap.size w wr:=HB7.out.trans (HBq.out.mono HB7.out.size)
      have hTq:Tab0 wr:=HT.out.below HGP.out hBw
      have hpq:0<wr.heap.size:=hTq.pos
      have hbm:(dig (b*m)).length<=(dig b).length+1:=Xf (by rw [I2]; exact Nat.mul_lt_mul_of_pos_right aA hb0)
      have HP:=Cl (Ab6 (a:=b) (b:=m) (hTq.below hpq hBa) (HRB.out.below (hBw.trans (hBa.mono hBw.size))) (by rw [hd1]; exact Alv hpq) aA (by rw [hd1]; simp))
      have HBa:=Cl hBa
      have HBw:=Cl hBw
      have HCm:=Cl (Apq (b*m) T)
      have HDv2:=Cl hdv
      have HDv3:=Cl hm
      clear hBa hBw hTq hd1 hdv hm hwm
      by_cases hmd:m<=d
      ·have hc3:cmpN (b*m) T<=0:=HCm.out.2 ((HDv.out m).2 hmd)
       go_wp2_with (go_at_call 236; refine HP.out.mono ?_; rintro e w8 ⟨v8,rfl,hb8,hr8⟩; have HB8:=Cl hb8; have HR8:=Cl hr8; clear hb8 hr8)
       have HB9:=Cl (HBa.out.trans (HB8.out.mono HBa.out.size))
       have HT9:=Cl (HT.out.below HGP.out (HBw.out.trans (HB9.out.mono HBw.out.size)))
       have HO9:=Cl ((HO7.out.below (HBq.out)).below HB9.out)
       go_wp2_with (go_at_call 233; refine (Yk HT9.out HR8.out (HO9.out.rd (Se _)) aA aA).mono ?_; rintro e w10 ⟨rfl,hb10⟩; have HB10:=Cl hb10; clear hb10)
       have hE:=HDv2.out
       have hE3:=HDv3.out
       refine ⟨⟨m,h,congrArg _ hE,rfl,aA,hmd,hh1,hh2,Cl ((HBq.out.trans (HB9.out.mono HBq.out.size)).trans (HB10.out.mono (Fv HBq.out.size HB9.out.size)))⟩,?_⟩
       simp only [Po]
       omega
      ·have hc3:¬ cmpN (b*m) T<=0:=fun h'=>hmd ((HDv.out m).1 (HCm.out.1 h'))
       go_wp2_with (go_at_call 236; refine HP.out.mono ?_; rintro e w8 ⟨v8,rfl,hb8,hr8⟩; have HB8:=Cl hb8; have HR8:=Cl hr8; clear hb8 hr8)
       have HB9:=Cl (HBa.out.trans (HB8.out.mono HBa.out.size))
       have HT9:=Cl (HT.out.below HGP.out (HBw.out.trans (HB9.out.mono HBw.out.size)))
       have HO9:=Cl ((HO7.out.below (HBq.out)).below HB9.out)
       go_wp2_with (go_at_call 233; refine (Yk HT9.out HR8.out (HO9.out.rd (Se _)) aA aA).mono ?_; rintro e w10 ⟨rfl,hb10⟩; have HB10:=Cl hb10; clear hb10)
       have hE:=HDv2.out
       have hE3:=HDv3.out
       refine ⟨⟨l,m - 1,rfl,congrArg _ aA,hl1,hl2,aA,aA,Cl ((HBq.out.trans (HB9.out.mono HBq.out.size)).trans (HB10.out.mono (Fv HBq.out.size HB9.out.size)))⟩,?_⟩
       simp only [Po]
       omega
     ·have hlde:l=d:=aA
      subst hlde
      have hg3:¬ (l:Int)<(h:Int):=aA
      have hBw:Below w.heap.size w wr:=HB7.out.trans (HBq.out.mono HB7.out.size)
      have hTq:Tab0 wr:=HT.out.below HGP.out hBw
      have hpq:0<wr.heap.size:=hTq.pos
      have hql:qs.length=N:=HI.out.len.trans hN
      obtain ⟨y,hy⟩:=Ah (show k<qs.length by omega)
      have hQq:wr.heap[gq]?=some (.cells (qs.map num).toArray 3 (0,0)):=(HBq.out.block gq (Ci.1 HQ7.out).1).trans HQ7.out
      have hcq:wr.cell? ⟨gq,k,none⟩=some (num y):=by
       have:=Rz hQq hy;rwa [Fo] at this
      have hfq:wr.frozen? ⟨gq,k,none⟩=false:=by simp [iW,hQq]
      have HQ8:=Cl (Aoc (d:=(l:Int)) hQq hy)
      have hS:Below gq wr (wr.setCell ⟨gq,k,none⟩ (num (l:Int))):=Aii
      have HBw2:=Cl (hBw.trans (hS.mono aA))
      have HO8:=Cl ((HO7.out.below HBq.out).set (i:=k) (u:=num (l:Int)))
      clear hQq hS hBw hTq hy
      have hsz:(wr.setCell ⟨gq,k,none⟩ (num (l:Int))).heap.size=wr.heap.size:=by simp [S7]
      have hdl:dig l=[(l:Int)]:=by
       have:=U7 (d:=(l:Int)) aA aA;rwa [Int.toNat_natCast] at this
      have hBa:Below (wr.setCell ⟨gq,k,none⟩ (num (l:Int))).heap.size (wr.setCell ⟨gq,k,none⟩ (num (l:Int))) ((wr.setCell ⟨gq,k,none⟩ (num (l:Int))).alloc (.cells #[num (l:Int)] 3)):=(Fb _ _).alloc (Cb _) _
      have hBw3:=HBw2.out.trans (hBa.mono HBw2.out.size)
      have hP:=Ab6 (a:=b) (b:=l) (HT.out.below HGP.out hBw3) (HRB.out.below hBw3) (by rw [hdl]; exact Alv (by rw [hsz]; exact hpq)) aA (by rw [hdl]; simp)
      rw [hsz] at hP
      have HP:=Cl hP
      have HBa:=Cl hBa
      have HSz:=Cl hsz
      clear hP hBa hBw3 hdl hsz
      go_wp2_with (go_at_call 236; refine HP.out.mono ?_; rintro e w8 ⟨v8,rfl,hb8,hr8⟩; have HB8:=Cl hb8; have HR8:=Cl hr8; clear hb8 hr8)
      have HB9:=Cl (HBa.out.trans (HB8.out.mono HBa.out.size))
      have HBw9:=Cl (HBw2.out.trans (HB9.out.mono HBw2.out.size))
      have HO9:=Cl (HO8.out.below HB9.out)
      have HQ9:=Cl ((HB9.out.block gq (Ci.1 HQ8.out).1).trans HQ8.out)
      go_wp2_with (go_at_call 237; refine (Akq w8 v5 v8 T (b*l) (HO9.out.rd (Se _)) HR8.out HTd.out aA (Fi HGP.out HBw9.out.size)).mono ?_; rintro e w9 ⟨v9,rfl,hO9,hB9⟩; have HO10:=Cl hO9; have HB10:=Cl hB9; clear hO9 hB9)
      have hgl:=(Ci.1 HQ9.out).1
      exact ⟨⟨k,T - b*l,qs.set k (l:Int),rfl,aA,HBd,Cl (HO10.out.weaken hgl),Cl ((HB10.out.block gq hgl).trans HQ9.out),Cl (HBw9.out.trans (HB10.out.mono HBw9.out.size))⟩,by simp [Po]⟩
end
end Go.Proofs.YthelkgdmgihhiaaGreat
