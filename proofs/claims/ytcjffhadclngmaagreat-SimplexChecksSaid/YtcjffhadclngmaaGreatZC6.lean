/- EvTail EvOwn EvRun EvFun -/
import Derived.Test.YtcjffhadclngmaaGreatZC5
import Derived.Orders
import Derived.Scope
namespace Go.Proofs.YtcjffhadclngmaaGreat
open Go.RowKit
section
variable {P:Program} {ops:Array Oper}
theorem Ee {listed:Array Bool} {i:Nat} (h:i ∈ Region.ready .any ops listed):listed.getD i true=false∧∃ o,ops[i]?=some o∧∀ e ∈ depsOf ops i,listed.getD e false=true:=by
 obtain ⟨h0,o,ho,hd⟩:=mem_ready.1 h
 refine ⟨h0,o,ho,fun e he=>?_⟩
 unfold depsOf at he
 rw [ho] at he
 simp only [List.mem_map,List.mem_filter] at he
 obtain ⟨x,⟨hx,hb⟩,rfl⟩:=he
 exact hd x (by simpa using hx) hb
theorem Li {listed:Array Bool} {i:Nat} {o:Oper} (h0:listed.getD i true=false) (ho:ops[i]?=some o) (hd:∀ e ∈ depsOf ops i,listed.getD e false=true):i ∈ Region.ready .any ops listed:=by
 refine mem_ready.2 ⟨h0,o,ho,fun e he hb=>hd _ ?_⟩
 unfold depsOf; rw [ho]
 exact List.mem_map.2 ⟨e,List.mem_filter.2 ⟨by simpa using he,hb⟩,rfl⟩
theorem Dc {listed:Array Bool} (hc:∀ j,listed.getD j false=true→∀ e ∈ depsOf ops j,listed.getD e false=true) {i:Nat} (hd:∀ e ∈ depsOf ops i,listed.getD e false=true) :
  ∀ e ∈ reachAt ops i,listed.getD e false=true:=by
 unfold reachAt
 generalize (List.range i).reverse=l
 have key:∀ (l:List Nat) (s:List Nat),(∀ e ∈ s,listed.getD e false=true)→∀ e ∈ l.foldl (fun s j=>if s.contains j then depsOf ops j++s else s) s,listed.getD e false=true:=by
  intro l
  induction l with
  | nil=>intro s hs; exact hs
  | cons j l ih =>
   intro s hs
   simp only [List.foldl_cons]
   apply ih
   split
   ·rename_i hj
    intro e he
    rcases List.mem_append.1 he with h|h
    ·exact hc j (hs j (by simpa using hj)) e h
    ·exact hs e h
   ·exact hs
 exact key l _ hd
theorem Afv {o:Oper} {a:Act} {w:World} {K:Act→World→Prop} {Q Q':Exit→Act→World→Prop} (hp:∀ c a w,Q (.panic c) a w→Q' (.panic c) a w) (hl:LetsOut Q→LetsOut Q') (hh:o.wp P a w K Q):o.wp P a w K Q':=by
 unfold Oper.wp at *
 generalize (execOp a.eval o).run P w=r at *
 cases r with
 | ok n w' =>
  cases n <;> simp only [Oper.upon] at hh ⊢ <;>
   first
    | exact hh
    | exact Calls.mono hh (fun e w'' he=>by cases e <;> first|exact he|exact hp _ _ _ he|exact hl he)
    | exact Rows.mono hh (fun _ _ he=>he)
 | halt x w'=>cases x <;> simp only [Oper.upon] at hh ⊢ <;> first|exact hh|exact hp _ _ _ hh|exact hl hh
def Zi (P:Program) (o:Oper) (Q:Exit→Act→World→Prop):Exit→Act→World→Prop
 | .normal=>fun a w=>o.wp P a w (fun a' w'=>Q .normal a' w') Q
 | ex=>Q ex
theorem Gt {listed:Array Bool} {j:Nat} {d:Bool} (h:j<listed.size):(listed.push false).getD j d=listed.getD j d:=by
 simp [Array.getD_eq_getD_getElem?,Array.getElem?_push,Nat.ne_of_lt h]
theorem Qr {listed:Array Bool} {d:Bool} : (listed.push false).getD listed.size d=false:=by
 simp [Array.getD_eq_getD_getElem?,Array.getElem?_push]
theorem Wu {init:Array Oper} {o:Oper} {Q:Exit→Act→World→Prop} (hg:o.guard=none) (hreach:∀ j,j<init.size→j ∈ reachAt (init.push o) init.size) (hlast:∀ e ∈ depsOf (init.push o) init.size,e<init.size)
  (hdep:∀ i o',init[i]?=some o'→(∀ e ∈ depsOf init i,e<i)∧∀ g w,o'.guard=some (g,w)→g<init.size) :
  ∀ (fuel:Nat) (listed:Array Bool) (a:Act) (w:World),listed.size=init.size→(∀ j,listed.getD j false=true→∀ e ∈ depsOf init j,listed.getD e false=true) →
   wpAny P .any init (Zi P o Q) fuel listed a w→wpAny P .any (init.push o) Q (fuel+1) (listed.push false) a w:=by
 have hold:∀ i,i<init.size→(init.push o)[i]?=init[i]?:=fun i hi=>by rw [Array.getElem?_push,if_neg (by omega)]
 have hnew:(init.push o)[init.size]?=some o:=by simp
 have hdo:∀ i,i<init.size→depsOf (init.push o) i=depsOf init i:=fun i hi=>by unfold depsOf; rw [hold i hi]
 have hready:∀ (listed:Array Bool),listed.size=init.size→∀ i,i<init.size→(i ∈ Region.ready .any (init.push o) (listed.push false)↔i ∈ Region.ready .any init listed):=by
  intro listed hls i hi
  constructor
  ·intro h
   obtain ⟨h0,o',ho',hd⟩:=Ee h
   rw [Gt (by omega)] at h0
   rw [hold i hi] at ho'
   rw [hdo i hi] at hd
   refine Li h0 ho' fun e he=>?_
   have:=hd e he
   have hlt:=(hdep i o' ho').1 e he
   rwa [Gt (by omega)] at this
  ·intro h
   obtain ⟨h0,o',ho',hd⟩:=Ee h
   refine Li (by rw [Gt (by omega)]; exact h0) (by rw [hold i hi]; exact ho') fun e he=>?_
   rw [hdo i hi] at he
   have hlt:=(hdep i o' ho').1 e he
   rw [Gt (by omega)]; exact hd e he
 have hnone:∀ (listed:Array Bool),listed.size=init.size→Region.ready .any init listed=[]→∀ j,j<init.size→listed.getD j false=true:=by
  intro listed hls hnil j
  induction j using Nat.strongRecOn with
  | _ j ihj =>
   intro hj
   cases hl:listed.getD j false with
   | true=>rfl
   | false =>
    exfalso
    have:j ∈ Region.ready .any init listed:=by
     refine Li ?_ (Array.getElem?_eq_getElem hj) fun e he=>?_
     ·have hjl:j<listed.size:=by omega
      simpa [Array.getD,hjl] using hl
     ·have:=(hdep j _ (Array.getElem?_eq_getElem hj)).1 e he
      exact ihj e this (by omega)
    rw [hnil] at this; simp at this
 have hclosed:∀ (listed:Array Bool),listed.size=init.size→(∀ j,listed.getD j false=true→∀ e ∈ depsOf init j,listed.getD e false=true)→init.size ∈ Region.ready .any (init.push o) (listed.push false)→Region.ready .any init listed=[]:=by
  intro listed hls hcl h
  obtain ⟨-,o',-,hd⟩:=Ee h
  have hc2:∀ j,(listed.push false).getD j false=true→∀ e ∈ depsOf (init.push o) j,(listed.push false).getD e false=true:=by
   intro j hj e he
   by_cases hjn:j<init.size
   ·rw [Gt (by omega)] at hj
    rw [hdo j hjn] at he
    have hlt:=(hdep j _ (Array.getElem?_eq_getElem hjn)).1 e he
    rw [Gt (by omega)]; exact hcl j hj e he
   ·exfalso
    by_cases hje:j=init.size
    ·rw [hje,← hls,Qr] at hj; cases hj
    ·rw [Array.getD_eq_getD_getElem?,Array.getElem?_eq_none (by simp; omega)] at hj; cases hj
  have hall:∀ j,j<init.size→listed.getD j false=true:=fun j hj=>by
   have:=Dc hc2 hd j (hreach j hj)
   rwa [Gt (by omega)] at this
  cases hr:Region.ready .any init listed with
  | nil=>rfl
  | cons x l =>
   have hx:x ∈ Region.ready .any init listed:=by rw [hr]; simp
   obtain ⟨h0,o',ho',-⟩:=Ee hx
   have hxl:=(Array.getElem?_eq_some_iff.1 ho').1
   have h1:=hall x hxl
   have hxs:x<listed.size:=by omega
   simp [Array.getD,hxs] at h0 h1
   rw [h0] at h1; cases h1
 have hfinal:∀ (fuel:Nat) (listed:Array Bool) (a:Act) (w:World),listed.size=init.size→(∀ j,j<init.size→listed.getD j false=true)→Zi P o Q .normal a w →
   wpOp P (init.push o) Q init.size (wpAny P .any (init.push o) Q fuel ((listed.push false).setIfInBounds init.size true)) a w:=by
  intro fuel listed a w hls hall h
  have hnil:Region.ready .any (init.push o) ((listed.push false).setIfInBounds init.size true)=[]:=by
   cases hr:Region.ready .any (init.push o) ((listed.push false).setIfInBounds init.size true) with
   | nil=>rfl
   | cons x l =>
    exfalso
    have hx:x ∈ Region.ready .any (init.push o) ((listed.push false).setIfInBounds init.size true):=by rw [hr]; simp
    obtain ⟨h0,o',ho',-⟩:=Ee hx
    have hxl:=(Array.getElem?_eq_some_iff.1 ho').1
    rw [Array.size_push] at hxl
    rw [Array.getD_eq_getD_getElem?,Array.getElem?_setIfInBounds] at h0
    split at h0
    ·split at h0
     ·cases h0
     ·rename_i h1 h2; exact h2 (by simp; omega)
    ·have h1:=hall x (by omega)
     rw [← Array.getD_eq_getD_getElem?,Gt (by omega)] at h0
     have hxs:x<listed.size:=by omega
     simp [Array.getD,hxs] at h0 h1
     rw [h0] at h1; cases h1
  unfold wpOp
  rw [hnew]
  simp only
  have hw:Region.wanted o (yielded (init.push o) a.tmps)=true:=by unfold Region.wanted; rw [hg]
  rw [if_pos hw]
  left
  refine Oper.wp_mono (fun a' w' hq=>?_) h
  cases fuel with
  | zero=>exact ⟨hnil,hq⟩
  | succ fuel=>exact ⟨fun _=>hq,fun i hi=>by rw [hnil] at hi; simp at hi⟩
 intro fuel
 induction fuel with
 | zero =>
  intro listed a w hls hcl h
  obtain ⟨hnil,hq⟩:=h
  have hall:=hnone listed hls hnil
  have hin:init.size ∈ Region.ready .any (init.push o) (listed.push false):=by
   refine Li (by rw [← hls,Qr]) hnew fun e he=>?_
   have:=hlast e he
   rw [Gt (by omega)]; exact hall e this
  refine ⟨fun hn=>by rw [hn] at hin; simp at hin,fun i hi=>?_⟩
  by_cases hilt:i<init.size
  ·rw [hready listed hls i hilt,hnil] at hi; simp at hi
  ·have hie:i=init.size:=by
    obtain ⟨-,o',ho',-⟩:=Ee hi
    have:=(Array.getElem?_eq_some_iff.1 ho').1
    rw [Array.size_push] at this; omega
   subst hie
   exact hfinal 0 listed a w hls hall hq
 | succ fuel ih =>
  intro listed a w hls hcl h
  obtain ⟨h1,h2⟩:=h
  refine ⟨fun hn=>?_,fun i hi=>?_⟩
  ·exfalso
   have hnil:Region.ready .any init listed=[]:=by
    cases hr:Region.ready .any init listed with
    | nil=>rfl
    | cons x l =>
     have hx:x ∈ Region.ready .any init listed:=by rw [hr]; simp
     obtain ⟨-,o',ho',-⟩:=Ee hx
     have:=(hready listed hls x (Array.getElem?_eq_some_iff.1 ho').1).2 hx
     rw [hn] at this; simp at this
   have hall:=hnone listed hls hnil
   have hin:init.size ∈ Region.ready .any (init.push o) (listed.push false):=by
    refine Li (by rw [← hls,Qr]) hnew fun e he=>?_
    have:=hlast e he
    rw [Gt (by omega)]; exact hall e this
   rw [hn] at hin; simp at hin
  ·by_cases hilt:i<init.size
   ·have hi':=(hready listed hls i hilt).1 hi
    have h3:=h2 i hi'
    obtain ⟨h0,o',ho',hd⟩:=Ee hi'
    have hset:(listed.push false).setIfInBounds i true=(listed.setIfInBounds i true).push false:=by
     apply Array.ext'
     simp [List.set_append,hls,hilt]
    have hcl2:∀ j,(listed.setIfInBounds i true).getD j false=true→∀ e ∈ depsOf init j,(listed.setIfInBounds i true).getD e false=true:=by
     intro j hj e he
     have hup:∀ e,listed.getD e false=true→(listed.setIfInBounds i true).getD e false=true:=fun e he=>by
      rw [Array.getD_eq_getD_getElem?,Array.getElem?_setIfInBounds]
      split
      ·rw [if_pos (by rename_i h; omega)]; rfl
      ·rw [← Array.getD_eq_getD_getElem?]; exact he
     by_cases hji:j=i
     ·subst hji; exact hup e (hd e he)
     ·refine hup e (hcl j ?_ e he)
      rw [Array.getD_eq_getD_getElem?,Array.getElem?_setIfInBounds,if_neg (fun h=>hji h.symm),← Array.getD_eq_getD_getElem?] at hj
      exact hj
    have hk:∀ a' w',wpAny P .any init (Zi P o Q) fuel (listed.setIfInBounds i true) a' w'→wpAny P .any (init.push o) Q (fuel+1) ((listed.push false).setIfInBounds i true) a' w':=fun a' w' h=>by
     rw [hset]; exact ih _ a' w' (by simpa using hls) hcl2 h
    unfold wpOp at h3 ⊢
    rw [hold i hilt]
    rw [ho'] at h3 ⊢
    simp only at h3 ⊢
    have hy:Region.wanted o' (yielded (init.push o) a.tmps)=Region.wanted o' (yielded init a.tmps):=by
     unfold Region.wanted
     cases hgd:o'.guard with
     | none=>rfl
     | some x =>
      obtain ⟨g,b⟩:=x
      have hgl:=(hdep i o' ho').2 g b hgd
      simp only [yielded,hold g hgl]
    rw [hy]
    split
    ·rename_i hw
     rw [if_pos hw] at h3
     rcases h3 with h3|⟨h3,h4⟩
     ·exact .inl (Oper.wp_mono hk (Afv (fun c a w h=>h) (fun ⟨a,w,h⟩=>⟨a,w,h⟩) h3))
     ·exact .inr ⟨h3,let ⟨a,w,h⟩:=h4; ⟨a,w,h⟩⟩
    ·rename_i hw
     rw [if_neg hw] at h3
     exact hk _ _ h3
   ·have hie:i=init.size:=by
     obtain ⟨-,o',ho',-⟩:=Ee hi
     have:=(Array.getElem?_eq_some_iff.1 ho').1
     rw [Array.size_push] at this; omega
    subst hie
    have hnil:=hclosed listed hls hcl hi
    exact hfinal (fuel+1) listed a w hls (hnone listed hls hnil) (h1 hnil)
end
end Go.Proofs.YtcjffhadclngmaaGreat
namespace Go.Proofs.YtcjffhadclngmaaGreat
open Go.RowKit
section
variable {P:Program}
theorem X4 {C:Cx} {sz m:Nat} {y:AV} {ys:List AV} {vy:Value} (hy:VR C y vy) (h:litC sz y=some (m,ys)) (h0:0<m) (hs:0<sz) :
  ∃ b o cap vs,vy=.slice (some ⟨b,o,none⟩) m cap∧VRs C ys vs∧vs.length=m*sz∧Lie C.w C.Avoid b o vs∧(∀ v ∈ vs,v.oneCell'=true):=by
 unfold litC at h
 split at h
 ·rename_i es c
  split at h
  ·rename_i hh
   simp only [Option.some.injEq,Prod.mk.injEq] at h
   obtain ⟨rfl,rfl⟩:=h
   simp only [VR] at hy
   obtain ⟨a,len,cap,rfl,e1,e2,e3,e4⟩:=hy
   rcases e4 with rfl|⟨b,o,sz',rfl,hr⟩
   ·simp at h0
   ·have hne:es≠[]:=by intro e; subst e; simp at h0
    have:=Lf hr hh.1 hne
    subst this
    obtain ⟨l,g1,g2,g3⟩:=Gn hr
    exact ⟨b,o,cap,l,by rw [e1],Kc g2,g1,g3,Ql g2⟩
  ·simp at h
 ·rename_i len cs
  split at h
  ·rename_i hh
   simp only [Option.some.injEq,Prod.mk.injEq] at h
   obtain ⟨rfl,rfl⟩:=h
   simp only [VR] at hy
   obtain ⟨b,vs,rfl,hl,hv⟩:=hy
   have:=Bk hv
   exact ⟨b,0,len,vs,rfl,hv,by omega,hl,Ln hv hh.2⟩
  ·simp at h
 ·simp at h
def Cx.turn (C:Cx) (w:World) (id b:Nat) (cs:List AV):Cx:={ C with w:=w,φ:=fun i=>if i=id then b else C.φ i,S:=put C.S id ⟨C.n,cs⟩,n:=C.n+1 }
theorem V3 {C:Cx} {w:World} {id b:Nat} {cs:List AV} {x o:Nat} (hm:(C.turn w id b cs).Mut x o):C.Mut x o∨x=b:=by
 rcases hm with ⟨i,hi,e⟩|h
 ·simp only [Cx.turn,A7] at hi e
  split at e
  ·exact .inr e.symm
  ·exact .inl (.inl ⟨i,hi,e⟩)
 ·exact .inl (.inr h)
theorem Le.turn {C:Cx} {w:World} {id b:Nat} {cs:List AV} (hid:id<C.S.length) (hb:b=C.φ id∨C.w.heap.size≤b) (hos:w.os=C.w.os) (htape:w.tape=C.w.tape) (hout:w.output=C.w.output) (hsize:C.w.heap.size≤w.heap.size)
  (hcell:∀ x o v,C.w.cell? ⟨x,o,none⟩=some v→¬ C.Mut x o→w.cell? ⟨x,o,none⟩=some v) (hkeep:∀ x,x<C.w.heap.size→(∀ o,¬ C.Mut x o)→w.heap[x]?=C.w.heap[x]?)
  (hshape:∀ (b:Nat) (cs:Array Value) (t:TypeId) (fz:Nat × Nat),C.w.heap[b]?=some (Obj.cells cs t fz)→∃ cs':Array Value,w.heap[b]?=some (Obj.cells cs' t fz)∧cs'.size=cs.size):Le C (C.turn w id b cs):=by
 refine ⟨hos,htape,hout,hsize,rfl,Nat.le_succ _,fun x o hx hm=>?_,hcell,hkeep,hshape,fun i e he hn=>?_,fun _ k hk=>⟨k,hk,Nat.le_refl _,fun _=>rfl⟩⟩
 ·rcases V3 hm with h|rfl
  ·exact h
  ·rcases hb with rfl|hb
   ·exact .inl ⟨id,hid,rfl⟩
   ·omega
 ·by_cases h:id=i
  ·subst h
   have:=D5 he
   subst this
   simp at hn
  ·simp only [Cx.turn] at he ⊢
   rw [Aw h] at he
   exact ⟨e,he,rfl,by rw [if_neg (fun x=>h x.symm)]⟩
theorem SR.turn [Globs] {C:Cx} (hsr:SR C) {w:World} {id b:Nat} {cs:List AV} {arr:Array Value} {t:TypeId} (hid:id<C.S.length) (hb:b=C.φ id∨C.w.heap.size≤b) (hle:Le C (C.turn w id b cs)) (harr:w.heap[b]?=some (.cells arr t (0,0)))
  (hblk:∀ i,i<C.S.length→i≠id→w.heap[C.φ i]?=C.w.heap[C.φ i]?) (hv:∃ vs r,arr.toList=vs++r∧VRs C cs vs):SR (C.turn w id b cs):=by
 have hne:∀ i,i<C.S.length→i≠id→C.φ i≠b:=fun i hi h e=>by
  rcases hb with hb|hb
  ·exact h (hsr.ne i id hi hid (by rw [e,hb]))
  ·have:=La hsr hi; omega
 refine ⟨fun i x hx=>?_,fun i j hi hj h=>?_,hsr.tok,fun i j o hi hj h h1 h2=>?_,fun x o hm=>?_,fun x o ha=>Nat.lt_of_lt_of_le (hsr.avlt x o ha) hle.size,fun i o hi h1 h2=>Nat.lt_of_lt_of_le (hsr.tlt i o hi h1 h2) hle.size,Lw hsr hle⟩
 ·by_cases h:id=i
  ·subst h
   have:=D5 hx
   subst this
   obtain ⟨vs,r,hv1,hv2⟩:=hv
   exact ⟨Nat.lt_succ_self _,arr,t,by simp only [Cx.turn,if_true]; exact harr,vs,r,hv1,VRs.mono hle _ _ hv2⟩
  ·have hx':nth C.S i=some x:=by simp only [Cx.turn] at hx; rw [← Aw h]; exact hx
   obtain ⟨h1,a',t',h2,vs,r,hvr,h3⟩:=hsr.ent i x hx'
   refine ⟨Nat.lt_succ_of_lt h1,a',t',?_,vs,r,hvr,VRs.mono hle _ _ h3⟩
   simp only [Cx.turn]
   rw [if_neg (fun e=>h e.symm),hblk i (B5 hx') (fun e=>h e.symm)]; exact h2
 ·simp only [Cx.turn,A7] at hi hj h
  by_cases hi':i=id <;> by_cases hj':j=id
  ·omega
  ·rw [if_pos hi',if_neg hj'] at h
   exact absurd h.symm (hne j hj hj')
  ·rw [if_neg hi',if_pos hj'] at h
   exact absurd h (hne i hi hi')
  ·rw [if_neg hi',if_neg hj'] at h
   exact hsr.ne i j hi hj h
 ·simp only [Cx.turn,A7] at hi h hj h1 h2
  by_cases hi':i=id
  ·rw [if_pos hi'] at h
   rcases hb with rfl|hb
   ·exact hsr.apart id j o hid hj h h1 h2
   ·have:=hsr.tlt j o hj h1 h2; omega
  ·rw [if_neg hi'] at h
   exact hsr.apart i j o hi hj h h1 h2
 ·rcases V3 hm with h|rfl
  ·exact hsr.own x o h
  ·rcases hb with rfl|hb
   ·exact hsr.own _ o (.inl ⟨id,hid,rfl⟩)
   ·intro ha
    have:=hsr.avlt _ o ha; omega
theorem Aa1 [Globs] {C:Cx} (hsr:SR C) {t ty:TypeId} {x y av:AV} {vx vy:Value} {S':List Ent} {n':Nat} (hx:VR C x vx) (hy:VR C y vy) (h:apO P t x y C.S C.n=some (av,S',n')) :
  ∃ v C',(Builtin.append_ #[t,t] ty #[vx,vy]).run P C.w=.ok v C'.w∧Le C C'∧SR C'∧C'.S=S'∧C'.tk=C.tk∧C'.n=n'∧VR C' av v:=by
 unfold apO at h
 split at h
 case h_2=>simp at h
 rename_i sz hT
 split at h
 case h_2=>simp at h
 rename_i m ys hL
 split at h
 case isFalse=>simp at h
 rename_i hm
 obtain ⟨hm0,hmr⟩:=hm
 simp only [roomy,decide_eq_true_eq] at hmr
 obtain ⟨e,i,z,hu,hi,hz,hsz,hpos,hzs,hby⟩:=Qh hT
 obtain ⟨b2,o2,cap2,news,rfl,hn2,hn1,hlie,hone⟩:=X4 hy hL hm0 hpos
 have hncell:∀ (j:Nat) u,news[j]?=some u→C.w.cell? (Addr.add ⟨b2,o2,none⟩ j)=some u:=fun j u hj=>by rw [Dq]; exact (Jh hlie j u hj).1
 unfold apO2 at h
 split at h
 ·-- the first
  simp only [Option.some.injEq,Prod.mk.injEq] at h
  obtain ⟨rfl,rfl,rfl⟩:=h
  simp only [VR] at hx
  obtain ⟨a,len,cap,rfl,hlen,hcap,hC,hE⟩:=hx
  obtain ⟨rfl,hcl⟩:a=none∧cap=len:=hC
  simp only [List.length_nil] at hlen
  subst hlen
  subst hcl
  have hbytes:m*i.bytes≤140737488355328:=by
   have:m*i.bytes≤1048576*1048576:=Nat.mul_le_mul hmr hby
   omega
  have hrun:=run_append_nil (P:=P) C.w t ty e i z hu hi hz ⟨b2,o2,none⟩ m cap2 news (by rw [hsz]; exact hn1) hncell (by omega) (by omega) (by omega)
  generalize hA:(news.toArray++Builtin.zeroCells z.cells (grownCap C.w m 0 e - m))=arr at hrun
  have hge:=grownCap_ge C.w m 0 e
  have hasz:arr.size=grownCap C.w m 0 e*sz:=by
   rw [← hA]
   simp only [Array.size_append,List.size_toArray,size_zeroCells,hzs,hn1]
   rw [Nat.sub_mul]
   have:=Nat.mul_le_mul_right sz hge
   omega
  have hd:Below C.w.heap.size C.w C.w.drew:=(Below.refl _ _).drew
  have hsr1:SR (C.at C.w.drew):=SR.of_below hsr hd
  have hv:∃ vs r,arr.toList=vs++r∧VRs (C.at C.w.drew) ys vs:=⟨news,(Builtin.zeroCells z.cells (grownCap C.w m 0 e - m)).toList,by rw [← hA]; simp,VRs.mono (Le.of_below hd) _ _ hn2⟩
  refine ⟨_,(C.at C.w.drew).more arr e ys,hrun,(Le.of_below hd).trans (Le.more hsr1 _ _ _),SR.moreP hsr1 hv,rfl,rfl,rfl,?_⟩
  simp only [VR]
  refine ⟨C.w.heap.size,_,_,rfl,hge,.inr rfl,Nat.lt_succ_self _,fun e' he' hep=>⟨?_,arr,e,?_,by omega⟩⟩
  ·simp [Cx.more,Cx.at]
  ·exact Bb C.w.drew _
 ·-- the next ones
  rename_i id ep len sz'
  split at h
  case isFalse=>simp at h
  rename_i hh
  obtain ⟨rfl,hl0⟩:=hh
  split at h
  case h_2=>simp at h
  rename_i cs hcs
  split at h
  case isFalse=>simp at h
  rename_i hh
  obtain ⟨hcl,hroom⟩:=hh
  simp only [roomy,decide_eq_true_eq] at hroom
  simp only [Option.some.injEq,Prod.mk.injEq] at h
  obtain ⟨rfl,rfl,rfl⟩:=h
  obtain ⟨en,h1,h2,rfl⟩:=Ds hcs
  simp only [VR] at hx
  obtain ⟨b,a,cap,rfl,hcap,ha,hn,hb⟩:=hx
  obtain rfl:=ha.resolve_left (by omega)
  obtain ⟨rfl,arr,tt,h3,hfit⟩:=hb en h1 h2
  obtain ⟨-,arr',tt',h3',olds,r,hor,ho2⟩:=hsr.ent id en h1
  rw [h3] at h3'
  simp only [Option.some.injEq,Obj.cells.injEq] at h3'
  obtain ⟨rfl,rfl,-⟩:=h3'
  have hidl:=B5 h1
  have hol:=Bk ho2
  have hasz:arr.size=olds.length+r.length:=by rw [← Array.length_toList,hor,List.length_append]
  have hmul:len*sz'+m*sz'=(len+m)*sz':=(Nat.add_mul _ _ _).symm
  have hboth:VRs C (en.cells++ys) (olds++news):=Gq ho2 hn2
  by_cases hplace:len+m≤cap
  ·have hmc:(len+m)*sz'≤cap*sz':=Nat.mul_le_mul_right _ hplace
   have hrun:=Jg (P:=P) C.w t ty e i hu hi (C.φ id) len cap tt arr h3 ⟨b2,o2,none⟩ m cap2 news (by rw [hsz]; exact hn1) hncell hone hplace (by rw [hsz,hn1]; omega)
   rw [hsz] at hrun
   generalize hA:(arr.toList.take (len*sz')++news++arr.toList.drop (len*sz'+news.length)).toArray=arr1 at hrun
   have hsize':arr1.size=arr.size:=by rw [← hA]; simp; omega
   have htk:arr.toList.take (len*sz')=olds:=by rw [hor,List.take_append_of_le_length (by omega),List.take_of_length_le (by omega)]
   have hv:∃ vs r,arr1.toList=vs++r∧VRs C (en.cells++ys) vs:=⟨olds++news,arr.toList.drop (len*sz'+news.length),by rw [← hA,htk],hboth⟩
   have hhb:(C.w.setRow (C.φ id) arr1).heap[C.φ id]?=some (.cells arr1 tt (0,0)):=setRow_heap _ _ _ _ _ _ h3
   have hle:Le C (C.turn (C.w.setRow (C.φ id) arr1) id (C.φ id) (en.cells++ys)):=by
    have hm:∀ o,C.Mut (C.φ id) o:=fun o=>.inl ⟨id,hidl,rfl⟩
    refine Le.turn hidl (.inl rfl) rfl rfl rfl (by simp) (fun x o v hv hn=>?_) (fun x _ hn=>?_) (fun x d t' fz hd=>?_)
    ·have hne:x≠C.φ id:=fun h=>hn (h ▸ hm o)
     have:=setRow_other C.w (C.φ id) x arr1 hne
     simpa [World.cell?,this] using hv
    ·exact setRow_other C.w (C.φ id) x arr1 fun h=>hn 0 (h ▸ hm 0)
    ·by_cases h:x=C.φ id
     ·subst h
      rw [h3] at hd
      simp only [Option.some.injEq,Obj.cells.injEq] at hd
      obtain ⟨rfl,rfl,rfl⟩:=hd
      exact ⟨arr1,hhb,hsize'⟩
     ·exact ⟨d,by rw [setRow_other _ _ _ _ h]; exact hd,rfl⟩
   refine ⟨_,_,hrun,hle,SR.turn hsr hidl (.inl rfl) hle hhb (fun i hi hne=>setRow_other _ _ _ _ fun h=>hne (hsr.ne i id hi hidl h)) hv,rfl,rfl,rfl,?_⟩
   simp only [VR]
   refine ⟨C.φ id,_,_,rfl,hplace,.inr rfl,Nat.lt_succ_self _,fun e' he' hep=>⟨by simp [Cx.turn],arr1,tt,hhb,by omega⟩⟩
  ·have hgrow:cap<len+m:=by omega
   have hbytes:(len+m)*i.bytes≤140737488355328:=by
    have:(len+m)*i.bytes≤1048576*1048576:=Nat.mul_le_mul hroom hby
    omega
   have hcells:∀ (j:Nat) v,olds[j]?=some v→C.w.cell? (Addr.add ⟨C.φ id,0,none⟩ j)=some v:=fun j v hj=>by
    rw [Dq,Nat.zero_add]
    have:arr.toList[j]?=some v:=by rw [hor,List.getElem?_append_left (List.getElem?_eq_some_iff.1 hj).1]; exact hj
    simp [World.cell?,h3]; simpa using this
   have hrun:=run_append_grow (P:=P) C.w t ty e i z hu hi hz ⟨C.φ id,0,none⟩ len cap olds (by rw [hsz]; omega) hcells ⟨b2,o2,none⟩ m cap2 news (by rw [hsz]; exact hn1) hncell hgrow (by omega) (growslice_fits hgrow hbytes)
   generalize hA:(olds.toArray++news.toArray++Builtin.zeroCells z.cells (grownCap C.w (len+m) cap e - (len+m)))=arr1 at hrun
   have hge:=grownCap_ge C.w (len+m) cap e
   have hasz1:arr1.size=grownCap C.w (len+m) cap e*sz':=by
    rw [← hA]
    simp only [Array.size_append,List.size_toArray,size_zeroCells,hzs,hn1]
    rw [Nat.sub_mul]
    have:=Nat.mul_le_mul_right sz' hge
    omega
   have hbel:Below C.w.heap.size C.w (C.w.drew.alloc (.cells arr1 e)):=((Below.refl _ _).drew).alloc (by simp) _
   have hhb:(C.w.drew.alloc (.cells arr1 e)).heap[C.w.heap.size]?=some (.cells arr1 e (0,0)):=Bb C.w.drew _
   have hle:Le C (C.turn (C.w.drew.alloc (.cells arr1 e)) id C.w.heap.size (en.cells++ys)) :=
    Le.turn hidl (.inr (Nat.le_refl _)) hbel.os hbel.tape hbel.output hbel.size (fun x o v hv _=>by rw [Below.cell hbel (E5 hv)]; exact hv) (fun x hx _=>hbel.block x hx) (fun x d t' fz hd=>⟨d,Df hbel hd,rfl⟩)
   have hv:∃ vs r,arr1.toList=vs++r∧VRs C (en.cells++ys) vs:=⟨olds++news,(Builtin.zeroCells z.cells (grownCap C.w (len+m) cap e - (len+m))).toList,by rw [← hA]; simp,hboth⟩
   refine ⟨_,_,hrun,hle,SR.turn hsr hidl (.inr (Nat.le_refl _)) hle hhb (fun i hi _=>hbel.block _ (La hsr hi)) hv,rfl,rfl,rfl,?_⟩
   simp only [VR]
   refine ⟨C.w.heap.size,_,_,rfl,hge,.inr rfl,Nat.lt_succ_self _,fun e' he' hep=>⟨by simp [Cx.turn],arr1,e,hhb,by omega⟩⟩
 ·simp at h
end
end Go.Proofs.YtcjffhadclngmaaGreat
namespace Go.Proofs.YtcjffhadclngmaaGreat
open Go.RowKit
section
variable {P:Program}
theorem Le.take {C:Cx} (k:Nat):Le C { C with S:=C.S.take k }:=by
 refine ⟨rfl,rfl,rfl,Nat.le_refl _,rfl,Nat.le_refl _,?_,fun _ _ _ h _=>h,fun _ _ _=>rfl,fun _ cs _ _ h=>⟨cs,h,rfl⟩,?_,fun _ q h=>⟨q,h,Nat.le_refl _,fun _=>rfl⟩⟩
 ·rintro b o - (⟨i,hi,h⟩|h)
  ·exact .inl ⟨i,by simp at hi; omega,h⟩
  ·exact .inr h
 ·intro i e h _
  rw [Az,List.getElem?_take] at h
  split at h
  ·exact ⟨e,by rw [Az]; exact h,rfl,rfl⟩
  ·simp at h
theorem SR.take [Globs] {C:Cx} (hs:SR C) (k:Nat):SR { C with S:=C.S.take k }:=by
 have hle:=Le.take (C:=C) k
 refine ⟨fun i e h=>?_,fun i j hi hj h=>hs.ne i j (by simp at hi; omega) (by simp at hj; omega) h,hs.tok,fun i j o hi=>hs.apart i j o (by simp at hi; omega),?_,hs.avlt,hs.tlt,Lw hs hle⟩
 ·rw [Az,List.getElem?_take] at h
  split at h
  ·obtain ⟨h1,cs,t,h2,vs,r,hvr,h3⟩:=hs.ent i e (by rw [Az]; exact h)
   exact ⟨h1,cs,t,h2,vs,r,hvr,VRs.mono hle _ _ h3⟩
  ·simp at h
 ·rintro b o (⟨i,hi,h⟩|h)
  ·exact hs.own b o (.inl ⟨i,by simp at hi; omega,h⟩)
  ·exact hs.own b o (.inr h)
def Jj [Globs] (P:Program) (call:Dh):Prop :=
 ∀ f args S tk n r S' tk' n', call f args S tk n = some (r, S', tk', n') → (∃ fn, P.funcs[f]? = some fn ∧ (fn.name == "runtime.NumGoroutine") = false ∧ fn.body.isNone = false) ∧
  ∀ (C:Cx) (vs:Array Value),C.S=S→C.tk=tk→C.n=n→SR C→VRs C args vs.toList →
   Calls P f vs C.w fun e w'=>∃ v C',e=.returned v∧C'.w=w'∧Le C C'∧SR C'∧C'.S=S'∧C'.tk=tk'∧C'.n=n'∧VR C' r v
theorem Gj {o:Oper} {a:Act} {w w':World} {v:Value} {next:Act→World→Prop} {Q:Exit→Act→World→Prop} (h:(execOp a.eval o).run P w=.ok (.value v) w') (hn:next (a.put o.dst v) w'):o.wp P a w next Q:=by
 unfold Oper.wp; rw [h]; exact hn
theorem Gx [Globs] {call:Dh} (hc:Jj P call) {C:Cx} {st st':St} {a:Act} {o:Oper} {av:AV} (hr:Rel C st a) (h:evO P call o st=some (av,st')) {next:Act→World→Prop} {Q:Exit→Act→World→Prop}
  (hn:∀ v C',Le C C'→SR C'→C'.S=st'.S→C'.tk=st'.tk→C'.n=st'.n→VR C' av v→next (a.put o.dst v) C'.w):o.wp P a C.w next Q∧st'.T=st.T:=by
 have hρ:=W7 hr.tmps
 have quiet:∀ av',evQ P o (opv st.T)=some av'→(av',st)=(av,st')→o.wp P a C.w next Q∧st'.T=st.T:=by
  intro av' hq e
  simp only [Prod.mk.injEq] at e
  obtain ⟨rfl,rfl⟩:=e
  obtain ⟨v,w',h1,h2,h3⟩:=Aav hr.sr hρ hq
  exact ⟨Gj h1 (hn v (C.at w') (Le.of_below h2) (SR.of_below hr.sr h2) hr.S hr.tk hr.n h3),rfl⟩
 unfold evO at h
 split at h
 ·rename_i t x e
  simp only [Option.map_eq_some_iff,Prod.mk.injEq] at h
  obtain ⟨v,h,rfl,rfl⟩:=h
  rw [← hr.S] at h
  obtain ⟨u,h1,h2⟩:=R5 hr.sr (hρ x) h
  exact ⟨Gj (v:=u) (w':=C.w) (by simp [execOp,e,h1]) (hn u C (Le.refl C) hr.sr hr.S hr.tk hr.n h2),rfl⟩
 ·rename_i t x y e
  simp only [Option.map_eq_some_iff,Prod.mk.injEq] at h
  obtain ⟨S',h,rfl,rfl⟩:=h
  rw [← hr.S] at h
  obtain ⟨C',h1,h2,h3,h4,h5,h6⟩:=Zh hr.sr (hρ x) (hρ y) h
  refine ⟨?_,rfl⟩
  unfold Oper.wp
  have:(execOp a.eval o).run P C.w=.ok .skip C'.w:=by simp [execOp,e,h1]
  rw [this]
  exact hn undef C' h2 h3 h4 (h5.trans hr.tk) (h6.trans hr.n) (by simp only [VR])
 ·rename_i t e
  simp only [Option.map_eq_some_iff,Prod.mk.injEq] at h
  obtain ⟨cs,h,rfl,rfl⟩:=h
  obtain ⟨zv,h1,rfl⟩:=Hu (w:=C.w) h
  refine ⟨Gj (v:=.pointer (some ⟨C.w.heap.size,0,none⟩)) (w':=C.w.alloc (.cells zv.cells t)) ?_ ?_,rfl⟩
  ·simp only [execOp,e,Instr.alloc,Sem.run_bind,h1,Result.andThen_ok,newVar,G4,Sem.run_pure]
  ·have:=hn (.pointer (some ⟨C.w.heap.size,0,none⟩)) (C.more zv.cells t (zv.cells.toList.map cst1)) (Le.more hr.sr _ _ _) (SR.more hr.sr (Hj _)) (by simp [Cx.more,hr.S,hr.n]) hr.tk (by simp [Cx.more,hr.n]) (by rw [← hr.S,← hr.n]; exact Adn)
   exact this
 ·rename_i t x e
  simp only [Option.map_eq_some_iff,Prod.mk.injEq] at h
  obtain ⟨cs,h,rfl,rfl⟩:=h
  have hv:=Ge h (hρ x)
  refine ⟨Gj (v:=.pointer (some ⟨C.w.heap.size,0,none⟩)) (w':=C.w.alloc (.cells (a.eval x).cells t)) ?_ ?_,rfl⟩
  ·simp only [execOp,e,Instr.box,Sem.run_bind,Result.andThen_ok,newVar,G4,Sem.run_pure]
  ·have:=hn (.pointer (some ⟨C.w.heap.size,0,none⟩)) (C.more (a.eval x).cells t cs) (Le.more hr.sr _ _ _) (SR.more hr.sr hv) (by simp [Cx.more,hr.S,hr.n]) hr.tk (by simp [Cx.more,hr.n]) (by rw [← hr.S,← hr.n]; exact Adn)
   exact this
 ·rename_i t l c e
  simp only [Option.map_eq_some_iff,Prod.exists] at h
  obtain ⟨l',sz,cs,h,hh⟩:=h
  obtain ⟨el,m,arr,r1,r2,r3,r4,r5⟩:=Z9 (hρ l) (hρ c) h
  have hrun:(execOp a.eval o).run P C.w=.ok (.value (.slice (some ⟨C.w.heap.size,0,none⟩) l' m)) (C.w.alloc (.cells arr el)):=by simp [execOp,e,r1]
  have hb:Below C.w.heap.size C.w (C.w.alloc (.cells arr el)):=(Below.refl _ _).alloc (Nat.le_refl _) _
  have harr:cs.length=arr.size:=by rw [← r2]; simp
  split at hh
  ·rename_i hgrow
   simp only [Prod.mk.injEq] at hh
   obtain ⟨rfl,rfl⟩:=hh
   have hlm:l'*sz≤m*sz:=Nat.mul_le_mul_right _ r3
   have hok:Bx C.tk .tight sz=true:=rfl
   have hn':Ko C .tight C.w.heap.size (l'*sz) (m*sz):=.inr (.inl (Nat.le_refl _))
   have hle:Le C (C.tok (C.w.alloc (.cells arr el)) .tight (C.w.heap.size,l'*sz,m*sz)) :=
    Le.of_tok hok hn' rfl rfl rfl hb.size (fun x o v hv _=>by rw [Below.cell hb (E5 hv)]; exact hv) (fun x hlt _=>hb.block x hlt) (fun b d t fz hd=>⟨d,Df hb hd,rfl⟩)
   have hsr:=SR.of_tok hr.sr hok hn' (fun _=>(Array.getElem?_eq_some_iff.1 (Bb C.w (.cells arr el))).1) hle (fun i hi=>hb.block _ (La hr.sr hi))
   have hcap:CapR (C.tok (C.w.alloc (.cells arr el)) .tight (C.w.heap.size,l'*sz,m*sz)) (.tok C.tk.length 0 sz) (some ⟨C.w.heap.size,0,none⟩) l' m:=H4 (c:=.tight) hok (.inr ⟨arr,el,rfl,rfl,Bb _ _,by omega⟩)
   have hv:VR (C.tok (C.w.alloc (.cells arr el)) .tight (C.w.heap.size,l'*sz,m*sz)) (mkV (len0 l) st.tk.length l' sz cs) (.slice (some ⟨C.w.heap.size,0,none⟩) l' m):=by
    unfold mkV
    split
    ·rename_i hl0
     have hl':l'=0:=by
      cases l with
      | const v=>cases v with
       | int k z =>
        unfold len0 at hl0
        split at hl0
        ·rename_i k' he
         simp only [Operand.const.injEq,Value.int.injEq] at he
         obtain ⟨rfl,rfl⟩:=he
         simp [opv,cst,cst1,intN] at r5; exact r5.symm
        ·simp at hl0
       | _=>simp [len0] at hl0
      | _=>simp [len0] at hl0
     subst hl'
     simp only [VR]
     refine ⟨_,0,m,rfl,rfl,Nat.zero_le _,?_,.inl trivial⟩
     rw [← hr.tk]
     exact hcap
    ·unfold Mj
     split
     ·rename_i es hes
      split
      ·rename_i hp
       obtain ⟨g1,g2,g3,g4⟩:=Ka hes
       simp only [tokA,VR]
       refine ⟨_,l',m,rfl,by simp [g1],r3,by rw [← hr.tk]; exact hcap,.inr ⟨C.w.heap.size,0,sz,rfl,?_⟩⟩
       obtain ⟨e1,e2,e3,e4,e5,e6,e7,e8,e9,e10,e11⟩:=Kp (w:=C.w.alloc (.cells arr el)) (x:=(C.w.heap.size,l'*sz,m*sz)) hok
       have hflat:(es.map (·.map w1)).flatten=((arr.toList.map cst1).take (l'*sz)).map w1:=by rw [r2,← g3,List.map_flatten]
       have hvs:VRs C ((arr.toList.map cst1).take (l'*sz)) (arr.toList.take (l'*sz)):=(Jb (Hj _) (Ke (by rw [r2]; exact g4))).1
       refine Gk (l:=arr.toList.take (l'*sz)) (fun e he=>?_) ?_ (Ji fun j v hj=>?_)
       ·rw [List.mem_map] at he
        obtain ⟨e',he',rfl⟩:=he
        rw [List.length_map]; exact g2 e' he'
       ·rw [hflat]
        refine PRs.stays hle.stays _ _ (Hz (C:=C) ?_ (P3 hvs))
        rw [r2,← g3,List.all_eq_true]
        intro c hc
        rw [List.mem_map] at hc
        obtain ⟨c',hc',rfl⟩:=hc
        rw [List.mem_flatten] at hc'
        obtain ⟨r,hr,hc'⟩:=hc'
        exact List.all_eq_true.1 (List.all_eq_true.1 hp r hr) c' hc'
       ·rw [Nat.zero_add]
        have hjl:j<l'*sz:=by
         have:=(List.getElem?_eq_some_iff.1 hj).1
         simp at this; omega
        rw [List.getElem?_take_of_lt hjl] at hj
        constructor
        ·rw [e1]
         simp only [World.cell?,Bb]
         simpa using hj
        ·rintro (hav|hm')
         ·rw [e2] at hav
          have:=hr.sr.avlt _ _ hav; omega
         ·rcases M4 hok hn' hm' with h|⟨-,h1,h2,-⟩
          ·exact hr.sr.fresh (Nat.le_refl _) (.inr h)
          ·omega
      ·simp only [tokA,VR]
     ·simp only [tokA,VR]
   exact ⟨Gj hrun (hn _ _ hle hsr hr.S (by show C.tk++[0]=_; rw [hr.tk]) hr.n hv),rfl⟩
  ·simp only [Prod.mk.injEq] at hh
   obtain ⟨rfl,rfl⟩:=hh
   subst r2
   refine ⟨Gj hrun (hn _ (C.more arr el (arr.toList.map cst1)) (Le.more hr.sr _ _ _) (SR.more hr.sr (Hj _)) (by simp [Cx.more,hr.S,hr.n]) hr.tk (by simp [Cx.more,hr.n]) ?_),rfl⟩
   simp only [VR]
   refine ⟨C.w.heap.size,some ⟨C.w.heap.size,0,none⟩,m,rfl,r3,.inr rfl,by rw [← hr.n]; exact Nat.lt_succ_self _,fun e' he' hep=>⟨?_,arr,el,Bb _ _,?_⟩⟩
   ·rw [← hr.S]
    simp [Cx.more]
   ·simp only [List.length_map,Array.length_toList] at r4
    omega
 ·rename_i c e
  split at h
  ·rename_i hb
   split at h
   ·rename_i x y t t' hxy ht
    split at h
    ·split at h
     ·rename_i htt
      subst htt
      simp only [Option.map_eq_some_iff,Prod.mk.injEq,Prod.exists] at h
      obtain ⟨v,S',n',h,rfl,rfl⟩:=h
      have hargs:=Jz hr.tmps c.args.toList
      rw [hxy] at hargs
      obtain ⟨ux,uy,hu⟩:=Rn hargs
      rw [hu] at hargs
      simp only [VRs,and_true] at hargs
      rw [← hr.S,← hr.n] at h
      obtain ⟨w,C',h1,h2,h3,h4,h5,h6,h7⟩:=Aa1 (ty:=o.type) hr.sr hargs.1 hargs.2 h
      have ha:c.args.map a.eval=#[ux,uy]:=by rw [← Array.toList_inj]; simp [hu]
      have hat:c.argTypes=#[t,t]:=by rw [← Array.toList_inj]; simp [ht]
      exact ⟨Gj (v:=w) (w':=C'.w) (by simp [execOp,e,resolve,hb,ha,invoke,builtin,hat,h1]) (hn w C' h2 h3 h4 (h5.trans hr.tk) h6 h7),rfl⟩
     ·simp at h
    split at h
    ·rename_i htt
     subst htt
     simp only [Option.map_eq_some_iff,Prod.mk.injEq,Prod.exists] at h
     obtain ⟨v,tk',h,rfl,rfl⟩:=h
     have hargs:=Jz hr.tmps c.args.toList
     rw [hxy] at hargs
     obtain ⟨ux,uy,hu⟩:∃ ux uy,c.args.toList.map a.eval=[ux,uy]:=by
      have:=Bk hargs
      match hl:c.args.toList.map a.eval with
      | [p,q]=>exact ⟨p,q,rfl⟩
      | []=>rw [hl] at this; simp at this
      | [_]=>rw [hl] at this; simp at this
      | _ :: _ :: _ :: _=>rw [hl] at this; simp at this
     rw [hu] at hargs
     simp only [VRs,and_true] at hargs
     rw [← hr.tk,← hr.S] at h
     obtain ⟨w,C',h1,h2,h3,h4,h5,h6,h7⟩:=Xt (ty:=o.type) hr.sr hargs.1 hargs.2 h
     have ha:c.args.map a.eval=#[ux,uy]:=by rw [← Array.toList_inj]; simp [hu]
     have hat:c.argTypes=#[t,t]:=by rw [← Array.toList_inj]; simp [ht]
     exact ⟨Gj (v:=w) (w':=C'.w) (by simp [execOp,e,resolve,hb,ha,invoke,builtin,hat,h1]) (hn w C' h2 h3 (h4.trans hr.S) h5 (h6.trans hr.n) h7),rfl⟩
    ·simp only [Option.map_eq_some_iff,Prod.mk.injEq,Prod.exists] at h
     obtain ⟨v,tk',h,rfl,rfl⟩:=h
     have hargs:=Jz hr.tmps c.args.toList
     rw [hxy] at hargs
     obtain ⟨ux,uy,hu⟩:=Rn hargs
     rw [hu] at hargs
     simp only [VRs,and_true] at hargs
     rw [← hr.tk] at h
     obtain ⟨w,C',h1,h2,h3,h4,h5,h6,h7⟩:=Zk (ty:=o.type) hr.sr hargs.1 hargs.2 h
     have ha:c.args.map a.eval=#[ux,uy]:=by rw [← Array.toList_inj]; simp [hu]
     have hat:c.argTypes=#[t,t']:=by rw [← Array.toList_inj]; simp [ht]
     exact ⟨Gj (v:=w) (w':=C'.w) (by simp [execOp,e,resolve,hb,ha,invoke,builtin,hat,h1]) (hn w C' h2 h3 (h4.trans hr.S) h5 (h6.trans hr.n) h7),rfl⟩
   ·simp at h
  ·rename_i hb
   split at h
   ·rename_i x y t t' hxy ht
    simp only [Option.map_eq_some_iff,Prod.mk.injEq,Prod.exists] at h
    obtain ⟨m,S',h,rfl,rfl⟩:=h
    have hargs:=Jz hr.tmps c.args.toList
    rw [hxy] at hargs
    obtain ⟨ux,uy,hu⟩:=Rn hargs
    rw [hu] at hargs
    simp only [VRs,and_true] at hargs
    rw [← hr.S] at h
    obtain ⟨C',h1,h2,h3,h4,h5,h6⟩:=Aag (ty:=o.type) (t':=t') hr.sr hargs.1 hargs.2 h
    have ha:c.args.map a.eval=#[ux,uy]:=by rw [← Array.toList_inj]; simp [hu]
    have hat:c.argTypes=#[t,t']:=by rw [← Array.toList_inj]; simp [ht]
    exact ⟨Gj (v:=.int .i64 (m:Int)) (w':=C'.w) (by simp [execOp,e,resolve,hb,ha,invoke,builtin,hat,h1]) (hn _ C' h2 h3 h4 (h5.trans hr.tk) (h6.trans hr.n) (by simp only [VR])),rfl⟩
   ·simp at h
  ·simp only [Option.map_eq_some_iff] at h
   obtain ⟨v,h,hh⟩:=h
   exact quiet v h hh
  ·split at h
   ·rename_i f args hca
    simp only [Option.map_eq_some_iff,Prod.mk.injEq,Prod.exists] at h
    obtain ⟨r,S',tk',n',h,rfl,rfl⟩:=h
    refine ⟨?_,rfl⟩
    unfold El at hca
    split at hca
    ·rename_i x m hx
     split at hca
     ·rename_i ti vi hfx
      simp only [Option.map_eq_some_iff,Prod.mk.injEq] at hca
      obtain ⟨f',hm,rfl,rfl⟩:=hca
      have hfv:=hρ x
      rw [hfx] at hfv
      simp only [VR] at hfv
      obtain ⟨u,hfv,hu⟩:=hfv
      obtain ⟨⟨fn,g1,g2,g3⟩,hcall⟩:=hc _ _ _ _ _ _ _ _ _ h
      have hargs:VRs C (vi :: c.args.toList.map (opv st.T)) (u :: c.args.toList.map a.eval):=by simp only [VRs]; exact ⟨hu,Jz hr.tmps c.args.toList⟩
      have hC:=hcall C (#[u]++c.args.map a.eval) hr.S hr.tk hr.n hr.sr (by simpa using hargs)
      have hrun:(execOp a.eval o).run P C.w=.ok (.enter f' (#[u]++c.args.map a.eval)) C.w:=by
       have hn1 : ¬ fn.name = "runtime.NumGoroutine" := by simpa using g2
       have hn3:¬ fn.body=none:=by intro hh; rw [hh] at g3; simp at g3
       have hmr:=Yg (P:=P) (w:=C.w) (u:=u) hm
       have hz0:(#[Value.iface ti u]++c.args.map a.eval)[0]?=some (.iface ti u):=by simp [Array.getElem?_append]
       have hz1:(#[Value.iface ti u]++c.args.map a.eval).extract 1 (#[Value.iface ti u]++c.args.map a.eval).size=c.args.map a.eval:=by
        apply Array.ext'; simp [List.take_of_length_le]
       simp only [execOp,e,resolve,hx,hfv,invoke,Sem.run_bind,Sem.run_pure,Result.andThen_ok,hz0,hz1,callMethod]
       simp [callFunc,hmr,g1,hn1,hn3]
      unfold Oper.wp
      rw [hrun]
      refine Calls.mono hC ?_
      rintro e' w' ⟨v,C',rfl,rfl,k1,k2,k3,k4,k5,k6⟩
      exact hn v C' k1 k2 k3 k4 k5 k6
     ·simp at hca
    ·rename_i x hx
     split at hca
     ·rename_i f' caps hfx
      simp only [Option.some.injEq,Prod.mk.injEq] at hca
      obtain ⟨rfl,rfl⟩:=hca
      have hfv:=hρ x
      rw [hfx] at hfv
      simp only [VR] at hfv
      obtain ⟨us,hfv,hcaps⟩:=hfv
      obtain ⟨⟨fn,g1,g2,g3⟩,hcall⟩:=hc _ _ _ _ _ _ _ _ _ h
      have hargs:=Gq (Jz hr.tmps c.args.toList) hcaps
      have hC:=hcall C (c.args.map a.eval++us) hr.S hr.tk hr.n hr.sr (by simpa using hargs)
      have hrun:(execOp a.eval o).run P C.w=.ok (.enter f' (c.args.map a.eval++us)) C.w:=by
       have hn1 : ¬ fn.name = "runtime.NumGoroutine" := by simpa using g2
       have hn3:¬ fn.body=none:=by intro hh; rw [hh] at g3; simp at g3
       simp [execOp,e,resolve,hx,hfv,Deferred.ofValue,invoke,callFunc,g1,hn1,hn3]
      unfold Oper.wp
      rw [hrun]
      refine Calls.mono hC ?_
      rintro e' w' ⟨v,C',rfl,rfl,k1,k2,k3,k4,k5,k6⟩
      exact hn v C' k1 k2 k3 k4 k5 k6
     ·rename_i f' caps hfx
      simp only [Option.some.injEq,Prod.mk.injEq] at hca
      obtain ⟨rfl,rfl⟩:=hca
      have hfv:=hρ x
      rw [hfx] at hfv
      simp only [VR] at hfv
      obtain ⟨us,hfv,hcaps⟩:=hfv
      obtain ⟨⟨fn,g1,g2,g3⟩,hcall⟩:=hc _ _ _ _ _ _ _ _ _ h
      have hargs:=Gq hcaps (Jz hr.tmps c.args.toList)
      have hC:=hcall C (us++c.args.map a.eval) hr.S hr.tk hr.n hr.sr (by simpa using hargs)
      have hrun:(execOp a.eval o).run P C.w=.ok (.enter f' (us++c.args.map a.eval)) C.w:=by
       have hn1 : ¬ fn.name = "runtime.NumGoroutine" := by simpa using g2
       have hn3:¬ fn.body=none:=by intro hh; rw [hh] at g3; simp at g3
       simp [execOp,e,resolve,hx,hfv,Deferred.ofValue,invoke,callFunc,g1,hn1,hn3]
      unfold Oper.wp
      rw [hrun]
      refine Calls.mono hC ?_
      rintro e' w' ⟨v,C',rfl,rfl,k1,k2,k3,k4,k5,k6⟩
      exact hn v C' k1 k2 k3 k4 k5 k6
     ·simp at hca
    ·simp at hca
   ·simp at h
 ·simp only [Option.map_eq_some_iff] at h
  obtain ⟨v,h,hh⟩:=h
  exact quiet v h hh
theorem Ha {C:Cx} {T:List AV} {a:Act} {ops:Array Oper} {o:Oper} {b:Bool} (ht:VRs C T a.tmps.toList) (h:Hg ops.toList T o=some b):Region.wanted o (yielded ops a.tmps)=b:=by
 unfold Hg at h
 unfold Region.wanted
 split at h
 ·rename_i hg; rw [hg]; simpa using h
 ·rename_i g want hg
  rw [hg]
  simp only
  split at h
  ·simp at h
  ·rename_i d hd
   have hd':(ops[g]?).bind (·.dst)=some d:=by rw [Az] at hd; simpa using hd
   unfold yielded
   rw [hd']
   simp only [Option.bind_some]
   by_cases hlt:d<T.length
   ·obtain ⟨v,h1,h2⟩:=Pp ht (Aac hlt)
    have h1':a.tmps[d]?=some v:=by simpa using h1
    rw [h1']
    split at h
    ·rename_i x hx
     rw [hx] at h2; simp only [VR] at h2; subst h2
     simpa using h
    ·rename_i x hx
     rw [hx] at h2; simp only [VR] at h2; subst h2
     simpa using h
    ·simp at h
   ·rw [Lg (Nat.le_of_not_lt hlt)] at h
    simp at h
theorem Rel.put [Globs] {C C':Cx} {st st':St} {a:Act} {d:Option Tmp} {v:Value} {av:AV} (hr:Rel C st a) (hle:Le C C') (hs:SR C') (h1:C'.S=st'.S) (h2:C'.tk=st'.tk) (h3:C'.n=st'.n) (hv:VR C' av v) (hT:st'.T=st.T) :
  Rel C' { st' with T:=putT st'.T d av } (a.put d v) :=
 ⟨h1,h2,h3,Qg (by rw [hT]; exact VRs.mono hle _ _ hr.tmps) hv,by cases d <;> exact hr.defers,hs⟩
theorem L4 [Globs] {call:Dh} (hc:Jj P call) {ops:Array Oper} {Q:Exit→Act→World→Prop} : ∀ {l:List Oper} {C:Cx} {st st':St} {a:Act},Rel C st a→evOs P call ops.toList l st=some st' →
  (∀ a' C',Le C C'→Rel C' st' a'→Q .normal a' C'.w)→wpList P ops Q l a C.w
 | [],C,st,st',a,hr,h,hQ=>by
  simp only [evOs,Option.some.injEq] at h; subst h
  exact hQ a C (Le.refl C) hr
 | o :: l,C,st,st',a,hr,h,hQ=>by
  simp only [evOs] at h
  split at h
  ·simp at h
  ·rename_i hw
   have:=Ha hr.tmps hw
   unfold wpList
   rw [if_neg (by rw [this]; simp)]
   exact L4 hc (hr.put (Le.refl C) hr.sr hr.S hr.tk hr.n (by simp only [VR]) rfl) h hQ
  ·rename_i hw
   have:=Ha hr.tmps hw
   unfold wpList
   rw [if_pos this]
   split at h
   ·rename_i v st1 ho
    split at h
    case isFalse=>simp at h
    have hT:st1.T=st.T:=(Gx (next:=fun _ _=>True) (Q:=Q) hc hr ho (fun _ _ _ _ _ _ _ _=>trivial)).2
    refine .inl (Gx hc hr ho fun u C' k1 k2 k3 k4 k5 k6=>?_).1
    exact L4 hc (hr.put k1 k2 k3 k4 k5 k6 hT) h fun a' C'' k hr'=>hQ a' C'' (k1.trans k) hr'
   ·simp at h
theorem U5 {c:Code} {Q:Exit→Act→World→Prop} (J:Nat→Act→World→Prop) (round:∀ n a w,J n a w→c.wp P (Exit.then (fun a' w'=>∃ m,m<n∧J m a' w') Q) a w) {n:Nat} {a:Act} {w:World} (h0:J n a w):(Code.loop c).wp P Q a w:=by
 intro b k cs
 have key:∀ n a w,J n a w→∃ e a' w',Q e a' w'∧Arrives P (lone (b.at a (.code c :: .inLoop c :: k)) cs w) b k cs e a' w':=by
  intro n
  induction n using Nat.strongRecOn with
  | _ n ih =>
   intro a w hJ
   obtain ⟨e,a₁,w₁,hq,harr⟩:=round n a w hJ b (.inLoop c :: k) cs
   cases e with
   | normal =>
    obtain ⟨m,hlt,hJ₁⟩:=hq
    obtain ⟨e₂,a₂,w₂,hq₂,harr₂⟩:=ih m hlt a₁ w₁ hJ₁
    exact ⟨e₂,a₂,w₂,hq₂,.of_steps (Steps.trans harr (.one step_inLoop)) harr₂⟩
   | exit id=>exact ⟨_,a₁,w₁,hq,.pass (x:=.inLoop c) rfl (fun _ _=>.inl (by simp)) harr⟩
   | goto l=>exact ⟨_,a₁,w₁,hq,.pass (x:=.inLoop c) rfl (fun _ _=>.inl (by simp)) harr⟩
   | ret=>exact ⟨_,a₁,w₁,hq,.pass (x:=.inLoop c) rfl (fun _ _=>.inl (by simp)) harr⟩
   | panic ch=>exact ⟨_,a₁,w₁,hq,.pass (x:=.inLoop c) rfl (fun _ _=>.inl (by simp)) harr⟩
   | outgrown=>exact ⟨_,a₁,w₁,hq,.pass (x:=.inLoop c) rfl (fun _ _=>.inl (by simp)) harr⟩
 obtain ⟨e,a',w',hq,harr⟩:=key n a w h0
 exact ⟨e,a',w',hq,.of_steps (.one step_loop) harr⟩
def exOf:Ex→Exit
 | .normal=>.normal
 | .exit id=>.exit id
 | .ret=>.ret
def Agv [Globs] (call:Dh):Prop:=∀ f args S tk n r S' tk' n',call f args S tk n=some (r,S',tk',n')→S'=S∧tk'=tk∧(shF f=true∨(n'=n∧∀ S2 tk2 n2,call f args S2 tk2 n2=some (r,S2,tk2,n2)))
def Ns [Globs] (call:Dh):Prop:=∀ f args S tk n r S' tk' n',call f args S tk n=some (r,S',tk',n')→(xF f && Globs.dr)=true∨(S'=S∧tk'=tk∧(shF f=true∨(n'=n∧∀ S2 tk2 n2,call f args S2 tk2 n2=some (r,S2,tk2,n2))))
def extC (P:Program) [Ext P]:Dh:=fun f args S tk n=>if Ext.on P f=true then Ext.call P f args S tk n else none
class Xv [Globs] (P:Program) [Ext P]:Prop where
 ok:Jj P (extC P)
 indep:∀ M,@Agv (gM M) (@Ei (gM M) P _ (extC P))
theorem Qc [Globs] [Ext P] {M:Md} {call:Dh} (h:Jj P call):Jj P (@Ei (gM M) P _ call):=by
 intro f args S tk n r S' tk' n' hh
 unfold Ei at hh
 split at hh
 ·exact h f args S tk n r S' tk' n' hh
 ·simp at hh
def Afa (P:Program) (real ops:Array Oper):Option (Nat × Oper)→Prop
 | none=>real=ops
 | some (p,al)=>real.size=ops.size∧(∀ i:Nat,i≠p→real[i]?=ops[i]?)∧(∀ (i:Nat) (o:Oper),ops[i]?=some o→isMk o=false)∧real[p]?=some al∧al.guard=none∧al.dst.isSome=true∧(∃ t cs,al.op=.alloc t∧An P t=some cs)∧ops[p]?=some { al with op:=.move (.global 0) }
def M2 (P:Program) (lt:Option (Nat × Oper)) (st:St):St :=
 match lt with
 | none=>st
 | some (_,al)=>match al.op with
  | .alloc t=>{ st with T:=putT st.T al.dst (.ref st.S.length st.n 0),S:=st.S++[⟨st.n,(An P t).getD []⟩],n:=st.n+1 }
  | _=>st
def V6 [Globs] (P:Program) (ok:St→List Oper→Bool):Prop:=P.follows .mixedOrders=true ∧
 ∀ (call:Dh),Jj P call→∀ (real ops:Array Oper) (lt:Option (Nat × Oper)),Afa P real ops lt→@Ns (gM (mdOf ops.toList)) call→∀ (C:Cx) (st st':St) (a:Act) (Q:Exit→Act→World→Prop),ok st ops.toList=true→Rel C st a→@evOs (gM (mdOf ops.toList)) P call ops.toList ops.toList st=some st' →
  (∀ a' C',Le C C'→Rel C' (M2 P lt st') a'→Q .normal a' C'.w)→wpAny P .any real Q real.size (Array.replicate real.size false) a { C.w with drawn:=C.w.drawn+1 }
theorem K0:∀ {L:List Oper} {p:Nat} {al:Oper} {x:Oper},Kq L=some (p,al)→Abw al=true∧L[p]?=some al∧(openL (L++[x])).length=L.length∧(openL (L++[x]))[p]?=some { al with op:=.move (.global 0) }∧(∀ i,i≠p→(openL (L++[x]))[i]?=L[i]?)∧∀ o ∈ openL (L++[x]),isMk o=false
 | [],_,_,_,h=>by simp [Kq] at h
 | o :: l,p,al,x,h=>by
  have hop:∀ (l:List Oper),openL (o :: l++[x])=Pk o :: openL (l++[x]):=fun l=>by cases l <;> rfl
  have keep:∀ (l:List Oper),l.any isMk=false→openL (l++[x])=l:=by
   intro l
   induction l with
   | nil=>intro _; rfl
   | cons y l ih =>
    intro hl
    simp only [List.any_cons,Bool.or_eq_false_iff] at hl
    have e:openL (y :: l++[x])=Pk y :: openL (l++[x]):=by cases l <;> rfl
    rw [e,ih hl.2]
    unfold Pk
    rw [if_neg (by rw [hl.1]; simp)]
  unfold Kq at h
  rw [hop]
  split at h
  ·rename_i hmk
   split at h
   ·rename_i hc
    simp only [Bool.and_eq_true,Bool.not_eq_true'] at hc
    simp only [Option.some.injEq,Prod.mk.injEq] at h
    obtain ⟨rfl,rfl⟩:=h
    rw [keep l hc.2]
    refine ⟨hc.1,rfl,rfl,?_,fun i hi=>?_,fun y hy=>?_⟩
    ·unfold Pk; rw [if_pos hmk]; rfl
    ·cases i with
     | zero=>exact absurd rfl hi
     | succ i=>rfl
    ·rcases List.mem_cons.1 hy with rfl|hy
     ·unfold Pk; rw [if_pos hmk]; rfl
     ·simpa using List.any_eq_false.1 hc.2 y hy
   ·cases h
  ·rename_i hmk
   simp only [Option.map_eq_some_iff,Prod.mk.injEq,Prod.exists] at h
   obtain ⟨p',al',h,rfl,rfl⟩:=h
   obtain ⟨a1,a2,a3,a4,a5,a6⟩:=K0 (x:=x) h
   have e:Pk o=o:=by unfold Pk; rw [if_neg hmk]
   rw [e]
   refine ⟨a1,a2,by simp [a3],a4,fun i hi=>?_,fun y hy=>?_⟩
   ·cases i with
    | zero=>rfl
    | succ i=>exact a5 i (by omega)
   ·rcases List.mem_cons.1 hy with rfl|hy
    ·simpa using hmk
    ·exact a6 y hy
theorem Pz [Globs] {L:List Oper} {p:Nat} {al o:Oper} (h:Lp L=some (p,al,o)):∃ a,L=a++[o]∧Ael a o=true∧isSt o=true∧Kq a=some (p,al):=by
 unfold Lp at h
 split at h
 ·rename_i o' ho
  split at h
  ·rename_i ht
   simp only [Bool.and_eq_true] at ht
   simp only [Option.map_eq_some_iff,Prod.mk.injEq,Prod.exists] at h
   obtain ⟨p',al',h,rfl,rfl,rfl⟩:=h
   exact ⟨_,by rw [List.getLast?_eq_some_iff] at ho; obtain ⟨l,rfl⟩:=ho; simp,ht.1.2,ht.1.1,h⟩
  ·cases h
 ·cases h
theorem Ad9 {P:Program} {a:List Oper} {p:Nat} {al o:Oper} {t:TypeId} {cs:List AV} (h:Kq a=some (p,al)) (ht:al.op=.alloc t) (hz:An P t=some cs):Afa P a.toArray (openL (a++[o])).toArray (some (p,al)):=by
 obtain ⟨a1,a2,a3,a4,a5,a6⟩:=K0 (x:=o) h
 unfold Abw at a1
 simp only [Bool.and_eq_true,Option.isNone_iff_eq_none] at a1
 refine ⟨by simp [a3],fun i hi=>?_,fun i o' ho=>?_,by simpa using a2,a1.1.2,a1.2,⟨t,cs,ht,hz⟩,by simpa using a4⟩
 ·have:=a5 i hi
  simp only [List.getElem?_toArray]
  exact this.symm
 ·exact a6 o' (List.mem_of_getElem? (by simpa using ho))
theorem Kv {L a:List Oper} {o:Oper} (h:Hc L=some (a,o)):L=a++[o]∧Y4 a o=true:=by
 unfold Hc at h
 split at h
 ·rename_i o' ho
  split at h
  ·rename_i ht
   simp only [Option.some.injEq,Prod.mk.injEq] at h
   obtain ⟨rfl,rfl⟩:=h
   exact ⟨by rw [List.getLast?_eq_some_iff] at ho; obtain ⟨l,rfl⟩:=ho; simp,ht⟩
  ·cases h
 ·cases h
theorem W3 {kp:Bool} {m:Nat} {S:List Ent} : cutS kp m S=S.take (bif kp then S.length else m):=by
 cases kp <;> simp [cutS]
theorem Ve [Globs] {kp:Bool} {f:St→Option (Ex × St)} {c:Code} (hf:∀ (C:Cx) (st:St) (ex:Ex) (st':St) (a:Act) (Q:Exit→Act→World→Prop),f st=some (ex,st')→Rel C st a→(∀ a' C',Le C C'→Rel C' st' a'→Q (exOf ex) a' C'.w)→c.wp P Q a C.w)
  {k:Nat} {C:Cx} {st st':St} {ex:Ex} {a:Act} {Q:Exit→Act→World→Prop} (h:Jq kp f k st=some (ex,st')) (hr:Rel C st a) (hQ:∀ a' C',Le C C'→Rel C' st' a'→Q (exOf ex) a' C'.w):(Code.loop c).wp P Q a C.w:=by
 refine U5 (fun n a w=>∃ C1 st1,C1.w=w∧Le C C1∧Rel C1 st1 a∧Jq kp f n st1=some (ex,st')) ?_ (n:=k) ⟨C,st,rfl,Le.refl C,hr,h⟩
 rintro n a1 w1 ⟨C1,st1,rfl,hle,hr1,h1⟩
 cases n with
 | zero=>simp [Jq] at h1
 | succ n =>
  simp only [Jq] at h1
  split at h1
  ·rename_i st2 h2
   refine hf C1 st1 .normal st2 a1 _ h2 hr1 fun a2 C2 hle2 hr2=>?_
   rw [W3] at h1
   generalize (bif kp then st2.S.length else st1.S.length)=mm at h1
   refine ⟨n,Nat.lt_succ_self n,{ C2 with S:=C2.S.take mm },{ st2 with S:=st2.S.take mm },rfl,(hle.trans hle2).trans (Le.take _),⟨by rw [hr2.S],hr2.tk,hr2.n,VRs.mono (Le.take _) _ _ hr2.tmps,hr2.defers,hr2.sr.take _⟩,h1⟩
  ·rename_i hne
   refine hf C1 st1 ex st' a1 _ h1 hr1 fun a2 C2 hle2 hr2=>?_
   have:=hQ a2 C2 (hle.trans hle2) hr2
   cases ex with
   | normal=>exact absurd h1 (hne st')
   | exit id=>exact this
   | ret=>exact this
theorem Eg [Globs] [Ext P] {call:Dh} (hc:Jj P call) (hi:∀ M,@Ns (gM M) (@Ei (gM M) P _ call)) {ok:St→List Oper→Bool} (hd:V6 P ok) {n:Nat} : ∀ (c:Code) (C:Cx) (st:St) (ex:Ex) (st':St) (a:Act) (Q:Exit→Act→World→Prop),evC P call ok n c st=some (ex,st')→Rel C st a →
  (∀ a' C',Le C C'→Rel C' st' a'→Q (exOf ex) a' C'.w)→c.wp P Q a C.w
 | .skip,C,st,ex,st',a,Q,h,hr,hQ=>by
  simp only [evC,Option.some.injEq,Prod.mk.injEq] at h
  obtain ⟨rfl,rfl⟩:=h
  exact wp_skip (hQ a C (Le.refl C) hr)
 | .region id ops draw,C,st,ex,st',a,Q,h,hr,hQ=>by
  simp only [evC] at h
  cases draw with
  | false =>
   rw [if_neg (by simp)] at h
   simp only [Option.map_eq_some_iff,Prod.mk.injEq] at h
   obtain ⟨st1,h,rfl,rfl⟩:=h
   refine wp_region ?_
   have:=L4 (Q:=Q) hc hr h hQ
   have e:=wpOps_eq_wpList (P:=P) (ops:=ops) (Q:=Q) ops.toList 0 (fun j=>by simp)
   rw [List.range_eq_range']
   simp only [Array.length_toList] at e
   rw [e]; exact this
  | true =>
   rw [if_pos rfl] at h
   split at h
   ·rename_i ini o hsp
    obtain ⟨hL,ht⟩:=Kv hsp
    split at h
    ·rename_i hok
     split at h
     ·rename_i st1 h1
      simp only [Option.map_eq_some_iff,Prod.mk.injEq] at h
      obtain ⟨st2,h2,rfl,rfl⟩:=h
      unfold Y4 at ht
      simp only [Bool.and_eq_true,List.all_eq_true,List.mem_range,decide_eq_true_eq,Option.isNone_iff_eq_none] at ht
      obtain ⟨⟨⟨⟨-,hg⟩,hre⟩,hla⟩,hde⟩:=ht
      have hops:ops=ini.toArray.push o:=by
       apply Array.ext'
       rw [hL]; simp
      subst hops
      have hpush:ini.toArray.push o=(ini++[o]).toArray:=by simp
      refine wp_region_any hd.1 ?_
      have hw:=hd.2 _ (Qc hc) ini.toArray ini.toArray none rfl (hi _) C st st1 a (Zi P o Q) (by simpa using hok) hr (by simpa using h1) fun a' C' hle hr'=>by
       show o.wp P a' C'.w (fun a' w'=>Q .normal a' w') Q
       simp only [evOs,Hg,hg] at h2
       split at h2
       ·rename_i v s3 ho
        split at h2
        case isFalse=>simp at h2
        have hT:s3.T=st1.T:=(Gx (next:=fun _ _=>True) (Q:=Q) hc hr' ho (fun _ _ _ _ _ _ _ _=>trivial)).2
        refine (Gx hc hr' ho fun u C2 k1 k2 k3 k4 k5 k6=>?_).1
        simp only [Option.some.injEq] at h2
        subst h2
        exact hQ _ C2 (hle.trans k1) (hr'.put k1 k2 k3 k4 k5 k6 hT)
       ·simp at h2
      have hsz:(ini.toArray.push o).size=ini.toArray.size+1:=by simp
      rw [hsz]
      have hrep:Array.replicate (ini.toArray.size+1) false=(Array.replicate ini.toArray.size false).push false:=by
       rw [Array.replicate_succ]
      rw [hrep]
      refine Wu hg (fun j hj=>?_) (fun e he=>?_) (fun i o' ho'=>?_) _ _ _ _ (by simp) (fun j hj=>?_) hw
      ·have:=hre j (by simpa using hj)
       rw [hpush]; simpa using this
      ·have:=hla e (by rw [hpush] at he; simpa using he)
       simpa using this
      ·have hil:=(Array.getElem?_eq_some_iff.1 ho').1
       have:=hde i (by simpa using hil)
       rw [ho'] at this
       refine ⟨fun e he=>this.1 e he,fun g w hgw=>?_⟩
       have h3:=this.2
       simp only [hgw] at h3
       simpa using h3
      ·rw [Array.getD_eq_getD_getElem?,Array.getElem?_replicate] at hj
       split at hj <;> simp at hj
     ·simp at h
    ·simp at h
   ·split at h
    ·rename_i p al o hlt
     obtain ⟨ini,hL,ht,hst,hix⟩:=Pz hlt
     rw [hL] at h
     split at h
     ·rename_i hok
      split at h
      ·rename_i st1 h1
       simp only [Option.map_eq_some_iff,Prod.mk.injEq] at h
       obtain ⟨st2,h2,rfl,rfl⟩:=h
       unfold Ael at ht
       simp only [Bool.and_eq_true,List.all_eq_true,List.mem_range,decide_eq_true_eq,Option.isNone_iff_eq_none] at ht
       obtain ⟨⟨⟨hg,hre⟩,hla⟩,hde⟩:=ht
       have hal:=(K0 (x:=o) hix).1
       unfold Abw at hal
       simp only [Bool.and_eq_true,Option.isNone_iff_eq_none] at hal
       obtain ⟨t,hta⟩:∃ t,al.op=.alloc t:=by
        have:=hal.1.1
        split at this
        ·rename_i t h; exact ⟨t,h⟩
        ·cases this
       have hgal:=hal.1.2
       simp only [evOs,Hg,hgal] at h2
       split at h2
       case h_2=>simp at h2
       rename_i v s3 hov
       split at h2
       case isFalse=>simp at h2
       have hov':=hov
       simp only [evO,hta,Option.map_eq_some_iff,Prod.mk.injEq] at hov'
       obtain ⟨cs,hz,rfl,rfl⟩:=hov'
       have hrev:({ T:=putT st1.T al.dst (.ref st1.S.length st1.n 0),S:=st1.S++[⟨st1.n,cs⟩],tk:=st1.tk,n:=st1.n+1 } : St)=M2 P (some (p,al)) st1:=by
        simp only [M2,hta,hz,Option.getD_some]
       simp only at h2
       rw [hrev] at h2
       have hops:ops=ini.toArray.push o:=by
        apply Array.ext'
        rw [hL]; simp
       subst hops
       have hpush:ini.toArray.push o=(ini++[o]).toArray:=by simp
       refine wp_region_any hd.1 ?_
       have hw:=hd.2 _ (Qc hc) ini.toArray (openL (ini++[o])).toArray (some (p,al)) (Ad9 hix hta hz) (hi _) C st st1 a (Zi P o Q) (by simpa using hok) hr (by simpa using h1) fun a' C' hle hr'=>by
        show o.wp P a' C'.w (fun a' w'=>Q .normal a' w') Q
        simp only [hg] at h2
        split at h2
        ·rename_i v s3 ho
         split at h2
         case isFalse=>simp at h2
         have hT:s3.T=(M2 P (some (p,al)) st1).T:=(Gx (next:=fun _ _=>True) (Q:=Q) hc hr' ho (fun _ _ _ _ _ _ _ _=>trivial)).2
         refine (Gx hc hr' ho fun u C2 k1 k2 k3 k4 k5 k6=>?_).1
         simp only [Option.some.injEq] at h2
         subst h2
         exact hQ _ C2 (hle.trans k1) (hr'.put k1 k2 k3 k4 k5 k6 hT)
        ·simp at h2
       have hsz:(ini.toArray.push o).size=ini.toArray.size+1:=by simp
       rw [hsz]
       have hrep:Array.replicate (ini.toArray.size+1) false=(Array.replicate ini.toArray.size false).push false:=by
        rw [Array.replicate_succ]
       rw [hrep]
       refine Wu hg (fun j hj=>?_) (fun e he=>?_) (fun i o' ho'=>?_) _ _ _ _ (by simp) (fun j hj=>?_) hw
       ·have:=hre j (by simpa using hj)
        rw [hpush]; simpa using this
       ·have:=hla e (by rw [hpush] at he; simpa using he)
        simpa using this
       ·have hil:=(Array.getElem?_eq_some_iff.1 ho').1
        have:=hde i (by simpa using hil)
        rw [ho'] at this
        refine ⟨fun e he=>this.1 e he,fun g w hgw=>?_⟩
        have h3:=this.2
        simp only [hgw] at h3
        simpa using h3
       ·rw [Array.getD_eq_getD_getElem?,Array.getElem?_replicate] at hj
        split at hj <;> simp at hj
      ·simp at h
     ·simp at h
    ·split at h
     ·rename_i hok
      simp only [Option.map_eq_some_iff,Prod.mk.injEq] at h
      obtain ⟨st1,h,rfl,rfl⟩:=h
      exact wp_region_any hd.1 (hd.2 _ (Qc hc) ops ops none rfl (hi _) C st st1 a Q hok hr h hQ)
     ·simp at h
 | .seq x y,C,st,ex,st',a,Q,h,hr,hQ=>by
  simp only [evC] at h
  split at h
  ·rename_i st1 h1
   refine wp_seq (Eg hc hi hd x C st .normal st1 a _ h1 hr fun a1 C1 hle1 hr1=>?_)
   exact Eg hc hi hd y C1 st1 ex st' a1 Q h hr1 fun a2 C2 hle2 hr2=>hQ a2 C2 (hle1.trans hle2) hr2
  ·rename_i hne
   refine wp_seq (Eg hc hi hd x C st ex st' a _ h hr fun a1 C1 hle1 hr1=>?_)
   have:=hQ a1 C1 hle1 hr1
   cases ex with
   | normal=>exact absurd h (hne st')
   | exit id=>exact this
   | ret=>exact this
 | .cond x y z,C,st,ex,st',a,Q,h,hr,hQ=>by
  simp only [evC] at h
  split at h
  ·rename_i t ht
   have hv:=W7 hr.tmps x
   rw [ht] at hv; simp only [VR] at hv
   cases t with
   | true =>
    rw [if_pos rfl] at h
    exact wp_cond_true hv (Eg hc hi hd y C st ex st' a Q h hr hQ)
   | false =>
    rw [if_neg (by simp)] at h
    exact wp_cond_false hv (Eg hc hi hd z C st ex st' a Q h hr hQ)
  ·simp at h
 | .block id x,C,st,ex,st',a,Q,h,hr,hQ=>by
  simp only [evC] at h
  split at h
  ·rename_i id' st1 h1
   refine wp_block (Eg hc hi hd x C st (.exit id') st1 a _ h1 hr fun a1 C1 hle1 hr1=>?_)
   simp only [exOf,Exit.inBlock]
   split at h
   ·rename_i hid
    simp only [Option.some.injEq,Prod.mk.injEq] at h
    obtain ⟨rfl,rfl⟩:=h
    rw [if_pos hid]; exact hQ a1 C1 hle1 hr1
   ·rename_i hid
    simp only [Option.some.injEq,Prod.mk.injEq] at h
    obtain ⟨rfl,rfl⟩:=h
    rw [if_neg hid]; exact hQ a1 C1 hle1 hr1
  ·rename_i hne
   refine wp_block (Eg hc hi hd x C st ex st' a _ h hr fun a1 C1 hle1 hr1=>?_)
   have:=hQ a1 C1 hle1 hr1
   cases ex with
   | normal=>exact this
   | exit id=>exact absurd h (hne id st')
   | ret=>exact this
 | .loop x,C,st,ex,st',a,Q,h,hr,hQ=>by
  simp only [evC] at h
  exact Ve (fun C st ex st' a Q=>Eg hc hi hd x C st ex st' a Q) h hr hQ
 | .exit id,C,st,ex,st',a,Q,h,hr,hQ=>by
  simp only [evC,Option.some.injEq,Prod.mk.injEq] at h
  obtain ⟨rfl,rfl⟩:=h
  exact wp_exit (hQ a C (Le.refl C) hr)
 | .ret,C,st,ex,st',a,Q,h,hr,hQ=>by
  simp only [evC,Option.some.injEq,Prod.mk.injEq] at h
  obtain ⟨rfl,rfl⟩:=h
  exact wp_ret (hQ a C (Le.refl C) hr)
 | .rangeFunc _ _ _ _,_,_,_,_,_,_,h,_,_=>by simp [evC] at h
 | .scope x,C,st,ex,st',a,Q,h,hr,hQ=>by
  simp only [evC] at h
  refine wp_scope_straight (Eg hc hi hd x C st ex st' a _ h hr fun a1 C1 hle1 hr1=>?_)
  have:=hQ a1 C1 hle1 hr1
  cases ex <;> exact this
 | .label l,C,st,ex,st',a,Q,h,hr,hQ=>by
  simp only [evC,Option.some.injEq,Prod.mk.injEq] at h
  obtain ⟨rfl,rfl⟩:=h
  exact wp_label (hQ a C (Le.refl C) hr)
 | .goto _,_,_,_,_,_,_,h,_,_=>by simp [evC] at h
 | .refuse _,_,_,_,_,_,_,h,_,_=>by simp [evC] at h
end
end Go.Proofs.YtcjffhadclngmaaGreat
namespace Go.Proofs.YtcjffhadclngmaaGreat
open Go.RowKit
section
variable {P:Program}
def W9 (P:Program) (tmps:Array Value):ResultVar→Sem Value
 | .tmp t=>pure (tmps.getD t undef)
 | .cell a t=>do loadVar t (← asAddr (tmps.getD a undef))
theorem Adw {C:Cx} {T:List AV} {tmps:Array Value} (h:VRs C T tmps.toList) (t:Tmp):VR C (getT T t) (tmps.getD t undef) :=
 W7 (a:=⟨tmps,[]⟩) h (.tmp t)
theorem Vu [Globs] {C:Cx} {st:St} {a:Act} (hr:Rel C st a) {rv:ResultVar} {v:AV} (h:Aq P st rv=some v):Has P C (W9 P a.tmps rv) v:=by
 cases rv with
 | tmp t =>
  simp only [Aq,Option.some.injEq] at h; subst h
  exact ⟨_,rfl,Adw hr.tmps t⟩
 | cell p t =>
  simp only [Aq] at h
  rw [← hr.S] at h
  obtain ⟨u,h1,h2⟩:=R5 hr.sr (Adw hr.tmps p) h
  refine ⟨u,?_,h2⟩
  simp only [W9]
  generalize a.tmps.getD p undef=x at h1
  cases x with
  | pointer b =>
   cases b with
   | none=>simp [Instr.loadAt,Instr.sureAddr] at h1
   | some b=>simpa [Instr.loadAt,Instr.sureAddr,asAddr] using h1
  | _=>simp [Instr.loadAt,Instr.sureAddr] at h1
theorem Wj [Globs] {C:Cx} {st:St} {a:Act} (hr:Rel C st a):∀ {rs:List ResultVar} {vs:List AV},mapO (Aq P st) rs=some vs→∃ us,(rs.mapM (W9 P a.tmps)).run P C.w=.ok us C.w∧VRs C vs us
 | [],vs,h=>by
  simp only [mapO,Option.some.injEq] at h; subst h
  exact ⟨[],by simp,by simp only [VRs]⟩
 | r :: rs,vs,h=>by
  simp only [mapO] at h
  split at h
  ·rename_i b l h1 h2
   simp only [Option.some.injEq] at h; subst h
   obtain ⟨u,g1,g2⟩:=Vu hr h1
   obtain ⟨us,g3,g4⟩:=Wj hr h2
   exact ⟨u :: us,by rw [List.mapM_cons]; simp only [Sem.run_bind,g1,Result.andThen_ok,g3,Sem.run_pure],by simp only [VRs]; exact ⟨g2,g4⟩⟩
  ·simp at h
theorem X2 [Globs] {C:Cx} {st:St} {a:Act} (hr:Rel C st a) {fn:Func} {v:AV} (h:resA P fn.results.toList st=some v):Has P C (results fn a.tmps) v:=by
 simp only [resA,Option.map_eq_some_iff] at h
 obtain ⟨vs,h,rfl⟩:=h
 obtain ⟨us,h1,h2⟩:=Wj hr h
 have hrun:(results fn a.tmps).run P C.w=.ok (if h:us.toArray.size=1 then us.toArray[0] else .tuple us.toArray) C.w:=by
  have e:results fn a.tmps=(do
   let vs ← fn.results.mapM (W9 P a.tmps)
   pure (if h:vs.size=1 then vs[0] else .tuple vs)):=by
   unfold results
   congr 1
  rw [e,Sem.run_bind,Array.mapM_eq_mapM_toList,Sem.run_map,h1]
  rfl
 have hlen:=Bk h2
 match us,vs,h2,hlen,hrun with
 | [u],[v],h2,_,hrun =>
  simp only [VRs] at h2
  exact ⟨u,by rw [hrun]; simp,h2.1⟩
 | [],[],h2,_,hrun=>exact ⟨.tuple #[],by rw [hrun]; simp,by simp only [Ar,VR]; exact ⟨_,rfl,h2⟩⟩
 | u :: u' :: us,v :: v' :: vs,h2,_,hrun=>exact ⟨.tuple (u :: u' :: us).toArray,by rw [hrun]; simp,by simp only [Ar,VR]; exact ⟨_,rfl,h2⟩⟩
theorem VR_w3 {C:Cx} {c x} (h:VR C c x):VR C (w3 c) x:=by
 cases c with
 | tup cs =>
  simp only [w3,VR] at h ⊢
  obtain ⟨vs,e,hr⟩:=h
  exact ⟨vs,e,Aat hr⟩
 | _=>exact Ad7 h
theorem P4 {C C':Cx} {c x} (hst:Stays C.w C'.w C.Avoid C'.Avoid) (hp:pure1 c=true) (h:VR C c x):VR C' c x:=Qu (PR.stays hst _ _ (Wp hp h))
theorem Nr {C C':Cx} (hst:Stays C.w C'.w C.Avoid C'.Avoid):∀ {cs vs},cs.all pure1=true→VRs C cs vs→VRs C' cs vs
 | [],[],_,_=>by simp only [VRs]
 | c :: cs,v :: vs,hp,h=>by
  simp only [List.all_cons,Bool.and_eq_true] at hp
  simp only [VRs] at h ⊢
  exact ⟨P4 hst hp.1 h.1,Nr hst hp.2 h.2⟩
 | [],_ :: _,_,h=>by simp only [VRs] at h
 | _ :: _,[],_,h=>by simp only [VRs] at h
theorem Pt {C C':Cx} {c x} (hst:Stays C.w C'.w C.Avoid C'.Avoid) (hp:pure2 c=true) (h:VR C c x):VR C' c x:=by
 cases c with
 | agg cs =>
  simp only [VR] at h ⊢
  obtain ⟨vs,e,hr⟩:=h
  exact ⟨vs,e,Nr hst hp hr⟩
 | _=>exact P4 hst hp h
theorem Kw {C C':Cx} (hst:Stays C.w C'.w C.Avoid C'.Avoid):∀ {cs vs},cs.all pure2=true→VRs C cs vs→VRs C' cs vs
 | [],[],_,_=>by simp only [VRs]
 | c :: cs,v :: vs,hp,h=>by
  simp only [List.all_cons,Bool.and_eq_true] at hp
  simp only [VRs] at h ⊢
  exact ⟨Pt hst hp.1 h.1,Kw hst hp.2 h.2⟩
 | [],_ :: _,_,h=>by simp only [VRs] at h
 | _ :: _,[],_,h=>by simp only [VRs] at h
theorem X1 {C C':Cx} {c x} (hst:Stays C.w C'.w C.Avoid C'.Avoid) (hp:pure3 c=true) (h:VR C c x):VR C' c x:=by
 cases c with
 | tup cs =>
  simp only [VR] at h ⊢
  obtain ⟨vs,e,hr⟩:=h
  exact ⟨vs,e,Kw hst hp hr⟩
 | _=>exact Pt hst hp h
theorem Wa {C:Cx} : ∀ n:Nat,VRs C (List.replicate n AV.bot) (List.replicate n undef)
 | 0=>by simp [VRs]
 | n+1=>by simp only [List.replicate_succ,VRs,VR]; exact ⟨trivial,Wa n⟩
theorem Lx [Globs] [Ext P] {call:Dh} (hc:Jj P call) (hi:∀ M,@Ns (gM M) (@Ei (gM M) P _ call)) {ok:St→List Oper→Bool} (hd:V6 P ok) {k:Nat} {f:FuncId} {fn:Func} {c:Code} (hf:P.funcs[f]?=some fn) (hb:fn.body=some c) {C:Cx} (hs:SR C) {args:List AV} {vs:Array Value} (hv:VRs C args vs.toList) {r:AV} {st:St}
  (h:outA P fn (evC P call ok k c ⟨args++List.replicate (fn.ntmps - args.length) .bot,C.S,C.tk,C.n⟩)=some (r,st)) :
  Calls P f vs C.w fun e w'=>∃ v C',e=.returned v∧C'.w=w'∧Le C C'∧SR C'∧C'.S=st.S∧C'.tk=st.tk∧C'.n=st.n∧VR C' r v:=by
 have hlen:vs.size=args.length:=by have:=Bk hv; simpa using this.symm
 refine calls_of_wp hf hb ?_
 have hrel:Rel C ⟨args++List.replicate (fn.ntmps - args.length) .bot,C.S,C.tk,C.n⟩ { tmps:=vs++Array.replicate (fn.ntmps - vs.size) undef,defers:=[] } :=
  ⟨rfl,rfl,rfl,by rw [hlen]; simpa using Gq hv (Wa _),rfl,hs⟩
 have fin:∀ {ex:Ex} {st':St},(ex=.normal∨ex=.ret)→(resA P fn.results.toList st').map (fun r=>(r,st'))=some (r,st)→∀ a' C',Le C C'→Rel C' st' a' →
   bodyPost P fn (fun e w'=>∃ v C',e=.returned v∧C'.w=w'∧Le C C'∧SR C'∧C'.S=st.S∧C'.tk=st.tk∧C'.n=st.n∧VR C' r v) (exOf ex) a' C'.w:=by
  intro ex st' hex he a' C' hle hr
  simp only [Option.map_eq_some_iff,Prod.mk.injEq] at he
  obtain ⟨r',he,rfl,rfl⟩:=he
  obtain ⟨v,h1,h2⟩:=X2 hr he
  rcases hex with rfl|rfl
  ·exact ⟨hr.defers,v,h1,v,C',rfl,rfl,hle,hr.sr,hr.S,hr.tk,hr.n,h2⟩
  ·exact ⟨hr.defers,v,h1,v,C',rfl,rfl,hle,hr.sr,hr.S,hr.tk,hr.n,h2⟩
 generalize he:evC P call ok k c ⟨args++List.replicate (fn.ntmps - args.length) .bot,C.S,C.tk,C.n⟩=out at h
 match out with
 | none=>simp [outA] at h
 | some (.exit _,_)=>simp [outA] at h
 | some (.normal,st')=>exact Eg hc hi hd c C _ .normal st' _ _ he hrel (fin (.inl rfl) h)
 | some (.ret,st')=>exact Eg hc hi hd c C _ .ret st' _ _ he hrel (fin (.inr rfl) h)
def Cx.alone (C:Cx):Cx:={ w:=C.w,av:=C.Avoid,φ:=C.φ,ψ:=C.ψ,S:=[],tk:=[],n:=0 }
theorem Nf {C:Cx} {b o:Nat} : ¬ C.alone.Mut b o:=by
 rintro (⟨i,hi,_⟩|⟨i,hi,_⟩) <;> simp [Cx.alone] at hi
theorem SR.alone [Globs] {C:Cx} (hs:SR C):SR C.alone:=by
 refine ⟨fun i e h=>by simp [Cx.alone,nth] at h,fun i j hi=>by simp [Cx.alone] at hi,fun i j o hi=>by simp [Cx.alone] at hi,fun i j o hi=>by simp [Cx.alone] at hi,fun b o h=>absurd h Nf,fun b o h=>?_,fun i o hi=>by simp [Cx.alone] at hi,fun g o h=>⟨(hs.glob g o h).1,fun i=>.inl ((hs.glob g o h).2 i)⟩⟩
 rcases Nat.lt_or_ge b C.w.heap.size with h'|h'
 ·exact h'
 ·exact absurd h (hs.fresh h')
theorem Ago [Globs] {C:Cx} (hs:SR C) {m id o:Nat} (hid:id<C.S.length) (hm:m≤id):¬ ({ C with S:=C.S.take m } : Cx).Avoid (C.φ id) o:=by
 rintro (h|⟨i,hi,h⟩|⟨i,hi,h1,h2,h3⟩)
 ·exact hs.own _ o (.inl ⟨id,hid,rfl⟩) h
 ·simp only [List.length_take] at hi
  have:=hs.ne i id (by omega) hid h
  omega
 ·exact hs.apart id i o hid hi h1.symm h2 h3
theorem Rg [Globs] {C:Cx} (hs:SR C) (m:Nat) {c x} (h:VR C c x):VR { C with S:=C.S.take m } (fz1 m C.S c) x:=by
 have keep:VR { C with S:=C.S.take m } c x:=VR.mono (Le.take m) _ _ h
 cases c with
 | sref id ep off len sz =>
  simp only [fz1]
  split
  ·rename_i hm
   unfold fzB
   split
   ·rename_i cs hcs
    obtain ⟨e,h1,h2,rfl⟩:=Ds hcs
    unfold Mj
    split
    ·rename_i es hes
     split
     ·rename_i hp
      simp only [VR] at h
      obtain ⟨b,a,cap,rfl,hcap,ha,hn,hb⟩:=h
      obtain rfl:=(hb e h1 h2).1
      obtain ⟨hlt,arr,t,h3,h4⟩:=hs.ent id e h1
      obtain ⟨pd,h4⟩:=entP h4
      obtain ⟨g1,g2,g3,g4⟩:=Ka hes
      have g4':len*sz≤((e.cells++pd).drop off).length:=by simp at g4 ⊢; omega
      have g3':es.flatten=((e.cells++pd).drop off).take (len*sz):=by rw [g3,List.drop_append,List.take_append_of_le_length g4]
      simp only [VR]
      refine ⟨a,len,cap,rfl,by simp [g1],hcap,trivial,?_⟩
      by_cases h0:len=0
      ·left
       subst h0
       rw [List.eq_nil_of_length_eq_zero g1]; rfl
      ·right
       obtain rfl:=ha.resolve_left h0
       have hl4:=Bk h4
       simp only [Array.length_toList] at hl4
       refine ⟨C.φ id,off,sz,rfl,Gk (l:=(arr.toList.drop off).take (len*sz)) (fun e he=>?_) ?_ (Ji fun j v hj=>⟨?_,Ago hs (B5 h1) hm⟩)⟩
       ·rw [List.mem_map] at he
        obtain ⟨e',he',rfl⟩:=he
        rw [List.length_map]; exact g2 e' he'
       ·have hflat:(es.map (·.map w1)).flatten=(((e.cells++pd).drop off).take (len*sz)).map w1:=by rw [← g3',List.map_flatten]
        have hvs:VRs C (((e.cells++pd).drop off).take (len*sz)) ((arr.toList.drop off).take (len*sz)):=(Jb (J2 off h4) (Ke g4')).1
        rw [hflat]
        refine Hz (C:={ C with S:=C.S.take m }) ?_ (VRs.mono (Le.take m) _ _ (P3 hvs))
        rw [← g3',List.all_eq_true]
        intro c hc
        rw [List.mem_map] at hc
        obtain ⟨c',hc',rfl⟩:=hc
        rw [List.mem_flatten] at hc'
        obtain ⟨r,hr,hc'⟩:=hc'
        exact List.all_eq_true.1 (List.all_eq_true.1 hp r hr) c' hc'
       ·have hj':j<len*sz:=by
         have:=(List.getElem?_eq_some_iff.1 hj).1
         simp at this; omega
        rw [List.getElem?_take_of_lt hj',List.getElem?_drop] at hj
        simp [World.cell?,h3]; simpa using hj
     ·simp only [VR]
    ·simp only [VR]
   ·simp only [VR]
  ·exact keep
 | _=>exact keep
theorem Pu [Globs] {C:Cx} (hs:SR C) (m:Nat):∀ {cs vs},VRs C cs vs→VRs { C with S:=C.S.take m } (cs.map (fz1 m C.S)) vs
 | [],[],_=>by simp only [List.map_nil,VRs]
 | c :: cs,v :: vs,h=>by simp only [VRs,List.map_cons] at h ⊢; exact ⟨Rg hs m h.1,Pu hs m h.2⟩
 | [],_ :: _,h=>by simp only [VRs] at h
 | _ :: _,[],h=>by simp only [VRs] at h
theorem Tq [Globs] {C:Cx} (hs:SR C) (m:Nat) {c x} (h:VR C c x):VR { C with S:=C.S.take m } (fz2 m C.S c) x:=by
 cases c with
 | agg cs =>
  simp only [fz2,VR] at h ⊢
  obtain ⟨vs,e,hr⟩:=h
  exact ⟨vs,e,Pu hs m hr⟩
 | _=>exact Rg hs m h
theorem P6 [Globs] {C:Cx} (hs:SR C) (m:Nat):∀ {cs vs},VRs C cs vs→VRs { C with S:=C.S.take m } (cs.map (fz2 m C.S)) vs
 | [],[],_=>by simp only [List.map_nil,VRs]
 | c :: cs,v :: vs,h=>by simp only [VRs,List.map_cons] at h ⊢; exact ⟨Tq hs m h.1,P6 hs m h.2⟩
 | [],_ :: _,h=>by simp only [VRs] at h
 | _ :: _,[],h=>by simp only [VRs] at h
theorem Ri [Globs] {C:Cx} (hs:SR C) (m:Nat) {c x} (h:VR C c x):VR { C with S:=C.S.take m } (fz3 m C.S c) x:=by
 cases c with
 | tup cs =>
  simp only [fz3,VR] at h ⊢
  obtain ⟨vs,e,hr⟩:=h
  exact ⟨vs,e,P6 hs m hr⟩
 | _=>exact Tq hs m h
theorem Um [Globs] [Ext P] {ok:St→List Oper→Bool} {k:Nat} {f:FuncId} {args:List AV} {S:List Ent} {tk:List Nat} {n:Nat} (hf:Ext.on P f=true):evF P ok (k+1) f args S tk n=extC P f args S tk n:=by
 simp only [evF,extC,hf,if_true]
structure Pc (A:Nat→Bool) (m:Nat) (S0:List Ent) (tk0:List Nat) (st:St):Prop where
 S:st.S.take m=S0
 le:m≤st.S.length
 tk:st.tk=tk0
 own:∀ q,A q=true→getT st.T q=.bot∨getT st.T q=.prim undef∨∃ id ep off,getT st.T q=.ref id ep off∧m≤id
theorem Zq:∀ {T:List AV} {d:Nat} {v:AV},d<T.length→getT (put T d v) d=v
 | _ :: _,0,_,_=>rfl
 | _ :: T,d+1,_,h=>Zq (T:=T) (by simpa using h)
 | [],_,_,h=>by simp at h
theorem Wh:∀ {T:List AV} {d q:Nat} {v:AV},d≠q→getT (put T d v) q=getT T q
 | [],_,_,_,_=>rfl
 | _ :: _,0,0,_,h=>absurd rfl h
 | _ :: _,0,_+1,_,_=>rfl
 | _ :: _,_+1,0,_,_=>rfl
 | _ :: T,d+1,q+1,_,h=>Wh (T:=T) (by omega)
theorem Ym:∀ {T:List AV} {d:Nat} {v:AV},T.length≤d→put T d v=T
 | [],_,_,_=>rfl
 | _ :: _,0,_,h=>by simp at h
 | _ :: T,d+1,_,h=>by simp only [put]; rw [Ym (T:=T) (by simpa using h)]
theorem T5 {T:List AV} {d:Option Nat} {v:AV} {q:Nat} : getT (putT T d v) q=getT T q∨(d=some q∧getT (putT T d v) q=v):=by
 cases d with
 | none=>exact .inl rfl
 | some d =>
  simp only [putT]
  by_cases h:d=q
  ·subst h
   rcases Nat.lt_or_ge d T.length with hl|hl
   ·exact .inr ⟨rfl,Zq hl⟩
   ·left; rw [Ym hl]
  ·exact .inl (Wh h)
theorem Wx {α:Type} : ∀ {l:List α} {i m:Nat} {v:α},m≤i→(put l i v).take m=l.take m
 | [],_,_,_,_=>rfl
 | _ :: _,0,m,_,h=>by
  have:m=0:=by omega
  subst this; rfl
 | _ :: _,_+1,0,_,_=>rfl
 | _ :: l,i+1,m+1,v,h=>by simp only [put,List.take_succ_cons,Wx (l:=l) (i:=i) (m:=m) (v:=v) (by omega)]
theorem Ae9 [Globs] {call:Dh} {o:Oper} {all:List Oper} {nn m:Nat} {S0:List Ent} {tk0:List Nat} {st st':St} {v:AV} (hA:o ∈ all) (hk:M8 all nn o=true) (hI:Pc (fun q=>decide (nn≤q) && Ju all q) m S0 tk0 st) (h:evO P call o st=some (v,st')) :
  Pc (fun q=>decide (nn≤q) && Ju all q) m S0 tk0 { st' with T:=putT st'.T o.dst v }:=by
 have slot:st'.T=st.T→(H7 o=true→∃ id ep off,v=.ref id ep off∧m≤id)→∀ q,(decide (nn≤q) && Ju all q)=true→getT (putT st'.T o.dst v) q=.bot∨getT (putT st'.T o.dst v) q=.prim undef∨∃ id ep off,getT (putT st'.T o.dst v) q=.ref id ep off∧m≤id:=by
  intro hT hv q hq
  rcases T5 (T:=st'.T) (d:=o.dst) (v:=v) (q:=q) with e|⟨e1,e2⟩
  ·rw [e,hT]; exact hI.own q hq
  ·simp only [Bool.and_eq_true] at hq
   have:=List.all_eq_true.1 hq.2 o hA
   rw [e1] at this
   simp only [bne_self_eq_false,Bool.false_or] at this
   obtain ⟨id,ep,off,rfl,hm⟩:=hv this
   exact .inr (.inr ⟨id,ep,off,e2,hm⟩)
 unfold evO at h
 unfold M8 at hk
 split at h
 ·rename_i t x e
  simp only [Option.map_eq_some_iff,Prod.mk.injEq] at h
  obtain ⟨_,_,rfl,rfl⟩:=h
  exact ⟨hI.S,hI.le,hI.tk,slot rfl (fun hm=>by simp [H7,e] at hm)⟩
 ·rename_i t x y e
  rw [e] at hk
  simp only [Option.map_eq_some_iff,Prod.mk.injEq] at h
  obtain ⟨S',hs,rfl,rfl⟩:=h
  cases x with
  | tmp q =>
   simp only at hk
   unfold stA at hs
   split at hs
   ·rename_i id ep off sz vs hx _ _
    simp only [opv] at hx
    split at hs
    ·split at hs
     ·split at hs
      ·simp only [Option.some.injEq] at hs; subst hs
       have hid:m≤id:=by
        rcases hI.own q hk with h1|h1|⟨id',ep',off',h1,h2⟩
        ·rw [h1] at hx; simp at hx
        ·rw [h1] at hx; simp at hx
        ·rw [h1] at hx; simp only [AV.ref.injEq] at hx; omega
       exact ⟨by show (put st.S id _).take m=S0; rw [Wx hid]; exact hI.S,by show m≤(put st.S id _).length; rw [A7]; exact hI.le,hI.tk,slot rfl (fun hm=>by simp [H7,e] at hm)⟩
      ·simp at hs
     ·simp at hs
    ·simp at hs
   ·simp at hs
  | _=>simp at hk
 ·rename_i t e
  simp only [Option.map_eq_some_iff,Prod.mk.injEq] at h
  obtain ⟨cs,_,rfl,rfl⟩:=h
  exact ⟨by show (st.S++_).take m=S0; rw [List.take_append_of_le_length hI.le]; exact hI.S,by show m≤(st.S++_).length; rw [List.length_append]; exact Nat.le_trans hI.le (Nat.le_add_right _ _),hI.tk,slot rfl (fun _=>⟨_,_,_,rfl,hI.le⟩)⟩
 ·rename_i t x e
  simp only [Option.map_eq_some_iff,Prod.mk.injEq] at h
  obtain ⟨cs,_,rfl,rfl⟩:=h
  exact ⟨by show (st.S++_).take m=S0; rw [List.take_append_of_le_length hI.le]; exact hI.S,by show m≤(st.S++_).length; rw [List.length_append]; exact Nat.le_trans hI.le (Nat.le_add_right _ _),hI.tk,slot rfl (fun _=>⟨_,_,_,rfl,hI.le⟩)⟩
 ·rename_i t l c e
  rw [e] at hk
  simp only [Bool.not_eq_true'] at hk
  simp only [Option.map_eq_some_iff,Prod.exists,hk] at h
  obtain ⟨l',sz,cs,_,hh⟩:=h
  rw [if_neg (by simp)] at hh
  simp only [Prod.mk.injEq] at hh
  obtain ⟨rfl,rfl⟩:=hh
  exact ⟨by show (st.S++_).take m=S0; rw [List.take_append_of_le_length hI.le]; exact hI.S,by show m≤(st.S++_).length; rw [List.length_append]; exact Nat.le_trans hI.le (Nat.le_add_right _ _),hI.tk,slot rfl (fun hm=>by simp [H7,e] at hm)⟩
 ·rename_i c e
  rw [e] at hk
  simp only at hk
  split at h
  ·rename_i hb; rw [hb] at hk; simp at hk
  ·rename_i hb; rw [hb] at hk; simp at hk
  ·simp only [Option.map_eq_some_iff,Prod.mk.injEq] at h; obtain ⟨_,_,rfl,rfl⟩:=h
   exact ⟨hI.S,hI.le,hI.tk,slot rfl (fun hm=>by simp [H7,e] at hm)⟩
  ·rename_i h1 h2 h3
   exfalso
   cases hc:c.callee with
   | builtin b=>cases b <;> first|exact h1 hc|exact h2 hc|exact h3 _ hc
   | value x=>rw [hc] at hk; simp at hk
   | invoke x m=>rw [hc] at hk; simp at hk
 ·rename_i h1 h2 h3 h4 h5 h6
  simp only [Option.map_eq_some_iff,Prod.mk.injEq] at h; obtain ⟨_,_,rfl,rfl⟩:=h
  refine ⟨hI.S,hI.le,hI.tk,slot rfl (fun hm=>?_)⟩
  unfold H7 at hm
  split at hm
  ·exact absurd (by assumption) (h3 _)
  ·exact absurd (by assumption) (h4 _ _)
  ·simp at hm
theorem J4 [G:Globs] {call:Dh} {allr all:List Oper} {nn m:Nat} {S0:List Ent} {tk0:List Nat} : ∀ {l:List Oper} {st st':St},(∀ o ∈ l,o ∈ all∧M8 all nn o=true)→Pc (fun q=>decide (nn≤q) && Ju all q) m S0 tk0 st→evOs P call allr l st=some st'→Pc (fun q=>decide (nn≤q) && Ju all q) m S0 tk0 st'
 | [],st,st',_,hI,h=>by simp only [evOs,Option.some.injEq] at h; subst h; exact hI
 | o :: l,st,st',hq,hI,h=>by
  simp only [evOs] at h
  split at h
  ·simp at h
  ·refine J4 (fun o ho=>hq o (by simp [ho])) ?_ h
   refine ⟨hI.S,hI.le,hI.tk,fun q hqq=>?_⟩
   rcases T5 (T:=st.T) (d:=o.dst) (v:=.prim undef) (q:=q) with e|⟨_,e⟩
   ·simp only [e]; exact hI.own q hqq
   ·exact .inr (.inl e)
  ·split at h
   ·rename_i v s1 ho
    split at h
    case isFalse=>simp at h
    obtain ⟨a1,a2⟩:=hq o (by simp)
    exact J4 (fun o ho=>hq o (by simp [ho])) (Ae9 a1 a2 hI ho) h
   ·simp at h
theorem T1 {kp:Bool} {A:Nat→Bool} {m:Nat} {S0:List Ent} {tk0:List Nat} {f:St→Option (Ex × St)} (hf:∀ st ex st',Pc A m S0 tk0 st→f st=some (ex,st')→Pc A m S0 tk0 st'):∀ {k:Nat} {st st':St} {ex:Ex},Pc A m S0 tk0 st→Jq kp f k st=some (ex,st')→Pc A m S0 tk0 st'
 | 0,_,_,_,_,h=>by simp [Jq] at h
 | k+1,st,st',ex,hI,h=>by
  simp only [Jq] at h
  split at h
  ·rename_i s1 h1
   have h2:=hf _ _ _ hI h1
   have hmm:m≤bif kp then s1.S.length else st.S.length:=by cases kp <;> first|exact hI.le|exact h2.le
   rw [W3] at h
   generalize (bif kp then s1.S.length else st.S.length)=mm at h hmm
   refine T1 (st:={ s1 with S:=s1.S.take mm }) hf ⟨?_,?_,h2.tk,h2.own⟩ h
   ·show (s1.S.take mm).take m=S0
    rw [List.take_take,Nat.min_eq_left hmm]; exact h2.S
   ·show m≤(s1.S.take mm).length
    rw [List.length_take]
    exact Nat.le_min.2 ⟨hmm,h2.le⟩
  ·exact hf _ _ _ hI h
theorem Y1 [Globs] {L:List Oper} {p:Nat} {al o:Oper} {all:List Oper} {nn:Nat} (h:Lp L=some (p,al,o)):¬ ∀ o ∈ L,o ∈ all∧M8 all nn o=true:=by
 intro hq
 unfold Lp at h
 split at h
 ·split at h
  ·rename_i hc
   simp only [Bool.and_eq_true,List.any_eq_true] at hc
   obtain ⟨x,hx,hx2⟩:=hc.2
   have hk:=(hq x (List.dropLast_subset _ hx)).2
   unfold xOp at hx2
   unfold M8 at hk
   split at hx2
   ·rename_i c hc'
    rw [hc'] at hk
    simp only at hk
    unfold Uo at hx2
    split at hx2 <;> rename_i hcal <;> simp_all
   ·simp at hx2
  ·simp at h
 ·simp at h
theorem Ep [Globs] [Ext P] {call:Dh} {ok:St→List Oper→Bool} {n nn m:Nat} {all:List Oper} {S0:List Ent} {tk0:List Nat} : ∀ (c:Code) (st:St) (ex:Ex) (st':St),(∀ o ∈ opsOf c,o ∈ all∧M8 all nn o=true)→Pc (fun q=>decide (nn≤q) && Ju all q) m S0 tk0 st→evC P call ok n c st=some (ex,st')→Pc (fun q=>decide (nn≤q) && Ju all q) m S0 tk0 st'
 | .skip,st,ex,st',_,hI,h=>by simp only [evC,Option.some.injEq,Prod.mk.injEq] at h; obtain ⟨_,rfl⟩:=h; exact hI
 | .exit _,st,ex,st',_,hI,h=>by simp only [evC,Option.some.injEq,Prod.mk.injEq] at h; obtain ⟨_,rfl⟩:=h; exact hI
 | .ret,st,ex,st',_,hI,h=>by simp only [evC,Option.some.injEq,Prod.mk.injEq] at h; obtain ⟨_,rfl⟩:=h; exact hI
 | .region _ ops draw,st,ex,st',hq,hI,h=>by
  simp only [opsOf] at hq
  simp only [evC] at h
  split at h
  ·split at h
   ·rename_i ini o hsp
    obtain ⟨hL,-⟩:=Kv hsp
    rw [hL] at hq
    split at h
    ·split at h
     ·rename_i s1 h1
      simp only [Option.map_eq_some_iff,Prod.mk.injEq] at h
      obtain ⟨s2,h2,_,rfl⟩:=h
      exact J4 (fun x hx=>hq x (List.mem_append.2 (.inr hx))) (J4 (G:=gM _) (fun x hx=>hq x (List.mem_append.2 (.inl hx))) hI h1) h2
     ·simp at h
    ·simp at h
   ·split at h
    ·rename_i hlt
     exact absurd hq (Y1 hlt)
    ·split at h
     ·simp only [Option.map_eq_some_iff,Prod.mk.injEq] at h
      obtain ⟨s1,h,_,rfl⟩:=h
      exact J4 (G:=gM _) hq hI h
     ·simp at h
  ·simp only [Option.map_eq_some_iff,Prod.mk.injEq] at h
   obtain ⟨s1,h,_,rfl⟩:=h
   exact J4 hq hI h
 | .seq a b,st,ex,st',hq,hI,h=>by
  simp only [opsOf,List.mem_append] at hq
  simp only [evC] at h
  split at h
  ·rename_i s1 h1
   exact Ep b _ _ _ (fun o ho=>hq o (.inr ho)) (Ep a _ _ _ (fun o ho=>hq o (.inl ho)) hI h1) h
  ·exact Ep a _ _ _ (fun o ho=>hq o (.inl ho)) hI h
 | .cond x a b,st,ex,st',hq,hI,h=>by
  simp only [opsOf,List.mem_append] at hq
  simp only [evC] at h
  split at h
  ·split at h
   ·exact Ep a _ _ _ (fun o ho=>hq o (.inl ho)) hI h
   ·exact Ep b _ _ _ (fun o ho=>hq o (.inr ho)) hI h
  ·simp at h
 | .block id c,st,ex,st',hq,hI,h=>by
  simp only [opsOf] at hq
  simp only [evC] at h
  split at h
  ·rename_i id' s1 h1
   have:=Ep c _ _ _ hq hI h1
   split at h
   ·simp only [Option.some.injEq,Prod.mk.injEq] at h; obtain ⟨_,rfl⟩:=h; exact this
   ·simp only [Option.some.injEq,Prod.mk.injEq] at h; obtain ⟨_,rfl⟩:=h; exact this
  ·exact Ep c _ _ _ hq hI h
 | .loop c,st,ex,st',hq,hI,h=>by
  simp only [opsOf] at hq
  simp only [evC] at h
  exact T1 (fun s e s' hs hh=>Ep c s e s' hq hs hh) hI h
 | .rangeFunc _ _ _ _,_,_,_,_,_,h=>by simp [evC] at h
 | .scope c,st,ex,st',hq,hI,h=>by
  simp only [opsOf] at hq
  simp only [evC] at h
  exact Ep c _ _ _ hq hI h
 | .label _,st,ex,st',_,hI,h=>by simp only [evC,Option.some.injEq,Prod.mk.injEq] at h; obtain ⟨_,rfl⟩:=h; exact hI
 | .goto _,_,_,_,_,_,h=>by simp [evC] at h
 | .refuse _,_,_,_,_,_,h=>by simp [evC] at h
theorem Yt {args:List AV} {q n:Nat} (h:args.length≤q):getT (args++List.replicate n .bot) q=.bot:=by
 induction args generalizing q with
 | nil =>
  simp only [List.nil_append]
  induction n generalizing q with
  | zero=>rfl
  | succ n ih=>cases q with
   | zero=>rfl
   | succ q=>exact ih (by simp)
 | cons x args ih=>cases q with
  | zero=>simp at h
  | succ q=>exact ih (by simpa using h)
theorem N8 [Globs] [Ext P] [hX:Xv P] {ok:St→List Oper→Bool} : ∀ k M,@Ns (gM M) (@Ei (gM M) P _ (evF P ok k))
 | 0,M=>by intro f args S tk n r S' tk' n' h; simp [Ei,evF] at h
 | k+1,M=>by
  intro f args S tk n r S' tk' n' h
  by_cases hon:Ext.on P f=true
  ·have e:∀ S tk n,@Ei (gM M) P _ (evF P ok (k+1)) f args S tk n=@Ei (gM M) P _ (extC P) f args S tk n:=by
    intro S tk n; simp only [Ei,Um hon]
   rw [e] at h
   obtain ⟨g1,g2,g4⟩:=hX.indep M _ _ _ _ _ _ _ _ _ h
   exact .inr ⟨g1,g2,g4.imp _root_.id fun g4=>⟨g4.1,fun S2 tk2 n2=>by rw [e]; exact g4.2 S2 tk2 n2⟩⟩
  by_cases hxf:(@xF (gM M) f && @Globs.dr (gM M))=true
  ·exact .inl hxf
  right
  unfold Ei at h
  split at h
  ·rename_i hp
   by_cases hpu:((args.map w2).all pure2 && !Ext.mv P f)=true
   ·have hp':=hpu
    simp only [Bool.and_eq_true,Bool.not_eq_true'] at hp'
    obtain ⟨hp1,hmv⟩:=hp'
    simp only [evF] at h
    rw [if_neg hon] at h
    split at h
    ·rename_i fn hf
     split at h
     ·rename_i c hb
      split at h
      ·simp at h
      ·rename_i hname
       simp only [hmv,hp1,if_true,Bool.false_eq_true,if_false] at h
       split at h
       ·rename_i r' ho
        simp only [Option.some.injEq,Prod.mk.injEq] at h
        obtain ⟨rfl,rfl,rfl,rfl⟩:=h
        refine ⟨rfl,rfl,.inr ⟨rfl,fun S2 tk2 n2=>?_⟩⟩
        unfold Ei
        rw [if_pos hp]
        simp only [evF,hf,hb]
        rw [if_neg hon,if_neg hname,if_neg (by rw [hmv]; simp),if_pos hp1,ho]
       ·simp at h
     ·simp at h
    ·simp at h
   ·have hsh:(@shF (gM M) f && Mg P f args.length && !Ext.mv P f && !Ext.on P f)=true:=by
     cases hx:((args.map w2).all pure2 && !Ext.mv P f) with
     | true=>exact absurd hx hpu
     | false=>rw [hx] at hp; simpa [hxf] using hp
    simp only [Bool.and_eq_true,Bool.not_eq_true'] at hsh
    obtain ⟨⟨⟨h1,h2⟩,hmv⟩,-⟩:=hsh
    have hpp:¬ (args.map w2).all pure2=true:=fun h=>hpu (by simp [h,hmv])
    simp only [evF] at h
    rw [if_neg hon] at h
    unfold Mg at h2
    split at h
    ·rename_i fn hf
     rw [hf] at h2
     simp only at h2
     split at h
     ·rename_i c hb
      rw [hb] at h2
      simp only at h2
      split at h
      ·simp at h
      ·simp only [hmv,hpp,Bool.false_eq_true,if_false] at h
       split at h
       ·rename_i r' st ho
        simp only [Option.some.injEq,Prod.mk.injEq] at h
        obtain ⟨rfl,rfl,rfl,rfl⟩:=h
        have hout:∃ ex,evC P (evF P ok k) ok k c ⟨args++List.replicate (fn.ntmps - args.length) .bot,S,tk,n⟩=some (ex,st):=by
         generalize evC P (evF P ok k) ok k c ⟨args++List.replicate (fn.ntmps - args.length) .bot,S,tk,n⟩=o at ho
         unfold outA at ho
         split at ho
         ·simp only [Option.map_eq_some_iff,Prod.mk.injEq] at ho; obtain ⟨_,_,_,rfl⟩:=ho; exact ⟨_,rfl⟩
         ·simp only [Option.map_eq_some_iff,Prod.mk.injEq] at ho; obtain ⟨_,_,_,rfl⟩:=ho; exact ⟨_,rfl⟩
         ·simp at ho
        obtain ⟨ex,hex⟩:=hout
        have hK:=Ep (all:=opsOf c) (nn:=args.length) (m:=S.length) (S0:=S) (tk0:=tk) c _ _ _ (fun o ho=>⟨ho,List.all_eq_true.1 h2 o ho⟩)
         ⟨List.take_length,Nat.le_refl _,rfl,fun q hq=>.inl (Yt (by simp only [Bool.and_eq_true,decide_eq_true_eq] at hq; exact hq.1))⟩ hex
        exact ⟨hK.S,hK.tk,.inl h1⟩
       ·simp at h
     ·simp at h
    ·simp at h
  ·simp at h
theorem Rt [Globs] [Ext P] [hX:Xv P] {ok:St→List Oper→Bool} (hd:V6 P ok):∀ k,Jj P (evF P ok k)
 | 0=>by intro f args S tk n r S' tk' n' h; simp [evF] at h
 | k+1=>by
  have hc:=Rt hd k
  intro f args S tk n r S' tk' n' h
  by_cases hon:Ext.on P f=true
  ·rw [Um hon] at h
   exact hX.ok _ _ _ _ _ _ _ _ _ h
  simp only [evF] at h
  rw [if_neg hon] at h
  split at h
  ·rename_i fn hf
   split at h
   ·rename_i c hb
    split at h
    ·simp at h
    ·rename_i hname
     refine ⟨⟨fn,hf,by simpa using hname,by rw [hb]; rfl⟩,?_⟩
     rintro C vs rfl rfl rfl hs hv
     split at h
     ·split at h
      ·rename_i r' st ho
       simp only [Option.some.injEq,Prod.mk.injEq] at h
       obtain ⟨rfl,rfl,rfl,rfl⟩:=h
       exact Lx hc (N8 k) hd (k:=k) hf hb hs hv ho
      ·simp at h
     split at h
     ·rename_i hp
      split at h
      ·rename_i r' ho
       simp only [Option.some.injEq,Prod.mk.injEq] at h
       obtain ⟨rfl,rfl,rfl,rfl⟩:=h
       have hst:Stays C.w C.alone.w C.Avoid C.alone.Avoid:=fun b o v h1 h2=>⟨h1,fun h3=>h3.elim h2 Nf⟩
       have hv':=Kw hst hp (Aat hv)
       have one:∀ {as:List AV} {r0:AV},VRs C.alone as vs.toList→runP P ok (evF P ok k) k fn c as=some r0→Calls P f vs C.w fun e w'=>∃ v C',e=.returned v∧C'.w=w'∧Le C C'∧SR C'∧C'.S=C.S∧C'.tk=C.tk∧C'.n=C.n∧VR C' r0 v:=by
        intro as r0 hv' hrun
        unfold runP at hrun
        split at hrun
        ·rename_i r' st ho
         split at hrun
         ·rename_i hp3
          simp only [Option.some.injEq] at hrun
          subst hrun
          refine Calls.mono (Lx hc (N8 k) hd (k:=k) hf hb hs.alone hv' ho) ?_
          rintro e w' ⟨v,C',rfl,rfl,hle,hs',hS',-,-,h2⟩
          have hbel:Below C.w.heap.size C.w C'.w:=⟨hle.os,hle.tape,hle.output,hle.size,fun b hb=>hle.keep b hb fun o=>Nf⟩
          refine ⟨v,C.at C'.w,rfl,rfl,Le.of_below hbel,SR.of_below hs hbel,rfl,rfl,rfl,?_⟩
          have h3:=Ri hs' 0 h2
          rw [hS'] at h3
          refine X1 (C:={ C' with S:=st.S.take 0 }) (fun b o x h1 h2=>⟨h1,fun h3=>h2 (.inl ?_)⟩) hp3 (VR_w3 h3)
          show C'.av b o
          rw [hle.av]; exact h3
         ·simp at hrun
        ·simp at hrun
       split at ho
       ·unfold runN at ho
        split at ho
        ·rename_i l hl
         split at ho
         ·rename_i q1 q2
          simp only [Option.some.injEq] at ho
          subst ho
          rw [hl] at hv'
          cases hvl:vs.toList with
          | nil=>rw [hvl] at hv'; simp only [VRs] at hv'
          | cons x xs =>
           rw [hvl] at hv'
           simp only [VRs] at hv'
           obtain ⟨hx,hxs⟩:=hv'
           simp only [VR] at hx
           obtain ⟨a,len,cap,rfl,h1,h2,-,h4⟩:=hx
           cases a with
           | none=>exact one (as:=.frz [] .nl :: l) (by rw [hvl]; simp only [VRs,VR]; exact ⟨⟨none,len,cap,rfl,h1,h2,rfl,.inl trivial⟩,hxs⟩) q1
           | some a=>exact one (as:=.frz [] .nn :: l) (by rw [hvl]; simp only [VRs,VR]; exact ⟨⟨some a,len,cap,rfl,h1,h2,rfl,.inl trivial⟩,hxs⟩) q2
         ·simp at ho
        ·exact one hv' ho
       ·exact one hv' ho
      ·simp at h
     ·split at h
      ·rename_i r' st ho
       simp only [Option.some.injEq,Prod.mk.injEq] at h
       obtain ⟨rfl,rfl,rfl,rfl⟩:=h
       refine Calls.mono (Lx hc (N8 k) hd (k:=k) hf hb hs hv ho) ?_
       rintro e w' ⟨v,C',rfl,rfl,hle,hs',e1,e2,e3,h2⟩
       have h3:=Ri hs' C.S.length h2
       rw [e1] at h3
       exact ⟨v,{ C' with S:=C'.S.take C.S.length },rfl,rfl,hle.trans (Le.take _),hs'.take _,by rw [← e1],e2,e3,by rw [e1]; exact h3⟩
      ·simp at h
   ·simp at h
  ·simp at h
end
end Go.Proofs.YtcjffhadclngmaaGreat
