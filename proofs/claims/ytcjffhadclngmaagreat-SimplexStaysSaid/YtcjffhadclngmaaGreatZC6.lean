/- EvTail EvOwn EvRun EvFun -/
import Derived.Test.YtcjffhadclngmaaGreatZC5
import Derived.Orders
import Derived.Scope
namespace Go.Proofs.YtcjffhadclngmaaGreat
section
open Go.RowKit
section
variable {P:Program} {ops:Array Oper}
theorem Eh {listed:Array Bool} {i:Nat} (h:i ∈ Region.ready .any ops listed):listed.getD i true=false/\∃ o,ops[i]?=some o/\∀ e ∈ depsOf ops i,listed.getD e false=true:=by
 obtain ⟨h0,o,ho,hd⟩:=mem_ready.1 h
 refine ⟨h0,o,ho,fun e he=>?_⟩
 unfold depsOf at he
 rw [ho] at he
 simp only [List.mem_map,List.mem_filter] at he
 obtain ⟨x,⟨hx,hb⟩,rfl⟩:=he
 exact hd x (by simpa using hx) hb
theorem Mk {listed:Array Bool} {i:Nat} {o:Oper} (h0:listed.getD i true=false) (ho:ops[i]?=some o) (hd:∀ e ∈ depsOf ops i,listed.getD e false=true):i ∈ Region.ready .any ops listed:=by
 refine mem_ready.2 ⟨h0,o,ho,fun e he hb=>hd _ ?_⟩
 unfold depsOf; rw [ho]
 exact List.mem_map.2 ⟨e,List.mem_filter.2 ⟨by simpa using he,hb⟩,rfl⟩
theorem Dc {listed:Array Bool} (hc:∀ j,listed.getD j false=true->∀ e ∈ depsOf ops j,listed.getD e false=true) {i:Nat} (hd:∀ e ∈ depsOf ops i,listed.getD e false=true) :
  ∀ e ∈ reachAt ops i,listed.getD e false=true:=by
 unfold reachAt
 generalize (List.range i).reverse=l
 have key:∀ (l:List Nat) (s:List Nat),(∀ e ∈ s,listed.getD e false=true)->∀ e ∈ l.foldl (fun s j=>if s.contains j then depsOf ops j++s else s) s,listed.getD e false=true:=by
  intro l
  induction l with
  | nil=>intro s hs; exact hs
  | cons j l ih =>
   intro s hs
   simp only [List.foldl_cons]
   apply ih
   split
   ·rename_i hj
    intro e he
    rcases List.mem_append.1 he with h|h
    ·exact hc j (hs j (by simpa using hj)) e h
    ·exact hs e h
   ·exact hs
 exact key l _ hd
theorem Alp {o:Oper} {a:Act} {w:World} {K:Act->World->Prop} {Q Q':Exit->Act->World->Prop} (hp:∀ c a w,Q (.panic c) a w->Q' (.panic c) a w) (hl:LetsOut Q->LetsOut Q') (hh:o.wp P a w K Q):o.wp P a w K Q':=by
 unfold Oper.wp at *
 generalize (execOp a.eval o).run P w=r at *
 cases r with
 | ok n w' =>
  cases n <;> simp only [Oper.upon] at hh ⊢ <;>
   first
    | exact hh
    | exact Calls.mono hh (fun e w'' he=>by cases e <;> first|exact he|exact hp _ _ _ he|exact hl he)
    | exact Rows.mono hh (fun _ _ he=>he)
 | halt x w'=>cases x <;> simp only [Oper.upon] at hh ⊢ <;> first|exact hh|exact hp _ _ _ hh|exact hl hh
def Ahr (P:Program) (o:Oper) (Q:Exit->Act->World->Prop):Exit->Act->World->Prop
 | .normal=>fun a w=>o.wp P a w (fun a' w'=>Q .normal a' w') Q
 | ex=>Q ex
theorem G3 {listed:Array Bool} {j:Nat} {d:Bool} (h:j<listed.size):(listed.push false).getD j d=listed.getD j d:=by
 simp [Array.getD_eq_getD_getElem?,Array.getElem?_push,Nat.ne_of_lt h]
theorem Uy {listed:Array Bool} {d:Bool} : (listed.push false).getD listed.size d=false:=by
 simp [Array.getD_eq_getD_getElem?,Array.getElem?_push]
theorem Aay {init:Array Oper} {o:Oper} {Q:Exit->Act->World->Prop} (hg:o.guard=none) (f7:∀ j,j<init.size->j ∈ reachAt (init.push o) init.size) (dz:∀ e ∈ depsOf (init.push o) init.size,e<init.size)
  (vw:∀ i o',init[i]?=some o'->(∀ e ∈ depsOf init i,e<i)/\∀ g w,o'.guard=some (g,w)->g<init.size) :
  ∀ (fuel:Nat) (listed:Array Bool) (a:Act) (w:World),listed.size=init.size->(∀ j,listed.getD j false=true->∀ e ∈ depsOf init j,listed.getD e false=true) ->
   wpAny P .any init (Ahr P o Q) fuel listed a w->wpAny P .any (init.push o) Q (fuel+1) (listed.push false) a w:=by
 have gy:∀ i,i<init.size->(init.push o)[i]?=init[i]?:=fun i hi=>by rw [Array.getElem?_push,if_neg (by omega)]
 have jj:(init.push o)[init.size]?=some o:=by simp
 have hdo:∀ i,i<init.size->depsOf (init.push o) i=depsOf init i:=fun i hi=>by unfold depsOf; rw [gy i hi]
 have ie:∀ (listed:Array Bool),listed.size=init.size->∀ i,i<init.size->(i ∈ Region.ready .any (init.push o) (listed.push false)↔i ∈ Region.ready .any init listed):=by
  intro listed j4 i hi
  constructor
  ·intro h
   obtain ⟨h0,o',eo,hd⟩:=Eh h
   rw [G3 (by omega)] at h0
   rw [gy i hi] at eo
   rw [hdo i hi] at hd
   refine Mk h0 eo fun e he=>?_
   have:=hd e he
   have hlt:=(vw i o' eo).1 e he
   rwa [G3 (by omega)] at this
  ·intro h
   obtain ⟨h0,o',eo,hd⟩:=Eh h
   refine Mk (by rw [G3 (by omega)]; exact h0) (by rw [gy i hi]; exact eo) fun e he=>?_
   rw [hdo i hi] at he
   have hlt:=(vw i o' eo).1 e he
   rw [G3 (by omega)]; exact hd e he
 have vz:∀ (listed:Array Bool),listed.size=init.size->Region.ready .any init listed=[]->∀ j,j<init.size->listed.getD j false=true:=by
  intro listed j4 dh j
  induction j using Nat.strongRecOn with
  | _ j ihj =>
   intro hj
   cases hl:listed.getD j false with
   | true=>rfl
   | false =>
    exfalso
    have:j ∈ Region.ready .any init listed:=by
     refine Mk ?_ (Array.getElem?_eq_getElem hj) fun e he=>?_
     ·have fu:j<listed.size:=by omega
      simpa [Array.getD,fu] using hl
     ·have:=(vw j _ (Array.getElem?_eq_getElem hj)).1 e he
      exact ihj e this (by omega)
    rw [dh] at this; simp at this
 have y4:∀ (listed:Array Bool),listed.size=init.size->(∀ j,listed.getD j false=true->∀ e ∈ depsOf init j,listed.getD e false=true)->init.size ∈ Region.ready .any (init.push o) (listed.push false)->Region.ready .any init listed=[]:=by
  intro listed j4 hcl h
  obtain ⟨-,o',-,hd⟩:=Eh h
  have hc2:∀ j,(listed.push false).getD j false=true->∀ e ∈ depsOf (init.push o) j,(listed.push false).getD e false=true:=by
   intro j hj e he
   by_cases hjn:j<init.size
   ·rw [G3 (by omega)] at hj
    rw [hdo j hjn] at he
    have hlt:=(vw j _ (Array.getElem?_eq_getElem hjn)).1 e he
    rw [G3 (by omega)]; exact hcl j hj e he
   ·exfalso
    by_cases y5:j=init.size
    ·rw [y5,<- j4,Uy] at hj; cases hj
    ·rw [Array.getD_eq_getD_getElem?,Array.getElem?_eq_none (by simp; omega)] at hj; cases hj
  have bc:∀ j,j<init.size->listed.getD j false=true:=fun j hj=>by
   have:=Dc hc2 hd j (f7 j hj)
   rwa [G3 (by omega)] at this
  cases hr:Region.ready .any init listed with
  | nil=>rfl
  | cons x l =>
   have hx:x ∈ Region.ready .any init listed:=by rw [hr]; simp
   obtain ⟨h0,o',eo,-⟩:=Eh hx
   have hxl:=(Array.getElem?_eq_some_iff.1 eo).1
   have h1:=bc x hxl
   have hxs:x<listed.size:=by omega
   simp [Array.getD,hxs] at h0 h1
   rw [h0] at h1; cases h1
 have v7:∀ (fuel:Nat) (listed:Array Bool) (a:Act) (w:World),listed.size=init.size->(∀ j,j<init.size->listed.getD j false=true)->Ahr P o Q .normal a w ->
   wpOp P (init.push o) Q init.size (wpAny P .any (init.push o) Q fuel ((listed.push false).setIfInBounds init.size true)) a w:=by
  intro fuel listed a w j4 bc h
  have dh:Region.ready .any (init.push o) ((listed.push false).setIfInBounds init.size true)=[]:=by
   cases hr:Region.ready .any (init.push o) ((listed.push false).setIfInBounds init.size true) with
   | nil=>rfl
   | cons x l =>
    exfalso
    have hx:x ∈ Region.ready .any (init.push o) ((listed.push false).setIfInBounds init.size true):=by rw [hr]; simp
    obtain ⟨h0,o',eo,-⟩:=Eh hx
    have hxl:=(Array.getElem?_eq_some_iff.1 eo).1
    rw [Array.size_push] at hxl
    rw [Array.getD_eq_getD_getElem?,Array.getElem?_setIfInBounds] at h0
    split at h0
    ·split at h0
     ·cases h0
     ·rename_i h1 h2; exact h2 (by simp; omega)
    ·have h1:=bc x (by omega)
     rw [<- Array.getD_eq_getD_getElem?,G3 (by omega)] at h0
     have hxs:x<listed.size:=by omega
     simp [Array.getD,hxs] at h0 h1
     rw [h0] at h1; cases h1
  unfold wpOp
  rw [jj]
  simp only
  have hw:Region.wanted o (yielded (init.push o) a.tmps)=true:=by unfold Region.wanted; rw [hg]
  rw [if_pos hw]
  left
  refine Oper.wp_mono (fun a' w' hq=>?_) h
  cases fuel with
  | zero=>exact ⟨dh,hq⟩
  | succ fuel=>exact ⟨fun _=>hq,fun i hi=>by rw [dh] at hi; simp at hi⟩
 intro fuel
 induction fuel with
 | zero =>
  intro listed a w j4 hcl h
  obtain ⟨dh,hq⟩:=h
  have bc:=vz listed j4 dh
  have gn:init.size ∈ Region.ready .any (init.push o) (listed.push false):=by
   refine Mk (by rw [<- j4,Uy]) jj fun e he=>?_
   have:=dz e he
   rw [G3 (by omega)]; exact bc e this
  refine ⟨fun hn=>by rw [hn] at gn; simp at gn,fun i hi=>?_⟩
  by_cases wa:i<init.size
  ·rw [ie listed j4 i wa,dh] at hi; simp at hi
  ·have ko:i=init.size:=by
    obtain ⟨-,o',eo,-⟩:=Eh hi
    have:=(Array.getElem?_eq_some_iff.1 eo).1
    rw [Array.size_push] at this; omega
   subst ko
   exact v7 0 listed a w j4 bc hq
 | succ fuel ih =>
  intro listed a w j4 hcl h
  obtain ⟨h1,h2⟩:=h
  refine ⟨fun hn=>?_,fun i hi=>?_⟩
  ·exfalso
   have dh:Region.ready .any init listed=[]:=by
    cases hr:Region.ready .any init listed with
    | nil=>rfl
    | cons x l =>
     have hx:x ∈ Region.ready .any init listed:=by rw [hr]; simp
     obtain ⟨-,o',eo,-⟩:=Eh hx
     have:=(ie listed j4 x (Array.getElem?_eq_some_iff.1 eo).1).2 hx
     rw [hn] at this; simp at this
   have bc:=vz listed j4 dh
   have gn:init.size ∈ Region.ready .any (init.push o) (listed.push false):=by
    refine Mk (by rw [<- j4,Uy]) jj fun e he=>?_
    have:=dz e he
    rw [G3 (by omega)]; exact bc e this
   rw [hn] at gn; simp at gn
  ·by_cases wa:i<init.size
   ·have au:=(ie listed j4 i wa).1 hi
    have h3:=h2 i au
    obtain ⟨h0,o',eo,hd⟩:=Eh au
    have ao:(listed.push false).setIfInBounds i true=(listed.setIfInBounds i true).push false:=by
     apply Array.ext'
     simp [List.set_append,j4,wa]
    have wb:∀ j,(listed.setIfInBounds i true).getD j false=true->∀ e ∈ depsOf init j,(listed.setIfInBounds i true).getD e false=true:=by
     intro j hj e he
     have hup:∀ e,listed.getD e false=true->(listed.setIfInBounds i true).getD e false=true:=fun e he=>by
      rw [Array.getD_eq_getD_getElem?,Array.getElem?_setIfInBounds]
      split
      ·rw [if_pos (by rename_i h; omega)]; rfl
      ·rw [<- Array.getD_eq_getD_getElem?]; exact he
     by_cases hji:j=i
     ·subst hji; exact hup e (hd e he)
     ·refine hup e (hcl j ?_ e he)
      rw [Array.getD_eq_getD_getElem?,Array.getElem?_setIfInBounds,if_neg (fun h=>hji h.symm),<- Array.getD_eq_getD_getElem?] at hj
      exact hj
    have hk:∀ a' w',wpAny P .any init (Ahr P o Q) fuel (listed.setIfInBounds i true) a' w'->wpAny P .any (init.push o) Q (fuel+1) ((listed.push false).setIfInBounds i true) a' w':=fun a' w' h=>by
     rw [ao]; exact ih _ a' w' (by simpa using j4) wb h
    unfold wpOp at h3 ⊢
    rw [gy i wa]
    rw [eo] at h3 ⊢
    simp only at h3 ⊢
    have hy:Region.wanted o' (yielded (init.push o) a.tmps)=Region.wanted o' (yielded init a.tmps):=by
     unfold Region.wanted
     cases hgd:o'.guard with
     | none=>rfl
     | some x =>
      obtain ⟨g,b⟩:=x
      have hgl:=(vw i o' eo).2 g b hgd
      simp only [yielded,gy g hgl]
    rw [hy]
    split
    ·rename_i hw
     rw [if_pos hw] at h3
     rcases h3 with h3|⟨h3,h4⟩
     ·exact .inl (Oper.wp_mono hk (Alp (fun c a w h=>h) (fun ⟨a,w,h⟩=>⟨a,w,h⟩) h3))
     ·exact .inr ⟨h3,let ⟨a,w,h⟩:=h4; ⟨a,w,h⟩⟩
    ·rename_i hw
     rw [if_neg hw] at h3
     exact hk _ _ h3
   ·have ko:i=init.size:=by
     obtain ⟨-,o',eo,-⟩:=Eh hi
     have:=(Array.getElem?_eq_some_iff.1 eo).1
     rw [Array.size_push] at this; omega
    subst ko
    have dh:=y4 listed j4 hcl hi
    exact v7 (fuel+1) listed a w j4 (vz listed j4 dh) (h1 dh)
end
end
section
open Go.RowKit
section
variable {P:Program}
theorem Adc {C:Cx} {sz m:Nat} {y:AV} {ys:List AV} {vy:Value} (hy:VR C y vy) (h:litC sz y=some (m,ys)) (h0:0<m) (hs:0<sz) :
  ∃ b o cap vs,vy=.slice (some ⟨b,o,none⟩) m cap/\VRs C ys vs/\vs.length=m*sz/\Lie C.w C.Avoid b o vs/\(∀ v ∈ vs,v.oneCell'=true):=by
 unfold litC at h
 split at h
 ·rename_i es c
  split at h
  ·rename_i hh
   simp only [Option.some.injEq,Prod.mk.injEq] at h
   obtain ⟨rfl,rfl⟩:=h
   simp only [VR] at hy
   obtain ⟨a,len,cap,rfl,e1,e2,e3,e4⟩:=hy
   rcases e4 with rfl|⟨b,o,sz',rfl,hr⟩
   ·simp at h0
   ·have hne:es≠[]:=by intro e; subst e; simp at h0
    have:=Mf hr hh.1 hne
    subst this
    obtain ⟨l,g1,g2,g3⟩:=Gz hr
    exact ⟨b,o,cap,l,by rw [e1],Jj g2,g1,g3,V1 g2⟩
  ·simp at h
 ·rename_i len cs
  split at h
  ·rename_i hh
   simp only [Option.some.injEq,Prod.mk.injEq] at h
   obtain ⟨rfl,rfl⟩:=h
   simp only [VR] at hy
   obtain ⟨b,vs,rfl,hl,hv⟩:=hy
   have:=A3 hv
   exact ⟨b,0,len,vs,rfl,hv,by omega,hl,Mz hv hh.2⟩
  ·simp at h
 ·simp at h
def Cx.turn (C:Cx) (w:World) (id b:Nat) (cs:List AV):Cx:={ C with w:=w,φ:=fun i=>if i=id then b else C.φ i,S:=put C.S id ⟨C.n,cs⟩,n:=C.n+1 }
theorem Ab1 {C:Cx} {w:World} {id b:Nat} {cs:List AV} {x o:Nat} (hm:(C.turn w id b cs).Mut x o):C.Mut x o\/x=b:=by
 rcases hm with ⟨i,hi,e⟩|h
 ·simp only [Cx.turn,Ah] at hi e
  split at e
  ·exact .inr e.symm
  ·exact .inl (.inl ⟨i,hi,e⟩)
 ·exact .inl (.inr h)
theorem Le.turn {C:Cx} {w:World} {id b:Nat} {cs:List AV} (hid:id<C.S.length) (hb:b=C.φ id\/C.w.heap.size<=b) (hos:w.os=C.w.os) (vf:w.tape=C.w.tape) (dv:w.output=C.w.output) (vg:C.w.heap.size<=w.heap.size)
  (hcell:∀ x o v,C.w.cell? ⟨x,o,none⟩=some v->¬ C.Mut x o->w.cell? ⟨x,o,none⟩=some v) (vj:∀ x,x<C.w.heap.size->(∀ o,¬ C.Mut x o)->w.heap[x]?=C.w.heap[x]?)
  (qq:∀ (b:Nat) (cs:Array Value) (t:TypeId) (fz:Nat × Nat),C.w.heap[b]?=some (Obj.cells cs t fz)->∃ cs':Array Value,w.heap[b]?=some (Obj.cells cs' t fz)/\cs'.size=cs.size):Le C (C.turn w id b cs):=by
 refine ⟨hos,vf,dv,vg,rfl,Nat.le_succ _,fun x o hx hm=>?_,hcell,vj,qq,fun i e he hn=>?_,fun _ k hk=>⟨k,hk,Nat.le_refl _,fun _=>rfl⟩⟩
 ·rcases Ab1 hm with h|rfl
  ·exact h
  ·rcases hb with rfl|hb
   ·exact .inl ⟨id,hid,rfl⟩
   ·omega
 ·by_cases h:id=i
  ·subst h
   have:=D7 he
   subst this
   simp at hn
  ·simp only [Cx.turn] at he ⊢
   rw [Ac h] at he
   exact ⟨e,he,rfl,by rw [if_neg (fun x=>h x.symm)]⟩
theorem SR.turn [Globs] {C:Cx} (am:SR C) {w:World} {id b:Nat} {cs:List AV} {arr:Array Value} {t:TypeId} (hid:id<C.S.length) (hb:b=C.φ id\/C.w.heap.size<=b) (hle:Le C (C.turn w id b cs)) (fh:w.heap[b]?=some (.cells arr t (0,0)))
  (vk:∀ i,i<C.S.length->i≠id->w.heap[C.φ i]?=C.w.heap[C.φ i]?) (hv:∃ vs r,arr.toList=vs++r/\VRs C cs vs):SR (C.turn w id b cs):=by
 have hne:∀ i,i<C.S.length->i≠id->C.φ i≠b:=fun i hi h e=>by
  rcases hb with hb|hb
  ·exact h (am.ne i id hi hid (by rw [e,hb]))
  ·have:=Mh am hi; omega
 refine ⟨fun i x hx=>?_,fun i j hi hj h=>?_,am.tok,fun i j o hi hj h h1 h2=>?_,fun x o hm=>?_,fun x o ha=>Nat.lt_of_lt_of_le (am.avlt x o ha) hle.size,fun i o hi h1 h2=>Nat.lt_of_lt_of_le (am.tlt i o hi h1 h2) hle.size,Nn am hle⟩
 ·by_cases h:id=i
  ·subst h
   have:=D7 hx
   subst this
   obtain ⟨vs,r,hv1,hv2⟩:=hv
   exact ⟨Nat.lt_succ_self _,arr,t,by simp only [Cx.turn,if_true]; exact fh,vs,r,hv1,VRs.mono hle _ _ hv2⟩
  ·have hx':nth C.S i=some x:=by simp only [Cx.turn] at hx; rw [<- Ac h]; exact hx
   obtain ⟨h1,a',t',h2,vs,r,tn,h3⟩:=am.ent i x hx'
   refine ⟨Nat.lt_succ_of_lt h1,a',t',?_,vs,r,tn,VRs.mono hle _ _ h3⟩
   simp only [Cx.turn]
   rw [if_neg (fun e=>h e.symm),vk i (Bk hx') (fun e=>h e.symm)]; exact h2
 ·simp only [Cx.turn,Ah] at hi hj h
  by_cases au:i=id <;> by_cases fd:j=id
  ·omega
  ·rw [if_pos au,if_neg fd] at h
   exact absurd h.symm (hne j hj fd)
  ·rw [if_neg au,if_pos fd] at h
   exact absurd h (hne i hi au)
  ·rw [if_neg au,if_neg fd] at h
   exact am.ne i j hi hj h
 ·simp only [Cx.turn,Ah] at hi h hj h1 h2
  by_cases au:i=id
  ·rw [if_pos au] at h
   rcases hb with rfl|hb
   ·exact am.apart id j o hid hj h h1 h2
   ·have:=am.tlt j o hj h1 h2; omega
  ·rw [if_neg au] at h
   exact am.apart i j o hi hj h h1 h2
 ·rcases Ab1 hm with h|rfl
  ·exact am.own x o h
  ·rcases hb with rfl|hb
   ·exact am.own _ o (.inl ⟨id,hid,rfl⟩)
   ·intro ha
    have:=am.avlt _ o ha; omega
theorem Ag6 [Globs] {C:Cx} (am:SR C) {t ty:TypeId} {x y av:AV} {vx vy:Value} {S':List Ent} {n':Nat} (hx:VR C x vx) (hy:VR C y vy) (h:apO P t x y C.S C.n=some (av,S',n')) :
  ∃ v C',(Builtin.append_ #[t,t] ty #[vx,vy]).run P C.w=.ok v C'.w/\Le C C'/\SR C'/\C'.S=S'/\C'.tk=C.tk/\C'.n=n'/\VR C' av v:=by
 unfold apO at h
 split at h
 case h_2=>simp at h
 rename_i sz hT
 split at h
 case h_2=>simp at h
 rename_i m ys hL
 split at h
 case isFalse=>simp at h
 rename_i hm
 obtain ⟨bm,hmr⟩:=hm
 simp only [roomy,decide_eq_true_eq] at hmr
 obtain ⟨e,i,z,hu,hi,hz,hsz,hpos,sy,hby,-⟩:=Va hT
 obtain ⟨b2,o2,cap2,news,rfl,a7,bl,yx,bz⟩:=Adc hy hL bm hpos
 have g8:∀ (j:Nat) u,news[j]?=some u->C.w.cell? (Addr.add ⟨b2,o2,none⟩ j)=some u:=fun j u hj=>by rw [Dt]; exact (J7 yx j u hj).1
 unfold apO2 at h
 split at h
 ·-- the first
  simp only [Option.some.injEq,Prod.mk.injEq] at h
  obtain ⟨rfl,rfl,rfl⟩:=h
  simp only [VR] at hx
  obtain ⟨a,len,cap,rfl,hlen,hcap,hC,hE⟩:=hx
  obtain ⟨rfl,hcl⟩:a=none/\cap=len:=hC
  simp only [List.length_nil] at hlen
  subst hlen
  subst hcl
  have fy:m*i.bytes<=140737488355328:=by
   have:m*i.bytes<=1048576*1048576:=Nat.mul_le_mul hmr hby
   omega
  have hrun:=run_append_nil (P:=P) C.w t ty e i z hu hi hz ⟨b2,o2,none⟩ m cap2 news (by rw [hsz]; exact bl) g8 (by omega) (by omega) (by omega)
  generalize hA:(news.toArray++Builtin.zeroCells z.cells (grownCap C.w m 0 e - m))=arr at hrun
  have mo:=grownCap_ge C.w m 0 e
  have a16:arr.size=grownCap C.w m 0 e*sz:=by
   rw [<- hA]
   simp only [Array.size_append,List.size_toArray,size_zeroCells,sy,bl]
   rw [Nat.sub_mul]
   have:=Nat.mul_le_mul_right sz mo
   omega
  have hd:Below C.w.heap.size C.w C.w.drew:=(Below.refl _ _).drew
  have a1i:SR (C.at C.w.drew):=SR.of_below am hd
  have hv:∃ vs r,arr.toList=vs++r/\VRs (C.at C.w.drew) ys vs:=⟨news,(Builtin.zeroCells z.cells (grownCap C.w m 0 e - m)).toList,by rw [<- hA]; simp,VRs.mono (Le.of_below hd) _ _ a7⟩
  refine ⟨_,(C.at C.w.drew).more arr e ys,hrun,(Le.of_below hd).trans (Le.more a1i _ _ _),SR.moreP a1i hv,rfl,rfl,rfl,?_⟩
  simp only [VR]
  refine ⟨C.w.heap.size,_,_,rfl,mo,.inr rfl,Nat.lt_succ_self _,fun e' qy nw=>⟨?_,arr,e,?_,by omega⟩⟩
  ·simp [Cx.more,Cx.at]
  ·exact Aq C.w.drew _
 ·-- the next ones
  rename_i id ep len sz'
  split at h
  case isFalse=>simp at h
  rename_i hh
  obtain ⟨rfl,dt⟩:=hh
  split at h
  case h_2=>simp at h
  rename_i cs kr
  split at h
  case isFalse=>simp at h
  rename_i hh
  obtain ⟨hcl,bj⟩:=hh
  simp only [roomy,decide_eq_true_eq] at bj
  simp only [Option.some.injEq,Prod.mk.injEq] at h
  obtain ⟨rfl,rfl,rfl⟩:=h
  obtain ⟨en,h1,h2,rfl⟩:=Dy kr
  simp only [VR] at hx
  obtain ⟨b,a,cap,rfl,hcap,ha,hn,hb⟩:=hx
  obtain rfl:=ha.resolve_left (by omega)
  obtain ⟨rfl,arr,tt,h3,ff⟩:=hb en h1 h2
  obtain ⟨-,arr',tt',h3',olds,r,hor,gz⟩:=am.ent id en h1
  rw [h3] at h3'
  simp only [Option.some.injEq,Obj.cells.injEq] at h3'
  obtain ⟨rfl,rfl,-⟩:=h3'
  have ek:=Bk h1
  have qj:=A3 gz
  have a16:arr.size=olds.length+r.length:=by rw [<- Array.length_toList,hor,List.length_append]
  have j2:len*sz'+m*sz'=(len+m)*sz':=(Nat.add_mul _ _ _).symm
  have a0b:VRs C (en.cells++ys) (olds++news):=G1 gz a7
  by_cases ei:len+m<=cap
  ·have o9:(len+m)*sz'<=cap*sz':=Nat.mul_le_mul_right _ ei
   have hrun:=J6 (P:=P) C.w t ty e i hu hi (C.φ id) len cap tt arr h3 ⟨b2,o2,none⟩ m cap2 news (by rw [hsz]; exact bl) g8 bz ei (by rw [hsz,bl]; omega)
   rw [hsz] at hrun
   generalize hA:(arr.toList.take (len*sz')++news++arr.toList.drop (len*sz'+news.length)).toArray=arr1 at hrun
   have ku:arr1.size=arr.size:=by rw [<- hA]; simp; omega
   have io:arr.toList.take (len*sz')=olds:=by rw [hor,List.take_append_of_le_length (by omega),List.take_of_length_le (by omega)]
   have hv:∃ vs r,arr1.toList=vs++r/\VRs C (en.cells++ys) vs:=⟨olds++news,arr.toList.drop (len*sz'+news.length),by rw [<- hA,io],a0b⟩
   have ur:(C.w.setRow (C.φ id) arr1).heap[C.φ id]?=some (.cells arr1 tt (0,0)):=setRow_heap _ _ _ _ _ _ h3
   have hle:Le C (C.turn (C.w.setRow (C.φ id) arr1) id (C.φ id) (en.cells++ys)):=by
    have hm:∀ o,C.Mut (C.φ id) o:=fun o=>.inl ⟨id,ek,rfl⟩
    refine Le.turn ek (.inl rfl) rfl rfl rfl (by simp) (fun x o v hv hn=>?_) (fun x _ hn=>?_) (fun x d t' fz hd=>?_)
    ·have hne:x≠C.φ id:=fun h=>hn (h ▸ hm o)
     have:=setRow_other C.w (C.φ id) x arr1 hne
     simpa [World.cell?,this] using hv
    ·exact setRow_other C.w (C.φ id) x arr1 fun h=>hn 0 (h ▸ hm 0)
    ·by_cases h:x=C.φ id
     ·subst h
      rw [h3] at hd
      simp only [Option.some.injEq,Obj.cells.injEq] at hd
      obtain ⟨rfl,rfl,rfl⟩:=hd
      exact ⟨arr1,ur,ku⟩
     ·exact ⟨d,by rw [setRow_other _ _ _ _ h]; exact hd,rfl⟩
   refine ⟨_,_,hrun,hle,SR.turn am ek (.inl rfl) hle ur (fun i hi hne=>setRow_other _ _ _ _ fun h=>hne (am.ne i id hi ek h)) hv,rfl,rfl,rfl,?_⟩
   simp only [VR]
   refine ⟨C.φ id,_,_,rfl,ei,.inr rfl,Nat.lt_succ_self _,fun e' qy nw=>⟨by simp [Cx.turn],arr1,tt,ur,by omega⟩⟩
  ·have gm:cap<len+m:=by omega
   have fy:(len+m)*i.bytes<=140737488355328:=by
    have:(len+m)*i.bytes<=1048576*1048576:=Nat.mul_le_mul bj hby
    omega
   have hcells:∀ (j:Nat) v,olds[j]?=some v->C.w.cell? (Addr.add ⟨C.φ id,0,none⟩ j)=some v:=fun j v hj=>by
    rw [Dt,Nat.zero_add]
    have:arr.toList[j]?=some v:=by rw [hor,List.getElem?_append_left (List.getElem?_eq_some_iff.1 hj).1]; exact hj
    simp [World.cell?,h3]; simpa using this
   have hrun:=run_append_grow (P:=P) C.w t ty e i z hu hi hz ⟨C.φ id,0,none⟩ len cap olds (by rw [hsz]; omega) hcells ⟨b2,o2,none⟩ m cap2 news (by rw [hsz]; exact bl) g8 gm (by omega) (growslice_fits gm fy)
   generalize hA:(olds.toArray++news.toArray++Builtin.zeroCells z.cells (grownCap C.w (len+m) cap e - (len+m)))=arr1 at hrun
   have mo:=grownCap_ge C.w (len+m) cap e
   have a3o:arr1.size=grownCap C.w (len+m) cap e*sz':=by
    rw [<- hA]
    simp only [Array.size_append,List.size_toArray,size_zeroCells,sy,bl]
    rw [Nat.sub_mul]
    have:=Nat.mul_le_mul_right sz' mo
    omega
   have hbel:Below C.w.heap.size C.w (C.w.drew.alloc (.cells arr1 e)):=((Below.refl _ _).drew).alloc (by simp) _
   have ur:(C.w.drew.alloc (.cells arr1 e)).heap[C.w.heap.size]?=some (.cells arr1 e (0,0)):=Aq C.w.drew _
   have hle:Le C (C.turn (C.w.drew.alloc (.cells arr1 e)) id C.w.heap.size (en.cells++ys)) :=
    Le.turn ek (.inr (Nat.le_refl _)) hbel.os hbel.tape hbel.output hbel.size (fun x o v hv _=>by rw [Below.cell hbel (E9 hv)]; exact hv) (fun x hx _=>hbel.block x hx) (fun x d t' fz hd=>⟨d,Di hbel hd,rfl⟩)
   have hv:∃ vs r,arr1.toList=vs++r/\VRs C (en.cells++ys) vs:=⟨olds++news,(Builtin.zeroCells z.cells (grownCap C.w (len+m) cap e - (len+m))).toList,by rw [<- hA]; simp,a0b⟩
   refine ⟨_,_,hrun,hle,SR.turn am ek (.inr (Nat.le_refl _)) hle ur (fun i hi _=>hbel.block _ (Mh am hi)) hv,rfl,rfl,rfl,?_⟩
   simp only [VR]
   refine ⟨C.w.heap.size,_,_,rfl,mo,.inr rfl,Nat.lt_succ_self _,fun e' qy nw=>⟨by simp [Cx.turn],arr1,e,ur,by omega⟩⟩
 ·simp at h
end
end
section
open Go.RowKit
section
variable {P:Program}
theorem Le.take {C:Cx} (k:Nat):Le C { C with S:=C.S.take k }:=by
 refine ⟨rfl,rfl,rfl,Nat.le_refl _,rfl,Nat.le_refl _,?_,fun _ _ _ h _=>h,fun _ _ _=>rfl,fun _ cs _ _ h=>⟨cs,h,rfl⟩,?_,fun _ q h=>⟨q,h,Nat.le_refl _,fun _=>rfl⟩⟩
 ·rintro b o - (⟨i,hi,h⟩|h)
  ·exact .inl ⟨i,by simp at hi; omega,h⟩
  ·exact .inr h
 ·intro i e h _
  rw [Ae,List.getElem?_take] at h
  split at h
  ·exact ⟨e,by rw [Ae]; exact h,rfl,rfl⟩
  ·simp at h
theorem SR.take [Globs] {C:Cx} (hs:SR C) (k:Nat):SR { C with S:=C.S.take k }:=by
 have hle:=Le.take (C:=C) k
 refine ⟨fun i e h=>?_,fun i j hi hj h=>hs.ne i j (by simp at hi; omega) (by simp at hj; omega) h,hs.tok,fun i j o hi=>hs.apart i j o (by simp at hi; omega),?_,hs.avlt,hs.tlt,Nn hs hle⟩
 ·rw [Ae,List.getElem?_take] at h
  split at h
  ·obtain ⟨h1,cs,t,h2,vs,r,tn,h3⟩:=hs.ent i e (by rw [Ae]; exact h)
   exact ⟨h1,cs,t,h2,vs,r,tn,VRs.mono hle _ _ h3⟩
  ·simp at h
 ·rintro b o (⟨i,hi,h⟩|h)
  ·exact hs.own b o (.inl ⟨i,by simp at hi; omega,h⟩)
  ·exact hs.own b o (.inr h)
def J5 [Globs] (P:Program) (call:Dh):Prop :=
 ∀ f args S tk n r S' tk' n', call f args S tk n = some (r, S', tk', n') → (∃ fn, P.funcs[f]? = some fn ∧ (fn.name == "runtime.NumGoroutine") = false ∧ fn.body.isNone = false) ∧
  ∀ (C:Cx) (vs:Array Value),C.S=S->C.tk=tk->C.n=n->SR C->VRs C args vs.toList ->
   Calls P f vs C.w fun e w'=>∃ v C',e=.returned v/\C'.w=w'/\Le C C'/\SR C'/\C'.S=S'/\C'.tk=tk'/\C'.n=n'/\VR C' r v
theorem Gj {o:Oper} {a:Act} {w w':World} {v:Value} {next:Act->World->Prop} {Q:Exit->Act->World->Prop} (h:(execOp a.eval o).run P w=.ok (.value v) w') (hn:next (a.put o.dst v) w'):o.wp P a w next Q:=by
 unfold Oper.wp; rw [h]; exact hn
theorem G4 [Globs] {call:Dh} (hc:J5 P call) {C:Cx} {st st':St} {a:Act} {o:Oper} {av:AV} (hr:Rel C st a) (h:evO P call o st=some (av,st')) {next:Act->World->Prop} {Q:Exit->Act->World->Prop}
  (hn:∀ v C',Le C C'->SR C'->C'.S=st'.S->C'.tk=st'.tk->C'.n=st'.n->VR C' av v->next (a.put o.dst v) C'.w):o.wp P a C.w next Q/\st'.T=st.T:=by
 have hρ:=Abi hr.tmps
 have quiet:∀ av',evQ P o (opv st.T)=some av'->(av',st)=(av,st')->o.wp P a C.w next Q/\st'.T=st.T:=by
  intro av' hq e
  simp only [Prod.mk.injEq] at e
  obtain ⟨rfl,rfl⟩:=e
  obtain ⟨v,w',h1,h2,h3⟩:=Ag1 hr.sr hρ hq
  exact ⟨Gj h1 (hn v (C.at w') (Le.of_below h2) (SR.of_below hr.sr h2) hr.S hr.tk hr.n h3),rfl⟩
 unfold evO at h
 split at h
 ·rename_i t x e
  simp only [Option.map_eq_some_iff,Prod.mk.injEq] at h
  obtain ⟨v,h,rfl,rfl⟩:=h
  rw [<- hr.S] at h
  obtain ⟨u,h1,h2⟩:=Ye hr.sr (hρ x) h
  exact ⟨Gj (v:=u) (w':=C.w) (by simp [execOp,e,h1]) (hn u C (Le.refl C) hr.sr hr.S hr.tk hr.n h2),rfl⟩
 ·rename_i t x y e
  simp only [Option.map_eq_some_iff,Prod.mk.injEq] at h
  obtain ⟨S',h,rfl,rfl⟩:=h
  rw [<- hr.S] at h
  obtain ⟨C',h1,h2,h3,h4,h5,h6⟩:=Ah9 hr.sr (hρ x) (hρ y) h
  refine ⟨?_,rfl⟩
  unfold Oper.wp
  have:(execOp a.eval o).run P C.w=.ok .skip C'.w:=by simp [execOp,e,h1]
  rw [this]
  exact hn undef C' h2 h3 h4 (h5.trans hr.tk) (h6.trans hr.n) (by simp only [VR])
 ·rename_i t e
  simp only [Option.map_eq_some_iff,Prod.mk.injEq] at h
  obtain ⟨cs,h,rfl,rfl⟩:=h
  obtain ⟨zv,h1,rfl⟩:=Jl (w:=C.w) h
  refine ⟨Gj (v:=.pointer (some ⟨C.w.heap.size,0,none⟩)) (w':=C.w.alloc (.cells zv.cells t)) ?_ ?_,rfl⟩
  ·simp only [execOp,e,Instr.alloc,Sem.run_bind,h1,Result.andThen_ok,newVar,Hj,Sem.run_pure]
  ·have:=hn (.pointer (some ⟨C.w.heap.size,0,none⟩)) (C.more zv.cells t (zv.cells.toList.map cst1)) (Le.more hr.sr _ _ _) (SR.more hr.sr (Hw _)) (by simp [Cx.more,hr.S,hr.n]) hr.tk (by simp [Cx.more,hr.n]) (by rw [<- hr.S,<- hr.n]; exact Ak7)
   exact this
 ·rename_i t x e
  simp only [Option.map_eq_some_iff,Prod.mk.injEq] at h
  obtain ⟨cs,h,rfl,rfl⟩:=h
  have hv:=Gk h (hρ x)
  refine ⟨Gj (v:=.pointer (some ⟨C.w.heap.size,0,none⟩)) (w':=C.w.alloc (.cells (a.eval x).cells t)) ?_ ?_,rfl⟩
  ·simp only [execOp,e,Instr.box,Sem.run_bind,Result.andThen_ok,newVar,Hj,Sem.run_pure]
  ·have:=hn (.pointer (some ⟨C.w.heap.size,0,none⟩)) (C.more (a.eval x).cells t cs) (Le.more hr.sr _ _ _) (SR.more hr.sr hv) (by simp [Cx.more,hr.S,hr.n]) hr.tk (by simp [Cx.more,hr.n]) (by rw [<- hr.S,<- hr.n]; exact Ak7)
   exact this
 ·rename_i t l c e
  simp only [Option.map_eq_some_iff,Prod.exists] at h
  obtain ⟨l',sz,cs,h,hh⟩:=h
  obtain ⟨el,m,arr,r1,r2,r3,r4,r5⟩:=Afx (hρ l) (hρ c) h
  have hrun:(execOp a.eval o).run P C.w=.ok (.value (.slice (some ⟨C.w.heap.size,0,none⟩) l' m)) (C.w.alloc (.cells arr el)):=by simp [execOp,e,r1]
  have hb:Below C.w.heap.size C.w (C.w.alloc (.cells arr el)):=(Below.refl _ _).alloc (Nat.le_refl _) _
  have fh:cs.length=arr.size:=by rw [<- r2]; simp
  split at hh
  ·rename_i gm
   simp only [Prod.mk.injEq] at hh
   obtain ⟨rfl,rfl⟩:=hh
   have uu:l'*sz<=m*sz:=Nat.mul_le_mul_right _ r3
   have ab:Be C.tk .tight sz=true:=rfl
   have hn':Lr C .tight C.w.heap.size (l'*sz) (m*sz):=.inr (.inl (Nat.le_refl _))
   have hle:Le C (C.tok (C.w.alloc (.cells arr el)) .tight (C.w.heap.size,l'*sz,m*sz)) :=
    Le.of_tok ab hn' rfl rfl rfl hb.size (fun x o v hv _=>by rw [Below.cell hb (E9 hv)]; exact hv) (fun x hlt _=>hb.block x hlt) (fun b d t fz hd=>⟨d,Di hb hd,rfl⟩)
   have am:=SR.of_tok hr.sr ab hn' (fun _=>(Array.getElem?_eq_some_iff.1 (Aq C.w (.cells arr el))).1) hle (fun i hi=>hb.block _ (Mh hr.sr hi))
   have hcap:CapR (C.tok (C.w.alloc (.cells arr el)) .tight (C.w.heap.size,l'*sz,m*sz)) (.tok C.tk.length 0 sz) (some ⟨C.w.heap.size,0,none⟩) l' m:=Jw (c:=.tight) ab (.inr ⟨arr,el,rfl,rfl,Aq _ _,by omega⟩)
   have hv:VR (C.tok (C.w.alloc (.cells arr el)) .tight (C.w.heap.size,l'*sz,m*sz)) (mkV (len0 l) st.tk.length l' sz cs) (.slice (some ⟨C.w.heap.size,0,none⟩) l' m):=by
    unfold mkV
    split
    ·rename_i dt
     have o8:l'=0:=by
      cases l with
      | const v=>cases v with
       | int k z =>
        unfold len0 at dt
        split at dt
        ·rename_i k' he
         simp only [Operand.const.injEq,Value.int.injEq] at he
         obtain ⟨rfl,rfl⟩:=he
         simp [opv,cst,cst1,intN] at r5; exact r5.symm
        ·simp at dt
       | _=>simp [len0] at dt
      | _=>simp [len0] at dt
     subst o8
     simp only [VR]
     refine ⟨_,0,m,rfl,rfl,Nat.zero_le _,?_,.inl trivial⟩
     rw [<- hr.tk]
     exact hcap
    ·unfold N0
     split
     ·rename_i es u9
      split
      ·rename_i hp
       obtain ⟨g1,g2,g3,g4⟩:=Lc u9
       simp only [tokA,VR]
       refine ⟨_,l',m,rfl,by simp [g1],r3,by rw [<- hr.tk]; exact hcap,.inr ⟨C.w.heap.size,0,sz,rfl,?_⟩⟩
       obtain ⟨e1,e2,e3,e4,e5,e6,e7,e8,e9,e10,e11⟩:=Lt (w:=C.w.alloc (.cells arr el)) (x:=(C.w.heap.size,l'*sz,m*sz)) ab
       have ph:(es.map (·.map w1)).flatten=((arr.toList.map cst1).take (l'*sz)).map w1:=by rw [r2,<- g3,List.map_flatten]
       have vu:VRs C ((arr.toList.map cst1).take (l'*sz)) (arr.toList.take (l'*sz)):=(J3 (Hw _) (Lh (by rw [r2]; exact g4))).1
       refine Gm (l:=arr.toList.take (l'*sz)) (fun e he=>?_) ?_ (J8 fun j v hj=>?_)
       ·rw [List.mem_map] at he
        obtain ⟨e',qy,rfl⟩:=he
        rw [List.length_map]; exact g2 e' qy
       ·rw [ph]
        refine PRs.stays hle.stays _ _ (Jc (C:=C) ?_ (Ub vu))
        rw [r2,<- g3,List.all_eq_true]
        intro c hc
        rw [List.mem_map] at hc
        obtain ⟨c',eh,rfl⟩:=hc
        rw [List.mem_flatten] at eh
        obtain ⟨r,hr,eh⟩:=eh
        exact List.all_eq_true.1 (List.all_eq_true.1 hp r hr) c' eh
       ·rw [Nat.zero_add]
        have fu:j<l'*sz:=by
         have:=(List.getElem?_eq_some_iff.1 hj).1
         simp at this; omega
        rw [List.getElem?_take_of_lt fu] at hj
        constructor
        ·rw [e1]
         simp only [World.cell?,Aq]
         simpa using hj
        ·rintro (dp|ed)
         ·rw [e2] at dp
          have:=hr.sr.avlt _ _ dp; omega
         ·rcases R1 ab hn' ed with h|⟨-,h1,h2,-⟩
          ·exact hr.sr.fresh (Nat.le_refl _) (.inr h)
          ·omega
      ·simp only [tokA,VR]
     ·simp only [tokA,VR]
   exact ⟨Gj hrun (hn _ _ hle am hr.S (by show C.tk++[0]=_; rw [hr.tk]) hr.n hv),rfl⟩
  ·simp only [Prod.mk.injEq] at hh
   obtain ⟨rfl,rfl⟩:=hh
   subst r2
   refine ⟨Gj hrun (hn _ (C.more arr el (arr.toList.map cst1)) (Le.more hr.sr _ _ _) (SR.more hr.sr (Hw _)) (by simp [Cx.more,hr.S,hr.n]) hr.tk (by simp [Cx.more,hr.n]) ?_),rfl⟩
   simp only [VR]
   refine ⟨C.w.heap.size,some ⟨C.w.heap.size,0,none⟩,m,rfl,r3,.inr rfl,by rw [<- hr.n]; exact Nat.lt_succ_self _,fun e' qy nw=>⟨?_,arr,el,Aq _ _,?_⟩⟩
   ·rw [<- hr.S]
    simp [Cx.more]
   ·simp only [List.length_map,Array.length_toList] at r4
    omega
 ·rename_i c e
  split at h
  ·rename_i hb
   split at h
   ·rename_i x y t t' ji ht
    split at h
    ·split at h
     ·rename_i s5
      subst s5
      simp only [Option.map_eq_some_iff,Prod.mk.injEq,Prod.exists] at h
      obtain ⟨v,S',n',h,rfl,rfl⟩:=h
      have aa:=Kj hr.tmps c.args.toList
      rw [ji] at aa
      obtain ⟨ux,uy,hu⟩:=W2 aa
      rw [hu] at aa
      simp only [VRs,and_true] at aa
      rw [<- hr.S,<- hr.n] at h
      obtain ⟨w,C',h1,h2,h3,h4,h5,h6,h7⟩:=Ag6 (ty:=o.type) hr.sr aa.1 aa.2 h
      have ha:c.args.map a.eval=#[ux,uy]:=by rw [<- Array.toList_inj]; simp [hu]
      have q6:c.argTypes=#[t,t]:=by rw [<- Array.toList_inj]; simp [ht]
      exact ⟨Gj (v:=w) (w':=C'.w) (by simp [execOp,e,resolve,hb,ha,invoke,builtin,q6,h1]) (hn w C' h2 h3 h4 (h5.trans hr.tk) h6 h7),rfl⟩
     ·simp at h
    split at h
    ·rename_i s5
     subst s5
     simp only [Option.map_eq_some_iff,Prod.mk.injEq,Prod.exists] at h
     obtain ⟨v,tk',h,rfl,rfl⟩:=h
     have aa:=Kj hr.tmps c.args.toList
     rw [ji] at aa
     obtain ⟨ux,uy,hu⟩:∃ ux uy,c.args.toList.map a.eval=[ux,uy]:=by
      have:=A3 aa
      match hl:c.args.toList.map a.eval with
      | [p,q]=>exact ⟨p,q,rfl⟩
      | []=>rw [hl] at this; simp at this
      | [_]=>rw [hl] at this; simp at this
      | _ :: _ :: _ :: _=>rw [hl] at this; simp at this
     rw [hu] at aa
     simp only [VRs,and_true] at aa
     rw [<- hr.tk,<- hr.S] at h
     obtain ⟨w,C',h1,h2,h3,h4,h5,h6,h7⟩:=Acp (ty:=o.type) hr.sr aa.1 aa.2 h
     have ha:c.args.map a.eval=#[ux,uy]:=by rw [<- Array.toList_inj]; simp [hu]
     have q6:c.argTypes=#[t,t]:=by rw [<- Array.toList_inj]; simp [ht]
     exact ⟨Gj (v:=w) (w':=C'.w) (by simp [execOp,e,resolve,hb,ha,invoke,builtin,q6,h1]) (hn w C' h2 h3 (h4.trans hr.S) h5 (h6.trans hr.n) h7),rfl⟩
    ·simp only [Option.map_eq_some_iff,Prod.mk.injEq,Prod.exists] at h
     obtain ⟨v,tk',h,rfl,rfl⟩:=h
     have aa:=Kj hr.tmps c.args.toList
     rw [ji] at aa
     obtain ⟨ux,uy,hu⟩:=W2 aa
     rw [hu] at aa
     simp only [VRs,and_true] at aa
     rw [<- hr.tk] at h
     obtain ⟨w,C',h1,h2,h3,h4,h5,h6,h7⟩:=Aej (ty:=o.type) hr.sr aa.1 aa.2 h
     have ha:c.args.map a.eval=#[ux,uy]:=by rw [<- Array.toList_inj]; simp [hu]
     have q6:c.argTypes=#[t,t']:=by rw [<- Array.toList_inj]; simp [ht]
     exact ⟨Gj (v:=w) (w':=C'.w) (by simp [execOp,e,resolve,hb,ha,invoke,builtin,q6,h1]) (hn w C' h2 h3 (h4.trans hr.S) h5 (h6.trans hr.n) h7),rfl⟩
   ·simp at h
  ·rename_i hb
   split at h
   ·rename_i x y t t' ji ht
    simp only [Option.map_eq_some_iff,Prod.mk.injEq,Prod.exists] at h
    obtain ⟨m,S',h,rfl,rfl⟩:=h
    have aa:=Kj hr.tmps c.args.toList
    rw [ji] at aa
    obtain ⟨ux,uy,hu⟩:=W2 aa
    rw [hu] at aa
    simp only [VRs,and_true] at aa
    rw [<- hr.S] at h
    obtain ⟨C',h1,h2,h3,h4,h5,h6⟩:=Agt (ty:=o.type) (t':=t') hr.sr aa.1 aa.2 h
    have ha:c.args.map a.eval=#[ux,uy]:=by rw [<- Array.toList_inj]; simp [hu]
    have q6:c.argTypes=#[t,t']:=by rw [<- Array.toList_inj]; simp [ht]
    exact ⟨Gj (v:=.int .i64 (m:Int)) (w':=C'.w) (by simp [execOp,e,resolve,hb,ha,invoke,builtin,q6,h1]) (hn _ C' h2 h3 h4 (h5.trans hr.tk) (h6.trans hr.n) (by simp only [VR])),rfl⟩
   ·simp at h
  ·simp only [Option.map_eq_some_iff] at h
   obtain ⟨v,h,hh⟩:=h
   exact quiet v h hh
  ·split at h
   ·rename_i f args fv
    simp only [Option.map_eq_some_iff,Prod.mk.injEq,Prod.exists] at h
    obtain ⟨r,S',tk',n',h,rfl,rfl⟩:=h
    refine ⟨?_,rfl⟩
    unfold Ev at fv
    split at fv
    ·rename_i x m hx
     split at fv
     ·rename_i ti vi wc
      simp only [Option.map_eq_some_iff,Prod.mk.injEq] at fv
      obtain ⟨f',hm,rfl,rfl⟩:=fv
      have pm:=hρ x
      rw [wc] at pm
      simp only [VR] at pm
      obtain ⟨u,pm,hu⟩:=pm
      obtain ⟨⟨fn,g1,g2,g3⟩,dm⟩:=hc _ _ _ _ _ _ _ _ _ h
      have aa:VRs C (vi :: c.args.toList.map (opv st.T)) (u :: c.args.toList.map a.eval):=by simp only [VRs]; exact ⟨hu,Kj hr.tmps c.args.toList⟩
      have hC:=dm C (#[u]++c.args.map a.eval) hr.S hr.tk hr.n hr.sr (by simpa using aa)
      have hrun:(execOp a.eval o).run P C.w=.ok (.enter f' (#[u]++c.args.map a.eval)) C.w:=by
       have bl : ¬ fn.name = "runtime.NumGoroutine" := by simpa using g2
       have b6:¬ fn.body=none:=by intro hh; rw [hh] at g3; simp at g3
       have hmr:=Acs (P:=P) (w:=C.w) (u:=u) hm
       have hz0:(#[Value.iface ti u]++c.args.map a.eval)[0]?=some (.iface ti u):=by simp [Array.getElem?_append]
       have hz1:(#[Value.iface ti u]++c.args.map a.eval).extract 1 (#[Value.iface ti u]++c.args.map a.eval).size=c.args.map a.eval:=by
        apply Array.ext'; simp [List.take_of_length_le]
       simp only [execOp,e,resolve,hx,pm,invoke,Sem.run_bind,Sem.run_pure,Result.andThen_ok,hz0,hz1,callMethod]
       simp [callFunc,hmr,g1,bl,b6]
      unfold Oper.wp
      rw [hrun]
      refine Calls.mono hC ?_
      rintro e' w' ⟨v,C',rfl,rfl,k1,k2,k3,k4,k5,k6⟩
      exact hn v C' k1 k2 k3 k4 k5 k6
     ·simp at fv
    ·rename_i x hx
     split at fv
     ·rename_i f' caps wc
      simp only [Option.some.injEq,Prod.mk.injEq] at fv
      obtain ⟨rfl,rfl⟩:=fv
      have pm:=hρ x
      rw [wc] at pm
      simp only [VR] at pm
      obtain ⟨us,pm,wd⟩:=pm
      obtain ⟨⟨fn,g1,g2,g3⟩,dm⟩:=hc _ _ _ _ _ _ _ _ _ h
      have aa:=G1 (Kj hr.tmps c.args.toList) wd
      have hC:=dm C (c.args.map a.eval++us) hr.S hr.tk hr.n hr.sr (by simpa using aa)
      have hrun:(execOp a.eval o).run P C.w=.ok (.enter f' (c.args.map a.eval++us)) C.w:=by
       have bl : ¬ fn.name = "runtime.NumGoroutine" := by simpa using g2
       have b6:¬ fn.body=none:=by intro hh; rw [hh] at g3; simp at g3
       simp [execOp,e,resolve,hx,pm,Deferred.ofValue,invoke,callFunc,g1,bl,b6]
      unfold Oper.wp
      rw [hrun]
      refine Calls.mono hC ?_
      rintro e' w' ⟨v,C',rfl,rfl,k1,k2,k3,k4,k5,k6⟩
      exact hn v C' k1 k2 k3 k4 k5 k6
     ·rename_i f' caps wc
      simp only [Option.some.injEq,Prod.mk.injEq] at fv
      obtain ⟨rfl,rfl⟩:=fv
      have pm:=hρ x
      rw [wc] at pm
      simp only [VR] at pm
      obtain ⟨us,pm,wd⟩:=pm
      obtain ⟨⟨fn,g1,g2,g3⟩,dm⟩:=hc _ _ _ _ _ _ _ _ _ h
      have aa:=G1 wd (Kj hr.tmps c.args.toList)
      have hC:=dm C (us++c.args.map a.eval) hr.S hr.tk hr.n hr.sr (by simpa using aa)
      have hrun:(execOp a.eval o).run P C.w=.ok (.enter f' (us++c.args.map a.eval)) C.w:=by
       have bl : ¬ fn.name = "runtime.NumGoroutine" := by simpa using g2
       have b6:¬ fn.body=none:=by intro hh; rw [hh] at g3; simp at g3
       simp [execOp,e,resolve,hx,pm,Deferred.ofValue,invoke,callFunc,g1,bl,b6]
      unfold Oper.wp
      rw [hrun]
      refine Calls.mono hC ?_
      rintro e' w' ⟨v,C',rfl,rfl,k1,k2,k3,k4,k5,k6⟩
      exact hn v C' k1 k2 k3 k4 k5 k6
     ·simp at fv
    ·simp at fv
   ·simp at h
 ·simp only [Option.map_eq_some_iff] at h
  obtain ⟨v,h,hh⟩:=h
  exact quiet v h hh
theorem Hq {C:Cx} {T:List AV} {a:Act} {ops:Array Oper} {o:Oper} {b:Bool} (ht:VRs C T a.tmps.toList) (h:Hv ops.toList T o=some b):Region.wanted o (yielded ops a.tmps)=b:=by
 unfold Hv at h
 unfold Region.wanted
 split at h
 ·rename_i hg; rw [hg]; simpa using h
 ·rename_i g want hg
  rw [hg]
  simp only
  split at h
  ·simp at h
  ·rename_i d hd
   have ev:(ops[g]?).bind (·.dst)=some d:=by rw [Ae] at hd; simpa using hd
   unfold yielded
   rw [ev]
   simp only [Option.bind_some]
   by_cases hlt:d<T.length
   ·obtain ⟨v,h1,h2⟩:=Tn ht (Agd hlt)
    have y6:a.tmps[d]?=some v:=by simpa using h1
    rw [y6]
    split at h
    ·rename_i x hx
     rw [hx] at h2; simp only [VR] at h2; subst h2
     simpa using h
    ·rename_i x hx
     rw [hx] at h2; simp only [VR] at h2; subst h2
     simpa using h
    ·simp at h
   ·rw [Nd (Nat.le_of_not_lt hlt)] at h
    simp at h
theorem Rel.put [Globs] {C C':Cx} {st st':St} {a:Act} {d:Option Tmp} {v:Value} {av:AV} (hr:Rel C st a) (hle:Le C C') (hs:SR C') (h1:C'.S=st'.S) (h2:C'.tk=st'.tk) (h3:C'.n=st'.n) (hv:VR C' av v) (hT:st'.T=st.T) :
  Rel C' { st' with T:=putT st'.T d av } (a.put d v) :=
 ⟨h1,h2,h3,U8 (by rw [hT]; exact VRs.mono hle _ _ hr.tmps) hv,by cases d <;> exact hr.defers,hs⟩
theorem Nw [Globs] {call:Dh} (hc:J5 P call) {ops:Array Oper} {Q:Exit->Act->World->Prop} : ∀ {l:List Oper} {C:Cx} {st st':St} {a:Act},Rel C st a->evOs P call ops.toList l st=some st' ->
  (∀ a' C',Le C C'->Rel C' st' a'->Q .normal a' C'.w)->wpList P ops Q l a C.w
 | [],C,st,st',a,hr,h,hQ=>by
  simp only [evOs,Option.some.injEq] at h; subst h
  exact hQ a C (Le.refl C) hr
 | o :: l,C,st,st',a,hr,h,hQ=>by
  simp only [evOs] at h
  split at h
  ·simp at h
  ·rename_i hw
   have:=Hq hr.tmps hw
   unfold wpList
   rw [if_neg (by rw [this]; simp)]
   exact Nw hc (hr.put (Le.refl C) hr.sr hr.S hr.tk hr.n (by simp only [VR]) rfl) h hQ
  ·rename_i hw
   have:=Hq hr.tmps hw
   unfold wpList
   rw [if_pos this]
   split at h
   ·rename_i v st1 ho
    split at h
    case isFalse=>simp at h
    have hT:st1.T=st.T:=(G4 (next:=fun _ _=>True) (Q:=Q) hc hr ho (fun _ _ _ _ _ _ _ _=>trivial)).2
    refine .inl (G4 hc hr ho fun u C' k1 k2 k3 k4 k5 k6=>?_).1
    exact Nw hc (hr.put k1 k2 k3 k4 k5 k6 hT) h fun a' C'' k je=>hQ a' C'' (k1.trans k) je
   ·simp at h
theorem Zp {c:Code} {Q:Exit->Act->World->Prop} (J:Nat->Act->World->Prop) (round:∀ n a w,J n a w->c.wp P (Exit.then (fun a' w'=>∃ m,m<n/\J m a' w') Q) a w) {n:Nat} {a:Act} {w:World} (h0:J n a w):(Code.loop c).wp P Q a w:=by
 intro b k cs
 have key:∀ n a w,J n a w->∃ e a' w',Q e a' w'/\Arrives P (lone (b.at a (.code c :: .inLoop c :: k)) cs w) b k cs e a' w':=by
  intro n
  induction n using Nat.strongRecOn with
  | _ n ih =>
   intro a w hJ
   obtain ⟨e,a₁,w₁,hq,fh⟩:=round n a w hJ b (.inLoop c :: k) cs
   cases e with
   | normal =>
    obtain ⟨m,hlt,hJ₁⟩:=hq
    obtain ⟨e₂,a₂,w₂,hq₂,harr₂⟩:=ih m hlt a₁ w₁ hJ₁
    exact ⟨e₂,a₂,w₂,hq₂,.of_steps (Steps.trans fh (.one step_inLoop)) harr₂⟩
   | exit id=>exact ⟨_,a₁,w₁,hq,.pass (x:=.inLoop c) rfl (fun _ _=>.inl (by simp)) fh⟩
   | goto l=>exact ⟨_,a₁,w₁,hq,.pass (x:=.inLoop c) rfl (fun _ _=>.inl (by simp)) fh⟩
   | ret=>exact ⟨_,a₁,w₁,hq,.pass (x:=.inLoop c) rfl (fun _ _=>.inl (by simp)) fh⟩
   | panic ch=>exact ⟨_,a₁,w₁,hq,.pass (x:=.inLoop c) rfl (fun _ _=>.inl (by simp)) fh⟩
   | outgrown=>exact ⟨_,a₁,w₁,hq,.pass (x:=.inLoop c) rfl (fun _ _=>.inl (by simp)) fh⟩
 obtain ⟨e,a',w',hq,fh⟩:=key n a w h0
 exact ⟨e,a',w',hq,.of_steps (.one step_loop) fh⟩
def exOf:Ex->Exit
 | .normal=>.normal
 | .exit id=>.exit id
 | .ret=>.ret
def Aph [Globs] (call:Dh):Prop:=∀ f args S tk n r S' tk' n',call f args S tk n=some (r,S',tk',n')->S'=S/\tk'=tk/\(shF f=true\/(n'=n/\∀ S2 tk2 n2,call f args S2 tk2 n2=some (r,S2,tk2,n2)))
def Ql [Globs] (call:Dh):Prop:=∀ f args S tk n r S' tk' n',call f args S tk n=some (r,S',tk',n')->(xF f && Globs.dr)=true\/(S'=S/\tk'=tk/\(shF f=true\/(n'=n/\∀ S2 tk2 n2,call f args S2 tk2 n2=some (r,S2,tk2,n2))))
def extC (P:Program) [Ext P]:Dh:=fun f args S tk n=>if Ext.on P f=true then Ext.call P f args S tk n else none
class Acg [Globs] (P:Program) [Ext P]:Prop where
 ok:J5 P (extC P)
 indep:∀ M,@Aph (gM M) (@Ep (gM M) P _ (extC P))
theorem U9 [Globs] [Ext P] {M:Md} {call:Dh} (h:J5 P call):J5 P (@Ep (gM M) P _ call):=by
 intro f args S tk n r S' tk' n' hh
 unfold Ep at hh
 split at hh
 ·exact h f args S tk n r S' tk' n' hh
 ·simp at hh
def Am8 (P:Program) (real ops:Array Oper):Option (Nat × Oper)->Prop
 | none=>real=ops
 | some (p,al)=>real.size=ops.size/\(∀ i:Nat,i≠p->real[i]?=ops[i]?)/\(∀ (i:Nat) (o:Oper),ops[i]?=some o->isMk o=false)/\real[p]?=some al/\al.guard=none/\al.dst.isSome=true/\(∃ t cs,al.op=.alloc t/\Aw P t=some cs)/\ops[p]?=some { al with op:=.move (.global 0) }
def Qb (P:Program) (lt:Option (Nat × Oper)) (st:St):St :=
 match lt with
 | none=>st
 | some (_,al)=>match al.op with
  | .alloc t=>{ st with T:=putT st.T al.dst (.ref st.S.length st.n 0),S:=st.S++[⟨st.n,(Aw P t).getD []⟩],n:=st.n+1 }
  | _=>st
def Abp [Globs] (P:Program) (ok:St->List Oper->Bool):Prop:=P.follows .mixedOrders=true /\
 ∀ (call:Dh),J5 P call->∀ (real ops:Array Oper) (lt:Option (Nat × Oper)),Am8 P real ops lt->@Ql (gM (mdOf ops.toList)) call->∀ (C:Cx) (st st':St) (a:Act) (Q:Exit->Act->World->Prop),ok st ops.toList=true->Rel C st a->@evOs (gM (mdOf ops.toList)) P call ops.toList ops.toList st=some st' ->
  (∀ a' C',Le C C'->Rel C' (Qb P lt st') a'->Q .normal a' C'.w)->wpAny P .any real Q real.size (Array.replicate real.size false) a { C.w with drawn:=C.w.drawn+1 }
theorem L0:∀ {L:List Oper} {p:Nat} {al:Oper} {x:Oper},Lq L=some (p,al)->Aj7 al=true/\L[p]?=some al/\(openL (L++[x])).length=L.length/\(openL (L++[x]))[p]?=some { al with op:=.move (.global 0) }/\(∀ i,i≠p->(openL (L++[x]))[i]?=L[i]?)/\∀ o ∈ openL (L++[x]),isMk o=false
 | [],_,_,_,h=>by simp [Lq] at h
 | o :: l,p,al,x,h=>by
  have hop:∀ (l:List Oper),openL (o :: l++[x])=Tg o :: openL (l++[x]):=fun l=>by cases l <;> rfl
  have keep:∀ (l:List Oper),l.any isMk=false->openL (l++[x])=l:=by
   intro l
   induction l with
   | nil=>intro _; rfl
   | cons y l ih =>
    intro hl
    simp only [List.any_cons,Bool.or_eq_false_iff] at hl
    have e:openL (y :: l++[x])=Tg y :: openL (l++[x]):=by cases l <;> rfl
    rw [e,ih hl.2]
    unfold Tg
    rw [if_neg (by rw [hl.1]; simp)]
  unfold Lq at h
  rw [hop]
  split at h
  ·rename_i kv
   split at h
   ·rename_i hc
    simp only [Bool.and_eq_true,Bool.not_eq_true'] at hc
    simp only [Option.some.injEq,Prod.mk.injEq] at h
    obtain ⟨rfl,rfl⟩:=h
    rw [keep l hc.2]
    refine ⟨hc.1,rfl,rfl,?_,fun i hi=>?_,fun y hy=>?_⟩
    ·unfold Tg; rw [if_pos kv]; rfl
    ·cases i with
     | zero=>exact absurd rfl hi
     | succ i=>rfl
    ·rcases List.mem_cons.1 hy with rfl|hy
     ·unfold Tg; rw [if_pos kv]; rfl
     ·simpa using List.any_eq_false.1 hc.2 y hy
   ·cases h
  ·rename_i kv
   simp only [Option.map_eq_some_iff,Prod.mk.injEq,Prod.exists] at h
   obtain ⟨p',al',h,rfl,rfl⟩:=h
   obtain ⟨a1,a2,a3,a4,a5,a6⟩:=L0 (x:=x) h
   have e:Tg o=o:=by unfold Tg; rw [if_neg kv]
   rw [e]
   refine ⟨a1,a2,by simp [a3],a4,fun i hi=>?_,fun y hy=>?_⟩
   ·cases i with
    | zero=>rfl
    | succ i=>exact a5 i (by omega)
   ·rcases List.mem_cons.1 hy with rfl|hy
    ·simpa using kv
    ·exact a6 y hy
theorem Tx [Globs] {L:List Oper} {p:Nat} {al o:Oper} (h:Kg L=some (p,al,o)):∃ a,L=a++[o]/\Ams a o=true/\isSt o=true/\Lq a=some (p,al):=by
 unfold Kg at h
 split at h
 ·rename_i o' ho
  split at h
  ·rename_i ht
   simp only [Bool.and_eq_true] at ht
   simp only [Option.map_eq_some_iff,Prod.mk.injEq,Prod.exists] at h
   obtain ⟨p',al',h,rfl,rfl,rfl⟩:=h
   exact ⟨_,by rw [List.getLast?_eq_some_iff] at ho; obtain ⟨l,rfl⟩:=ho; simp,ht.1.2,ht.1.1,h⟩
  ·cases h
 ·cases h
theorem Amx {P:Program} {a:List Oper} {p:Nat} {al o:Oper} {t:TypeId} {cs:List AV} (h:Lq a=some (p,al)) (ht:al.op=.alloc t) (hz:Aw P t=some cs):Am8 P a.toArray (openL (a++[o])).toArray (some (p,al)):=by
 obtain ⟨a1,a2,a3,a4,a5,a6⟩:=L0 (x:=o) h
 unfold Aj7 at a1
 simp only [Bool.and_eq_true,Option.isNone_iff_eq_none] at a1
 refine ⟨by simp [a3],fun i hi=>?_,fun i o' ho=>?_,by simpa using a2,a1.1.2,a1.2,⟨t,cs,ht,hz⟩,by simpa using a4⟩
 ·have:=a5 i hi
  simp only [List.getElem?_toArray]
  exact this.symm
 ·exact a6 o' (List.mem_of_getElem? (by simpa using ho))
theorem L4 {L a:List Oper} {o:Oper} (h:Gl L=some (a,o)):L=a++[o]/\Adz a o=true:=by
 unfold Gl at h
 split at h
 ·rename_i o' ho
  split at h
  ·rename_i ht
   simp only [Option.some.injEq,Prod.mk.injEq] at h
   obtain ⟨rfl,rfl⟩:=h
   exact ⟨by rw [List.getLast?_eq_some_iff] at ho; obtain ⟨l,rfl⟩:=ho; simp,ht⟩
  ·cases h
 ·cases h
theorem Aby {kp:Bool} {m:Nat} {S:List Ent} : cutS kp m S=S.take (bif kp then S.length else m):=by
 cases kp <;> simp [cutS]
theorem Zr [Globs] {kp:Bool} {f:St->Option (Ex × St)} {c:Code} (hf:∀ (C:Cx) (st:St) (ex:Ex) (st':St) (a:Act) (Q:Exit->Act->World->Prop),f st=some (ex,st')->Rel C st a->(∀ a' C',Le C C'->Rel C' st' a'->Q (exOf ex) a' C'.w)->c.wp P Q a C.w)
  {k:Nat} {C:Cx} {st st':St} {ex:Ex} {a:Act} {Q:Exit->Act->World->Prop} (h:Kc kp f k st=some (ex,st')) (hr:Rel C st a) (hQ:∀ a' C',Le C C'->Rel C' st' a'->Q (exOf ex) a' C'.w):(Code.loop c).wp P Q a C.w:=by
 refine Zp (fun n a w=>∃ C1 st1,C1.w=w/\Le C C1/\Rel C1 st1 a/\Kc kp f n st1=some (ex,st')) ?_ (n:=k) ⟨C,st,rfl,Le.refl C,hr,h⟩
 rintro n a1 w1 ⟨C1,st1,rfl,hle,bw,h1⟩
 cases n with
 | zero=>simp [Kc] at h1
 | succ n =>
  simp only [Kc] at h1
  split at h1
  ·rename_i st2 h2
   refine hf C1 st1 .normal st2 a1 _ h2 bw fun a2 C2 we ae=>?_
   rw [Aby] at h1
   generalize (bif kp then st2.S.length else st1.S.length)=mm at h1
   refine ⟨n,Nat.lt_succ_self n,{ C2 with S:=C2.S.take mm },{ st2 with S:=st2.S.take mm },rfl,(hle.trans we).trans (Le.take _),⟨by rw [ae.S],ae.tk,ae.n,VRs.mono (Le.take _) _ _ ae.tmps,ae.defers,ae.sr.take _⟩,h1⟩
  ·rename_i hne
   refine hf C1 st1 ex st' a1 _ h1 bw fun a2 C2 we ae=>?_
   have:=hQ a2 C2 (hle.trans we) ae
   cases ex with
   | normal=>exact absurd h1 (hne st')
   | exit id=>exact this
   | ret=>exact this
theorem Eo [Globs] [Ext P] {call:Dh} (hc:J5 P call) (hi:∀ M,@Ql (gM M) (@Ep (gM M) P _ call)) {ok:St->List Oper->Bool} (hd:Abp P ok) {n:Nat} : ∀ (c:Code) (C:Cx) (st:St) (ex:Ex) (st':St) (a:Act) (Q:Exit->Act->World->Prop),evC P call ok n c st=some (ex,st')->Rel C st a ->
  (∀ a' C',Le C C'->Rel C' st' a'->Q (exOf ex) a' C'.w)->c.wp P Q a C.w
 | .skip,C,st,ex,st',a,Q,h,hr,hQ=>by
  simp only [evC,Option.some.injEq,Prod.mk.injEq] at h
  obtain ⟨rfl,rfl⟩:=h
  exact wp_skip (hQ a C (Le.refl C) hr)
 | .region id ops draw,C,st,ex,st',a,Q,h,hr,hQ=>by
  simp only [evC] at h
  cases draw with
  | false =>
   rw [if_neg (by simp)] at h
   simp only [Option.map_eq_some_iff,Prod.mk.injEq] at h
   obtain ⟨st1,h,rfl,rfl⟩:=h
   refine wp_region ?_
   have:=Nw (Q:=Q) hc hr h hQ
   have e:=wpOps_eq_wpList (P:=P) (ops:=ops) (Q:=Q) ops.toList 0 (fun j=>by simp)
   rw [List.range_eq_range']
   simp only [Array.length_toList] at e
   rw [e]; exact this
  | true =>
   rw [if_pos rfl] at h
   split at h
   ·rename_i ini o tp
    obtain ⟨hL,ht⟩:=L4 tp
    split at h
    ·rename_i ab
     split at h
     ·rename_i st1 h1
      simp only [Option.map_eq_some_iff,Prod.mk.injEq] at h
      obtain ⟨st2,h2,rfl,rfl⟩:=h
      unfold Adz at ht
      simp only [Bool.and_eq_true,List.all_eq_true,List.mem_range,decide_eq_true_eq,Option.isNone_iff_eq_none] at ht
      obtain ⟨⟨⟨⟨-,hg⟩,dk⟩,hla⟩,hde⟩:=ht
      have wg:ops=ini.toArray.push o:=by
       apply Array.ext'
       rw [hL]; simp
      subst wg
      have pn:ini.toArray.push o=(ini++[o]).toArray:=by simp
      refine wp_region_any hd.1 ?_
      have hw:=hd.2 _ (U9 hc) ini.toArray ini.toArray none rfl (hi _) C st st1 a (Ahr P o Q) (by simpa using ab) hr (by simpa using h1) fun a' C' hle je=>by
       show o.wp P a' C'.w (fun a' w'=>Q .normal a' w') Q
       simp only [evOs,Hv,hg] at h2
       split at h2
       ·rename_i v s3 ho
        split at h2
        case isFalse=>simp at h2
        have hT:s3.T=st1.T:=(G4 (next:=fun _ _=>True) (Q:=Q) hc je ho (fun _ _ _ _ _ _ _ _=>trivial)).2
        refine (G4 hc je ho fun u C2 k1 k2 k3 k4 k5 k6=>?_).1
        simp only [Option.some.injEq] at h2
        subst h2
        exact hQ _ C2 (hle.trans k1) (je.put k1 k2 k3 k4 k5 k6 hT)
       ·simp at h2
      have hsz:(ini.toArray.push o).size=ini.toArray.size+1:=by simp
      rw [hsz]
      have a0o:Array.replicate (ini.toArray.size+1) false=(Array.replicate ini.toArray.size false).push false:=by
       rw [Array.replicate_succ]
      rw [a0o]
      refine Aay hg (fun j hj=>?_) (fun e he=>?_) (fun i o' eo=>?_) _ _ _ _ (by simp) (fun j hj=>?_) hw
      ·have:=dk j (by simpa using hj)
       rw [pn]; simpa using this
      ·have:=hla e (by rw [pn] at he; simpa using he)
       simpa using this
      ·have bg:=(Array.getElem?_eq_some_iff.1 eo).1
       have:=hde i (by simpa using bg)
       rw [eo] at this
       refine ⟨fun e he=>this.1 e he,fun g w hgw=>?_⟩
       have h3:=this.2
       simp only [hgw] at h3
       simpa using h3
      ·rw [Array.getD_eq_getD_getElem?,Array.getElem?_replicate] at hj
       split at hj <;> simp at hj
     ·simp at h
    ·simp at h
   ·split at h
    ·rename_i p al o hlt
     obtain ⟨ini,hL,ht,aj,nh⟩:=Tx hlt
     rw [hL] at h
     split at h
     ·rename_i ab
      split at h
      ·rename_i st1 h1
       simp only [Option.map_eq_some_iff,Prod.mk.injEq] at h
       obtain ⟨st2,h2,rfl,rfl⟩:=h
       unfold Ams at ht
       simp only [Bool.and_eq_true,List.all_eq_true,List.mem_range,decide_eq_true_eq,Option.isNone_iff_eq_none] at ht
       obtain ⟨⟨⟨hg,dk⟩,hla⟩,hde⟩:=ht
       have hal:=(L0 (x:=o) nh).1
       unfold Aj7 at hal
       simp only [Bool.and_eq_true,Option.isNone_iff_eq_none] at hal
       obtain ⟨t,hta⟩:∃ t,al.op=.alloc t:=by
        have:=hal.1.1
        split at this
        ·rename_i t h; exact ⟨t,h⟩
        ·cases this
       have a17:=hal.1.2
       simp only [evOs,Hv,a17] at h2
       split at h2
       case h_2=>simp at h2
       rename_i v s3 kt
       split at h2
       case isFalse=>simp at h2
       have a1j:=kt
       simp only [evO,hta,Option.map_eq_some_iff,Prod.mk.injEq] at a1j
       obtain ⟨cs,hz,rfl,rfl⟩:=a1j
       have a18:({ T:=putT st1.T al.dst (.ref st1.S.length st1.n 0),S:=st1.S++[⟨st1.n,cs⟩],tk:=st1.tk,n:=st1.n+1 } : St)=Qb P (some (p,al)) st1:=by
        simp only [Qb,hta,hz,Option.getD_some]
       simp only at h2
       rw [a18] at h2
       have wg:ops=ini.toArray.push o:=by
        apply Array.ext'
        rw [hL]; simp
       subst wg
       have pn:ini.toArray.push o=(ini++[o]).toArray:=by simp
       refine wp_region_any hd.1 ?_
       have hw:=hd.2 _ (U9 hc) ini.toArray (openL (ini++[o])).toArray (some (p,al)) (Amx nh hta hz) (hi _) C st st1 a (Ahr P o Q) (by simpa using ab) hr (by simpa using h1) fun a' C' hle je=>by
        show o.wp P a' C'.w (fun a' w'=>Q .normal a' w') Q
        simp only [hg] at h2
        split at h2
        ·rename_i v s3 ho
         split at h2
         case isFalse=>simp at h2
         have hT:s3.T=(Qb P (some (p,al)) st1).T:=(G4 (next:=fun _ _=>True) (Q:=Q) hc je ho (fun _ _ _ _ _ _ _ _=>trivial)).2
         refine (G4 hc je ho fun u C2 k1 k2 k3 k4 k5 k6=>?_).1
         simp only [Option.some.injEq] at h2
         subst h2
         exact hQ _ C2 (hle.trans k1) (je.put k1 k2 k3 k4 k5 k6 hT)
        ·simp at h2
       have hsz:(ini.toArray.push o).size=ini.toArray.size+1:=by simp
       rw [hsz]
       have a0o:Array.replicate (ini.toArray.size+1) false=(Array.replicate ini.toArray.size false).push false:=by
        rw [Array.replicate_succ]
       rw [a0o]
       refine Aay hg (fun j hj=>?_) (fun e he=>?_) (fun i o' eo=>?_) _ _ _ _ (by simp) (fun j hj=>?_) hw
       ·have:=dk j (by simpa using hj)
        rw [pn]; simpa using this
       ·have:=hla e (by rw [pn] at he; simpa using he)
        simpa using this
       ·have bg:=(Array.getElem?_eq_some_iff.1 eo).1
        have:=hde i (by simpa using bg)
        rw [eo] at this
        refine ⟨fun e he=>this.1 e he,fun g w hgw=>?_⟩
        have h3:=this.2
        simp only [hgw] at h3
        simpa using h3
       ·rw [Array.getD_eq_getD_getElem?,Array.getElem?_replicate] at hj
        split at hj <;> simp at hj
      ·simp at h
     ·simp at h
    ·split at h
     ·rename_i ab
      simp only [Option.map_eq_some_iff,Prod.mk.injEq] at h
      obtain ⟨st1,h,rfl,rfl⟩:=h
      exact wp_region_any hd.1 (hd.2 _ (U9 hc) ops ops none rfl (hi _) C st st1 a Q ab hr h hQ)
     ·simp at h
 | .seq x y,C,st,ex,st',a,Q,h,hr,hQ=>by
  simp only [evC] at h
  split at h
  ·rename_i st1 h1
   refine wp_seq (Eo hc hi hd x C st .normal st1 a _ h1 hr fun a1 C1 mu bw=>?_)
   exact Eo hc hi hd y C1 st1 ex st' a1 Q h bw fun a2 C2 we ae=>hQ a2 C2 (mu.trans we) ae
  ·rename_i hne
   refine wp_seq (Eo hc hi hd x C st ex st' a _ h hr fun a1 C1 mu bw=>?_)
   have:=hQ a1 C1 mu bw
   cases ex with
   | normal=>exact absurd h (hne st')
   | exit id=>exact this
   | ret=>exact this
 | .cond x y z,C,st,ex,st',a,Q,h,hr,hQ=>by
  simp only [evC] at h
  split at h
  ·rename_i t ht
   have hv:=Abi hr.tmps x
   rw [ht] at hv; simp only [VR] at hv
   cases t with
   | true =>
    rw [if_pos rfl] at h
    exact wp_cond_true hv (Eo hc hi hd y C st ex st' a Q h hr hQ)
   | false =>
    rw [if_neg (by simp)] at h
    exact wp_cond_false hv (Eo hc hi hd z C st ex st' a Q h hr hQ)
  ·simp at h
 | .block id x,C,st,ex,st',a,Q,h,hr,hQ=>by
  simp only [evC] at h
  split at h
  ·rename_i id' st1 h1
   refine wp_block (Eo hc hi hd x C st (.exit id') st1 a _ h1 hr fun a1 C1 mu bw=>?_)
   simp only [exOf,Exit.inBlock]
   split at h
   ·rename_i hid
    simp only [Option.some.injEq,Prod.mk.injEq] at h
    obtain ⟨rfl,rfl⟩:=h
    rw [if_pos hid]; exact hQ a1 C1 mu bw
   ·rename_i hid
    simp only [Option.some.injEq,Prod.mk.injEq] at h
    obtain ⟨rfl,rfl⟩:=h
    rw [if_neg hid]; exact hQ a1 C1 mu bw
  ·rename_i hne
   refine wp_block (Eo hc hi hd x C st ex st' a _ h hr fun a1 C1 mu bw=>?_)
   have:=hQ a1 C1 mu bw
   cases ex with
   | normal=>exact this
   | exit id=>exact absurd h (hne id st')
   | ret=>exact this
 | .loop x,C,st,ex,st',a,Q,h,hr,hQ=>by
  simp only [evC] at h
  exact Zr (fun C st ex st' a Q=>Eo hc hi hd x C st ex st' a Q) h hr hQ
 | .exit id,C,st,ex,st',a,Q,h,hr,hQ=>by
  simp only [evC,Option.some.injEq,Prod.mk.injEq] at h
  obtain ⟨rfl,rfl⟩:=h
  exact wp_exit (hQ a C (Le.refl C) hr)
 | .ret,C,st,ex,st',a,Q,h,hr,hQ=>by
  simp only [evC,Option.some.injEq,Prod.mk.injEq] at h
  obtain ⟨rfl,rfl⟩:=h
  exact wp_ret (hQ a C (Le.refl C) hr)
 | .rangeFunc _ _ _ _,_,_,_,_,_,_,h,_,_=>by simp [evC] at h
 | .scope x,C,st,ex,st',a,Q,h,hr,hQ=>by
  simp only [evC] at h
  refine wp_scope_straight (Eo hc hi hd x C st ex st' a _ h hr fun a1 C1 mu bw=>?_)
  have:=hQ a1 C1 mu bw
  cases ex <;> exact this
 | .label l,C,st,ex,st',a,Q,h,hr,hQ=>by
  simp only [evC,Option.some.injEq,Prod.mk.injEq] at h
  obtain ⟨rfl,rfl⟩:=h
  exact wp_label (hQ a C (Le.refl C) hr)
 | .goto _,_,_,_,_,_,_,h,_,_=>by simp [evC] at h
 | .refuse _,_,_,_,_,_,_,h,_,_=>by simp [evC] at h
end
end
section
open Go.RowKit
section
variable {P:Program}
def Aa6 (P:Program) (tmps:Array Value):ResultVar->Sem Value
 | .tmp t=>pure (tmps.getD t undef)
 | .cell a t=>do loadVar t (<- asAddr (tmps.getD a undef))
theorem Alk {C:Cx} {T:List AV} {tmps:Array Value} (h:VRs C T tmps.toList) (t:Tmp):VR C (getT T t) (tmps.getD t undef) :=
 Abi (a:=⟨tmps,[]⟩) h (.tmp t)
theorem Yx [Globs] {C:Cx} {st:St} {a:Act} (hr:Rel C st a) {rv:ResultVar} {v:AV} (h:resA1 P st rv=some v):Has P C (Aa6 P a.tmps rv) v:=by
 cases rv with
 | tmp t =>
  simp only [resA1,Option.some.injEq] at h; subst h
  exact ⟨_,rfl,Alk hr.tmps t⟩
 | cell p t =>
  simp only [resA1] at h
  rw [<- hr.S] at h
  obtain ⟨u,h1,h2⟩:=Ye hr.sr (Alk hr.tmps p) h
  refine ⟨u,?_,h2⟩
  simp only [Aa6]
  generalize a.tmps.getD p undef=x at h1
  cases x with
  | pointer b =>
   cases b with
   | none=>simp [Instr.loadAt,Instr.sureAddr] at h1
   | some b=>simpa [Instr.loadAt,Instr.sureAddr,asAddr] using h1
  | _=>simp [Instr.loadAt,Instr.sureAddr] at h1
theorem Aa4 [Globs] {C:Cx} {st:St} {a:Act} (hr:Rel C st a):∀ {rs:List ResultVar} {vs:List AV},mapO (resA1 P st) rs=some vs->∃ us,(rs.mapM (Aa6 P a.tmps)).run P C.w=.ok us C.w/\VRs C vs us
 | [],vs,h=>by
  simp only [mapO,Option.some.injEq] at h; subst h
  exact ⟨[],by simp,by simp only [VRs]⟩
 | r :: rs,vs,h=>by
  simp only [mapO] at h
  split at h
  ·rename_i b l h1 h2
   simp only [Option.some.injEq] at h; subst h
   obtain ⟨u,g1,g2⟩:=Yx hr h1
   obtain ⟨us,g3,g4⟩:=Aa4 hr h2
   exact ⟨u :: us,by rw [List.mapM_cons]; simp only [Sem.run_bind,g1,Result.andThen_ok,g3,Sem.run_pure],by simp only [VRs]; exact ⟨g2,g4⟩⟩
  ·simp at h
theorem Ace [Globs] {C:Cx} {st:St} {a:Act} (hr:Rel C st a) {fn:Func} {v:AV} (h:resA P fn.results.toList st=some v):Has P C (results fn a.tmps) v:=by
 simp only [resA,Option.map_eq_some_iff] at h
 obtain ⟨vs,h,rfl⟩:=h
 obtain ⟨us,h1,h2⟩:=Aa4 hr h
 have hrun:(results fn a.tmps).run P C.w=.ok (if h:us.toArray.size=1 then us.toArray[0] else .tuple us.toArray) C.w:=by
  have e:results fn a.tmps=(do
   let vs <- fn.results.mapM (Aa6 P a.tmps)
   pure (if h:vs.size=1 then vs[0] else .tuple vs)):=by
   unfold results
   congr 1
  rw [e,Sem.run_bind,Array.mapM_eq_mapM_toList,Sem.run_map,h1]
  rfl
 have hlen:=A3 h2
 match us,vs,h2,hlen,hrun with
 | [u],[v],h2,_,hrun =>
  simp only [VRs] at h2
  exact ⟨u,by rw [hrun]; simp,h2.1⟩
 | [],[],h2,_,hrun=>exact ⟨.tuple #[],by rw [hrun]; simp,by simp only [oneOf,VR]; exact ⟨_,rfl,h2⟩⟩
 | u :: u' :: us,v :: v' :: vs,h2,_,hrun=>exact ⟨.tuple (u :: u' :: us).toArray,by rw [hrun]; simp,by simp only [oneOf,VR]; exact ⟨_,rfl,h2⟩⟩
theorem VR_w3 {C:Cx} {c x} (h:VR C c x):VR C (w3 c) x:=by
 cases c with
 | tup cs =>
  simp only [w3,VR] at h ⊢
  obtain ⟨vs,e,hr⟩:=h
  exact ⟨vs,e,Afm hr⟩
 | _=>exact Anb h
theorem Tu {C C':Cx} {c x} (aj:Stays C.w C'.w C.Avoid C'.Avoid) (hp:pure1 c=true) (h:VR C c x):VR C' c x:=Vh (PR.stays aj _ _ (Aag hp h))
theorem Rj {C C':Cx} (aj:Stays C.w C'.w C.Avoid C'.Avoid):∀ {cs vs},cs.all pure1=true->VRs C cs vs->VRs C' cs vs
 | [],[],_,_=>by simp only [VRs]
 | c :: cs,v :: vs,hp,h=>by
  simp only [List.all_cons,Bool.and_eq_true] at hp
  simp only [VRs] at h ⊢
  exact ⟨Tu aj hp.1 h.1,Rj aj hp.2 h.2⟩
 | [],_ :: _,_,h=>by simp only [VRs] at h
 | _ :: _,[],_,h=>by simp only [VRs] at h
theorem T8 {C C':Cx} {c x} (aj:Stays C.w C'.w C.Avoid C'.Avoid) (hp:pure2 c=true) (h:VR C c x):VR C' c x:=by
 cases c with
 | agg cs =>
  simp only [VR] at h ⊢
  obtain ⟨vs,e,hr⟩:=h
  exact ⟨vs,e,Rj aj hp hr⟩
 | _=>exact Tu aj hp h
theorem Lv {C C':Cx} (aj:Stays C.w C'.w C.Avoid C'.Avoid):∀ {cs vs},cs.all pure2=true->VRs C cs vs->VRs C' cs vs
 | [],[],_,_=>by simp only [VRs]
 | c :: cs,v :: vs,hp,h=>by
  simp only [List.all_cons,Bool.and_eq_true] at hp
  simp only [VRs] at h ⊢
  exact ⟨T8 aj hp.1 h.1,Lv aj hp.2 h.2⟩
 | [],_ :: _,_,h=>by simp only [VRs] at h
 | _ :: _,[],_,h=>by simp only [VRs] at h
theorem Acw {C C':Cx} {c x} (aj:Stays C.w C'.w C.Avoid C'.Avoid) (hp:pure3 c=true) (h:VR C c x):VR C' c x:=by
 cases c with
 | tup cs =>
  simp only [VR] at h ⊢
  obtain ⟨vs,e,hr⟩:=h
  exact ⟨vs,e,Lv aj hp hr⟩
 | _=>exact T8 aj hp h
theorem Abl {C:Cx} : ∀ n:Nat,VRs C (List.replicate n AV.bot) (List.replicate n undef)
 | 0=>by simp [VRs]
 | n+1=>by simp only [List.replicate_succ,VRs,VR]; exact ⟨trivial,Abl n⟩
theorem Nj [Globs] [Ext P] {call:Dh} (hc:J5 P call) (hi:∀ M,@Ql (gM M) (@Ep (gM M) P _ call)) {ok:St->List Oper->Bool} (hd:Abp P ok) {k:Nat} {f:FuncId} {fn:Func} {c:Code} (hf:P.funcs[f]?=some fn) (hb:fn.body=some c) {C:Cx} (hs:SR C) {args:List AV} {vs:Array Value} (hv:VRs C args vs.toList) {r:AV} {st:St}
  (h:outA P fn (evC P call ok k c ⟨args++List.replicate (fn.ntmps - args.length) .bot,C.S,C.tk,C.n⟩)=some (r,st)) :
  Calls P f vs C.w fun e w'=>∃ v C',e=.returned v/\C'.w=w'/\Le C C'/\SR C'/\C'.S=st.S/\C'.tk=st.tk/\C'.n=st.n/\VR C' r v:=by
 have hlen:vs.size=args.length:=by have:=A3 hv; simpa using this.symm
 refine calls_of_wp hf hb ?_
 have hrel:Rel C ⟨args++List.replicate (fn.ntmps - args.length) .bot,C.S,C.tk,C.n⟩ { tmps:=vs++Array.replicate (fn.ntmps - vs.size) undef,defers:=[] } :=
  ⟨rfl,rfl,rfl,by rw [hlen]; simpa using G1 hv (Abl _),rfl,hs⟩
 have fin:∀ {ex:Ex} {st':St},(ex=.normal\/ex=.ret)->(resA P fn.results.toList st').map (fun r=>(r,st'))=some (r,st)->∀ a' C',Le C C'->Rel C' st' a' ->
   bodyPost P fn (fun e w'=>∃ v C',e=.returned v/\C'.w=w'/\Le C C'/\SR C'/\C'.S=st.S/\C'.tk=st.tk/\C'.n=st.n/\VR C' r v) (exOf ex) a' C'.w:=by
  intro ex st' f8 he a' C' hle hr
  simp only [Option.map_eq_some_iff,Prod.mk.injEq] at he
  obtain ⟨r',he,rfl,rfl⟩:=he
  obtain ⟨v,h1,h2⟩:=Ace hr he
  rcases f8 with rfl|rfl
  ·exact ⟨hr.defers,v,h1,v,C',rfl,rfl,hle,hr.sr,hr.S,hr.tk,hr.n,h2⟩
  ·exact ⟨hr.defers,v,h1,v,C',rfl,rfl,hle,hr.sr,hr.S,hr.tk,hr.n,h2⟩
 generalize he:evC P call ok k c ⟨args++List.replicate (fn.ntmps - args.length) .bot,C.S,C.tk,C.n⟩=out at h
 match out with
 | none=>simp [outA] at h
 | some (.exit _,_)=>simp [outA] at h
 | some (.normal,st')=>exact Eo hc hi hd c C _ .normal st' _ _ he hrel (fin (.inl rfl) h)
 | some (.ret,st')=>exact Eo hc hi hd c C _ .ret st' _ _ he hrel (fin (.inr rfl) h)
def Cx.alone (C:Cx):Cx:={ w:=C.w,av:=C.Avoid,φ:=C.φ,ψ:=C.ψ,S:=[],tk:=[],n:=0 }
theorem Qt {C:Cx} {b o:Nat} : ¬ C.alone.Mut b o:=by
 rintro (⟨i,hi,_⟩|⟨i,hi,_⟩) <;> simp [Cx.alone] at hi
theorem SR.alone [Globs] {C:Cx} (hs:SR C):SR C.alone:=by
 refine ⟨fun i e h=>by simp [Cx.alone,nth] at h,fun i j hi=>by simp [Cx.alone] at hi,fun i j o hi=>by simp [Cx.alone] at hi,fun i j o hi=>by simp [Cx.alone] at hi,fun b o h=>absurd h Qt,fun b o h=>?_,fun i o hi=>by simp [Cx.alone] at hi,fun g o h=>⟨(hs.glob g o h).1,fun i=>.inl ((hs.glob g o h).2 i)⟩⟩
 rcases Nat.lt_or_ge b C.w.heap.size with h'|h'
 ·exact h'
 ·exact absurd h (hs.fresh h')
theorem Apn [Globs] {C:Cx} (hs:SR C) {m id o:Nat} (hid:id<C.S.length) (hm:m<=id):¬ ({ C with S:=C.S.take m } : Cx).Avoid (C.φ id) o:=by
 rintro (h|⟨i,hi,h⟩|⟨i,hi,h1,h2,h3⟩)
 ·exact hs.own _ o (.inl ⟨id,hid,rfl⟩) h
 ·simp only [List.length_take] at hi
  have:=hs.ne i id (by omega) hid h
  omega
 ·exact hs.apart id i o hid hi h1.symm h2 h3
theorem W5 [Globs] {C:Cx} (hs:SR C) (m:Nat) {c x} (h:VR C c x):VR { C with S:=C.S.take m } (fz1 m C.S c) x:=by
 have keep:VR { C with S:=C.S.take m } c x:=VR.mono (Le.take m) _ _ h
 cases c with
 | sref id ep off len sz =>
  simp only [fz1]
  split
  ·rename_i hm
   unfold fzB
   split
   ·rename_i cs kr
    obtain ⟨e,h1,h2,rfl⟩:=Dy kr
    unfold N0
    split
    ·rename_i es u9
     split
     ·rename_i hp
      simp only [VR] at h
      obtain ⟨b,a,cap,rfl,hcap,ha,hn,hb⟩:=h
      obtain rfl:=(hb e h1 h2).1
      obtain ⟨hlt,arr,t,h3,h4⟩:=hs.ent id e h1
      obtain ⟨pd,h4⟩:=entP h4
      obtain ⟨g1,g2,g3,g4⟩:=Lc u9
      have g4':len*sz<=((e.cells++pd).drop off).length:=by simp at g4 ⊢; omega
      have g3':es.flatten=((e.cells++pd).drop off).take (len*sz):=by rw [g3,List.drop_append,List.take_append_of_le_length g4]
      simp only [VR]
      refine ⟨a,len,cap,rfl,by simp [g1],hcap,trivial,?_⟩
      by_cases h0:len=0
      ·left
       subst h0
       rw [List.eq_nil_of_length_eq_zero g1]; rfl
      ·right
       obtain rfl:=ha.resolve_left h0
       have n0:=A3 h4
       simp only [Array.length_toList] at n0
       refine ⟨C.φ id,off,sz,rfl,Gm (l:=(arr.toList.drop off).take (len*sz)) (fun e he=>?_) ?_ (J8 fun j v hj=>⟨?_,Apn hs (Bk h1) hm⟩)⟩
       ·rw [List.mem_map] at he
        obtain ⟨e',qy,rfl⟩:=he
        rw [List.length_map]; exact g2 e' qy
       ·have ph:(es.map (·.map w1)).flatten=(((e.cells++pd).drop off).take (len*sz)).map w1:=by rw [<- g3',List.map_flatten]
        have vu:VRs C (((e.cells++pd).drop off).take (len*sz)) ((arr.toList.drop off).take (len*sz)):=(J3 (K5 off h4) (Lh g4')).1
        rw [ph]
        refine Jc (C:={ C with S:=C.S.take m }) ?_ (VRs.mono (Le.take m) _ _ (Ub vu))
        rw [<- g3',List.all_eq_true]
        intro c hc
        rw [List.mem_map] at hc
        obtain ⟨c',eh,rfl⟩:=hc
        rw [List.mem_flatten] at eh
        obtain ⟨r,hr,eh⟩:=eh
        exact List.all_eq_true.1 (List.all_eq_true.1 hp r hr) c' eh
       ·have fd:j<len*sz:=by
         have:=(List.getElem?_eq_some_iff.1 hj).1
         simp at this; omega
        rw [List.getElem?_take_of_lt fd,List.getElem?_drop] at hj
        simp [World.cell?,h3]; simpa using hj
     ·simp only [VR]
    ·simp only [VR]
   ·simp only [VR]
  ·exact keep
 | _=>exact keep
theorem Tp [Globs] {C:Cx} (hs:SR C) (m:Nat):∀ {cs vs},VRs C cs vs->VRs { C with S:=C.S.take m } (cs.map (fz1 m C.S)) vs
 | [],[],_=>by simp only [List.map_nil,VRs]
 | c :: cs,v :: vs,h=>by simp only [VRs,List.map_cons] at h ⊢; exact ⟨W5 hs m h.1,Tp hs m h.2⟩
 | [],_ :: _,h=>by simp only [VRs] at h
 | _ :: _,[],h=>by simp only [VRs] at h
theorem Xc [Globs] {C:Cx} (hs:SR C) (m:Nat) {c x} (h:VR C c x):VR { C with S:=C.S.take m } (fz2 m C.S c) x:=by
 cases c with
 | agg cs =>
  simp only [fz2,VR] at h ⊢
  obtain ⟨vs,e,hr⟩:=h
  exact ⟨vs,e,Tp hs m hr⟩
 | _=>exact W5 hs m h
theorem Tr [Globs] {C:Cx} (hs:SR C) (m:Nat):∀ {cs vs},VRs C cs vs->VRs { C with S:=C.S.take m } (cs.map (fz2 m C.S)) vs
 | [],[],_=>by simp only [List.map_nil,VRs]
 | c :: cs,v :: vs,h=>by simp only [VRs,List.map_cons] at h ⊢; exact ⟨Xc hs m h.1,Tr hs m h.2⟩
 | [],_ :: _,h=>by simp only [VRs] at h
 | _ :: _,[],h=>by simp only [VRs] at h
theorem Wo [Globs] {C:Cx} (hs:SR C) (m:Nat) {c x} (h:VR C c x):VR { C with S:=C.S.take m } (fz3 m C.S c) x:=by
 cases c with
 | tup cs =>
  simp only [fz3,VR] at h ⊢
  obtain ⟨vs,e,hr⟩:=h
  exact ⟨vs,e,Tr hs m hr⟩
 | _=>exact Xc hs m h
theorem Ys [Globs] [Ext P] {ok:St->List Oper->Bool} {k:Nat} {f:FuncId} {args:List AV} {S:List Ent} {tk:List Nat} {n:Nat} (hf:Ext.on P f=true):evF P ok (k+1) f args S tk n=extC P f args S tk n:=by
 simp only [evF,extC,hf,if_true]
structure Tc (A:Nat->Bool) (m:Nat) (S0:List Ent) (tk0:List Nat) (st:St):Prop where
 S:st.S.take m=S0
 le:m<=st.S.length
 tk:st.tk=tk0
 own:∀ q,A q=true->getT st.T q=.bot\/getT st.T q=.prim undef\/∃ id ep off,getT st.T q=.ref id ep off/\m<=id
theorem Ahy:∀ {T:List AV} {d:Nat} {v:AV},d<T.length->getT (put T d v) d=v
 | _ :: _,0,_,_=>rfl
 | _ :: T,d+1,_,h=>Ahy (T:=T) (by simpa using h)
 | [],_,_,h=>by simp at h
theorem Aar:∀ {T:List AV} {d q:Nat} {v:AV},d≠q->getT (put T d v) q=getT T q
 | [],_,_,_,_=>rfl
 | _ :: _,0,0,_,h=>absurd rfl h
 | _ :: _,0,_+1,_,_=>rfl
 | _ :: _,_+1,0,_,_=>rfl
 | _ :: T,d+1,q+1,_,h=>Aar (T:=T) (by omega)
theorem Ad0:∀ {T:List AV} {d:Nat} {v:AV},T.length<=d->put T d v=T
 | [],_,_,_=>rfl
 | _ :: _,0,_,h=>by simp at h
 | _ :: T,d+1,_,h=>by simp only [put]; rw [Ad0 (T:=T) (by simpa using h)]
theorem Yl {T:List AV} {d:Option Nat} {v:AV} {q:Nat} : getT (putT T d v) q=getT T q\/(d=some q/\getT (putT T d v) q=v):=by
 cases d with
 | none=>exact .inl rfl
 | some d =>
  simp only [putT]
  by_cases h:d=q
  ·subst h
   rcases Nat.lt_or_ge d T.length with hl|hl
   ·exact .inr ⟨rfl,Ahy hl⟩
   ·left; rw [Ad0 hl]
  ·exact .inl (Aar h)
theorem Aah {α:Type} : ∀ {l:List α} {i m:Nat} {v:α},m<=i->(put l i v).take m=l.take m
 | [],_,_,_,_=>rfl
 | _ :: _,0,m,_,h=>by
  have:m=0:=by omega
  subst this; rfl
 | _ :: _,_+1,0,_,_=>rfl
 | _ :: l,i+1,m+1,v,h=>by simp only [put,List.take_succ_cons,Aah (l:=l) (i:=i) (m:=m) (v:=v) (by omega)]
theorem Al5 [Globs] {call:Dh} {o:Oper} {all:List Oper} {nn m:Nat} {S0:List Ent} {tk0:List Nat} {st st':St} {v:AV} (hA:o ∈ all) (hk:Qu all nn o=true) (hI:Tc (fun q=>decide (nn<=q) && Kt all q) m S0 tk0 st) (h:evO P call o st=some (v,st')) :
  Tc (fun q=>decide (nn<=q) && Kt all q) m S0 tk0 { st' with T:=putT st'.T o.dst v }:=by
 have slot:st'.T=st.T->(Jx o=true->∃ id ep off,v=.ref id ep off/\m<=id)->∀ q,(decide (nn<=q) && Kt all q)=true->getT (putT st'.T o.dst v) q=.bot\/getT (putT st'.T o.dst v) q=.prim undef\/∃ id ep off,getT (putT st'.T o.dst v) q=.ref id ep off/\m<=id:=by
  intro hT hv q hq
  rcases Yl (T:=st'.T) (d:=o.dst) (v:=v) (q:=q) with e|⟨e1,e2⟩
  ·rw [e,hT]; exact hI.own q hq
  ·simp only [Bool.and_eq_true] at hq
   have:=List.all_eq_true.1 hq.2 o hA
   rw [e1] at this
   simp only [bne_self_eq_false,Bool.false_or] at this
   obtain ⟨id,ep,off,rfl,hm⟩:=hv this
   exact .inr (.inr ⟨id,ep,off,e2,hm⟩)
 unfold evO at h
 unfold Qu at hk
 split at h
 ·rename_i t x e
  simp only [Option.map_eq_some_iff,Prod.mk.injEq] at h
  obtain ⟨_,_,rfl,rfl⟩:=h
  exact ⟨hI.S,hI.le,hI.tk,slot rfl (fun hm=>by simp [Jx,e] at hm)⟩
 ·rename_i t x y e
  rw [e] at hk
  simp only [Option.map_eq_some_iff,Prod.mk.injEq] at h
  obtain ⟨S',hs,rfl,rfl⟩:=h
  cases x with
  | tmp q =>
   simp only at hk
   unfold stA at hs
   split at hs
   ·rename_i id ep off sz vs hx _ _
    simp only [opv] at hx
    split at hs
    ·split at hs
     ·split at hs
      ·simp only [Option.some.injEq] at hs; subst hs
       have hid:m<=id:=by
        rcases hI.own q hk with h1|h1|⟨id',ep',off',h1,h2⟩
        ·rw [h1] at hx; simp at hx
        ·rw [h1] at hx; simp at hx
        ·rw [h1] at hx; simp only [AV.ref.injEq] at hx; omega
       exact ⟨by show (put st.S id _).take m=S0; rw [Aah hid]; exact hI.S,by show m<=(put st.S id _).length; rw [Ah]; exact hI.le,hI.tk,slot rfl (fun hm=>by simp [Jx,e] at hm)⟩
      ·simp at hs
     ·simp at hs
    ·simp at hs
   ·simp at hs
  | _=>simp at hk
 ·rename_i t e
  simp only [Option.map_eq_some_iff,Prod.mk.injEq] at h
  obtain ⟨cs,_,rfl,rfl⟩:=h
  exact ⟨by show (st.S++_).take m=S0; rw [List.take_append_of_le_length hI.le]; exact hI.S,by show m<=(st.S++_).length; rw [List.length_append]; exact Nat.le_trans hI.le (Nat.le_add_right _ _),hI.tk,slot rfl (fun _=>⟨_,_,_,rfl,hI.le⟩)⟩
 ·rename_i t x e
  simp only [Option.map_eq_some_iff,Prod.mk.injEq] at h
  obtain ⟨cs,_,rfl,rfl⟩:=h
  exact ⟨by show (st.S++_).take m=S0; rw [List.take_append_of_le_length hI.le]; exact hI.S,by show m<=(st.S++_).length; rw [List.length_append]; exact Nat.le_trans hI.le (Nat.le_add_right _ _),hI.tk,slot rfl (fun _=>⟨_,_,_,rfl,hI.le⟩)⟩
 ·rename_i t l c e
  rw [e] at hk
  simp only [Bool.not_eq_true'] at hk
  simp only [Option.map_eq_some_iff,Prod.exists,hk] at h
  obtain ⟨l',sz,cs,_,hh⟩:=h
  rw [if_neg (by simp)] at hh
  simp only [Prod.mk.injEq] at hh
  obtain ⟨rfl,rfl⟩:=hh
  exact ⟨by show (st.S++_).take m=S0; rw [List.take_append_of_le_length hI.le]; exact hI.S,by show m<=(st.S++_).length; rw [List.length_append]; exact Nat.le_trans hI.le (Nat.le_add_right _ _),hI.tk,slot rfl (fun hm=>by simp [Jx,e] at hm)⟩
 ·rename_i c e
  rw [e] at hk
  simp only at hk
  split at h
  ·rename_i hb; rw [hb] at hk; simp at hk
  ·rename_i hb; rw [hb] at hk; simp at hk
  ·simp only [Option.map_eq_some_iff,Prod.mk.injEq] at h; obtain ⟨_,_,rfl,rfl⟩:=h
   exact ⟨hI.S,hI.le,hI.tk,slot rfl (fun hm=>by simp [Jx,e] at hm)⟩
  ·rename_i h1 h2 h3
   exfalso
   cases hc:c.callee with
   | builtin b=>cases b <;> first|exact h1 hc|exact h2 hc|exact h3 _ hc
   | value x=>rw [hc] at hk; simp at hk
   | invoke x m=>rw [hc] at hk; simp at hk
 ·rename_i h1 h2 h3 h4 h5 h6
  simp only [Option.map_eq_some_iff,Prod.mk.injEq] at h; obtain ⟨_,_,rfl,rfl⟩:=h
  refine ⟨hI.S,hI.le,hI.tk,slot rfl (fun hm=>?_)⟩
  unfold Jx at hm
  split at hm
  ·exact absurd (by assumption) (h3 _)
  ·exact absurd (by assumption) (h4 _ _)
  ·simp at hm
theorem Lf [G:Globs] {call:Dh} {allr all:List Oper} {nn m:Nat} {S0:List Ent} {tk0:List Nat} : ∀ {l:List Oper} {st st':St},(∀ o ∈ l,o ∈ all/\Qu all nn o=true)->Tc (fun q=>decide (nn<=q) && Kt all q) m S0 tk0 st->evOs P call allr l st=some st'->Tc (fun q=>decide (nn<=q) && Kt all q) m S0 tk0 st'
 | [],st,st',_,hI,h=>by simp only [evOs,Option.some.injEq] at h; subst h; exact hI
 | o :: l,st,st',hq,hI,h=>by
  simp only [evOs] at h
  split at h
  ·simp at h
  ·refine Lf (fun o ho=>hq o (by simp [ho])) ?_ h
   refine ⟨hI.S,hI.le,hI.tk,fun q hqq=>?_⟩
   rcases Yl (T:=st.T) (d:=o.dst) (v:=.prim undef) (q:=q) with e|⟨_,e⟩
   ·simp only [e]; exact hI.own q hqq
   ·exact .inr (.inl e)
  ·split at h
   ·rename_i v s1 ho
    split at h
    case isFalse=>simp at h
    obtain ⟨a1,a2⟩:=hq o (by simp)
    exact Lf (fun o ho=>hq o (by simp [ho])) (Al5 a1 a2 hI ho) h
   ·simp at h
theorem Xz {kp:Bool} {A:Nat->Bool} {m:Nat} {S0:List Ent} {tk0:List Nat} {f:St->Option (Ex × St)} (hf:∀ st ex st',Tc A m S0 tk0 st->f st=some (ex,st')->Tc A m S0 tk0 st'):∀ {k:Nat} {st st':St} {ex:Ex},Tc A m S0 tk0 st->Kc kp f k st=some (ex,st')->Tc A m S0 tk0 st'
 | 0,_,_,_,_,h=>by simp [Kc] at h
 | k+1,st,st',ex,hI,h=>by
  simp only [Kc] at h
  split at h
  ·rename_i s1 h1
   have h2:=hf _ _ _ hI h1
   have cq:m<=bif kp then s1.S.length else st.S.length:=by cases kp <;> first|exact hI.le|exact h2.le
   rw [Aby] at h
   generalize (bif kp then s1.S.length else st.S.length)=mm at h cq
   refine Xz (st:={ s1 with S:=s1.S.take mm }) hf ⟨?_,?_,h2.tk,h2.own⟩ h
   ·show (s1.S.take mm).take m=S0
    rw [List.take_take,Nat.min_eq_left cq]; exact h2.S
   ·show m<=(s1.S.take mm).length
    rw [List.length_take]
    exact Nat.le_min.2 ⟨cq,h2.le⟩
  ·exact hf _ _ _ hI h
theorem Aei [Globs] {L:List Oper} {p:Nat} {al o:Oper} {all:List Oper} {nn:Nat} (h:Kg L=some (p,al,o)):¬ ∀ o ∈ L,o ∈ all/\Qu all nn o=true:=by
 intro hq
 unfold Kg at h
 split at h
 ·split at h
  ·rename_i hc
   simp only [Bool.and_eq_true,List.any_eq_true] at hc
   obtain ⟨x,hx,yk⟩:=hc.2
   have hk:=(hq x (List.dropLast_subset _ hx)).2
   unfold xOp at yk
   unfold Qu at hk
   split at yk
   ·rename_i c eh
    rw [eh] at hk
    simp only at hk
    unfold Ze at yk
    split at yk <;> rename_i ak <;> simp_all
   ·simp at yk
  ·simp at h
 ·simp at h
theorem E3 [Globs] [Ext P] {call:Dh} {ok:St->List Oper->Bool} {n nn m:Nat} {all:List Oper} {S0:List Ent} {tk0:List Nat} : ∀ (c:Code) (st:St) (ex:Ex) (st':St),(∀ o ∈ opsOf c,o ∈ all/\Qu all nn o=true)->Tc (fun q=>decide (nn<=q) && Kt all q) m S0 tk0 st->evC P call ok n c st=some (ex,st')->Tc (fun q=>decide (nn<=q) && Kt all q) m S0 tk0 st'
 | .skip,st,ex,st',_,hI,h=>by simp only [evC,Option.some.injEq,Prod.mk.injEq] at h; obtain ⟨_,rfl⟩:=h; exact hI
 | .exit _,st,ex,st',_,hI,h=>by simp only [evC,Option.some.injEq,Prod.mk.injEq] at h; obtain ⟨_,rfl⟩:=h; exact hI
 | .ret,st,ex,st',_,hI,h=>by simp only [evC,Option.some.injEq,Prod.mk.injEq] at h; obtain ⟨_,rfl⟩:=h; exact hI
 | .region _ ops draw,st,ex,st',hq,hI,h=>by
  simp only [opsOf] at hq
  simp only [evC] at h
  split at h
  ·split at h
   ·rename_i ini o tp
    obtain ⟨hL,-⟩:=L4 tp
    rw [hL] at hq
    split at h
    ·split at h
     ·rename_i s1 h1
      simp only [Option.map_eq_some_iff,Prod.mk.injEq] at h
      obtain ⟨s2,h2,_,rfl⟩:=h
      exact Lf (fun x hx=>hq x (List.mem_append.2 (.inr hx))) (Lf (G:=gM _) (fun x hx=>hq x (List.mem_append.2 (.inl hx))) hI h1) h2
     ·simp at h
    ·simp at h
   ·split at h
    ·rename_i hlt
     exact absurd hq (Aei hlt)
    ·split at h
     ·simp only [Option.map_eq_some_iff,Prod.mk.injEq] at h
      obtain ⟨s1,h,_,rfl⟩:=h
      exact Lf (G:=gM _) hq hI h
     ·simp at h
  ·simp only [Option.map_eq_some_iff,Prod.mk.injEq] at h
   obtain ⟨s1,h,_,rfl⟩:=h
   exact Lf hq hI h
 | .seq a b,st,ex,st',hq,hI,h=>by
  simp only [opsOf,List.mem_append] at hq
  simp only [evC] at h
  split at h
  ·rename_i s1 h1
   exact E3 b _ _ _ (fun o ho=>hq o (.inr ho)) (E3 a _ _ _ (fun o ho=>hq o (.inl ho)) hI h1) h
  ·exact E3 a _ _ _ (fun o ho=>hq o (.inl ho)) hI h
 | .cond x a b,st,ex,st',hq,hI,h=>by
  simp only [opsOf,List.mem_append] at hq
  simp only [evC] at h
  split at h
  ·split at h
   ·exact E3 a _ _ _ (fun o ho=>hq o (.inl ho)) hI h
   ·exact E3 b _ _ _ (fun o ho=>hq o (.inr ho)) hI h
  ·simp at h
 | .block id c,st,ex,st',hq,hI,h=>by
  simp only [opsOf] at hq
  simp only [evC] at h
  split at h
  ·rename_i id' s1 h1
   have:=E3 c _ _ _ hq hI h1
   split at h
   ·simp only [Option.some.injEq,Prod.mk.injEq] at h; obtain ⟨_,rfl⟩:=h; exact this
   ·simp only [Option.some.injEq,Prod.mk.injEq] at h; obtain ⟨_,rfl⟩:=h; exact this
  ·exact E3 c _ _ _ hq hI h
 | .loop c,st,ex,st',hq,hI,h=>by
  simp only [opsOf] at hq
  simp only [evC] at h
  exact Xz (fun s e s' hs hh=>E3 c s e s' hq hs hh) hI h
 | .rangeFunc _ _ _ _,_,_,_,_,_,h=>by simp [evC] at h
 | .scope c,st,ex,st',hq,hI,h=>by
  simp only [opsOf] at hq
  simp only [evC] at h
  exact E3 c _ _ _ hq hI h
 | .label _,st,ex,st',_,hI,h=>by simp only [evC,Option.some.injEq,Prod.mk.injEq] at h; obtain ⟨_,rfl⟩:=h; exact hI
 | .goto _,_,_,_,_,_,h=>by simp [evC] at h
 | .refuse _,_,_,_,_,_,h=>by simp [evC] at h
theorem Aet {args:List AV} {q n:Nat} (h:args.length<=q):getT (args++List.replicate n .bot) q=.bot:=by
 induction args generalizing q with
 | nil =>
  simp only [List.nil_append]
  induction n generalizing q with
  | zero=>rfl
  | succ n ih=>cases q with
   | zero=>rfl
   | succ q=>exact ih (by simp)
 | cons x args ih=>cases q with
  | zero=>simp at h
  | succ q=>exact ih (by simpa using h)
theorem R7 [Globs] [Ext P] [hX:Acg P] {ok:St->List Oper->Bool} : ∀ k M,@Ql (gM M) (@Ep (gM M) P _ (evF P ok k))
 | 0,M=>by intro f args S tk n r S' tk' n' h; simp [Ep,evF] at h
 | k+1,M=>by
  intro f args S tk n r S' tk' n' h
  by_cases tq:Ext.on P f=true
  ·have e:∀ S tk n,@Ep (gM M) P _ (evF P ok (k+1)) f args S tk n=@Ep (gM M) P _ (extC P) f args S tk n:=by
    intro S tk n; simp only [Ep,Ys tq]
   rw [e] at h
   obtain ⟨g1,g2,g4⟩:=hX.indep M _ _ _ _ _ _ _ _ _ h
   exact .inr ⟨g1,g2,g4.imp _root_.id fun g4=>⟨g4.1,fun S2 tk2 n2=>by rw [e]; exact g4.2 S2 tk2 n2⟩⟩
  by_cases y7:(@xF (gM M) f && @Globs.dr (gM M))=true
  ·exact .inl y7
  right
  unfold Ep at h
  split at h
  ·rename_i hp
   by_cases kw:((args.map w2).all pure2 && !Ext.mv P f)=true
   ·have ip:=kw
    simp only [Bool.and_eq_true,Bool.not_eq_true'] at ip
    obtain ⟨hp1,tu⟩:=ip
    simp only [evF] at h
    rw [if_neg tq] at h
    split at h
    ·rename_i fn hf
     split at h
     ·rename_i c hb
      split at h
      ·simp at h
      ·rename_i aq
       simp only [tu,hp1,if_true,Bool.false_eq_true,if_false] at h
       split at h
       ·rename_i r' ho
        simp only [Option.some.injEq,Prod.mk.injEq] at h
        obtain ⟨rfl,rfl,rfl,rfl⟩:=h
        refine ⟨rfl,rfl,.inr ⟨rfl,fun S2 tk2 n2=>?_⟩⟩
        unfold Ep
        rw [if_pos hp]
        simp only [evF,hf,hb]
        rw [if_neg tq,if_neg aq,if_neg (by rw [tu]; simp),if_pos hp1,ho]
       ·simp at h
     ·simp at h
    ·simp at h
   ·have qk:(@shF (gM M) f && Pb P f args.length && !Ext.mv P f && !Ext.on P f)=true:=by
     cases hx:((args.map w2).all pure2 && !Ext.mv P f) with
     | true=>exact absurd hx kw
     | false=>rw [hx] at hp; simpa [y7] using hp
    simp only [Bool.and_eq_true,Bool.not_eq_true'] at qk
    obtain ⟨⟨⟨h1,h2⟩,tu⟩,-⟩:=qk
    have hpp:¬ (args.map w2).all pure2=true:=fun h=>kw (by simp [h,tu])
    simp only [evF] at h
    rw [if_neg tq] at h
    unfold Pb at h2
    split at h
    ·rename_i fn hf
     rw [hf] at h2
     simp only at h2
     split at h
     ·rename_i c hb
      rw [hb] at h2
      simp only at h2
      split at h
      ·simp at h
      ·simp only [tu,hpp,Bool.false_eq_true,if_false] at h
       split at h
       ·rename_i r' st ho
        simp only [Option.some.injEq,Prod.mk.injEq] at h
        obtain ⟨rfl,rfl,rfl,rfl⟩:=h
        have dv:∃ ex,evC P (evF P ok k) ok k c ⟨args++List.replicate (fn.ntmps - args.length) .bot,S,tk,n⟩=some (ex,st):=by
         generalize evC P (evF P ok k) ok k c ⟨args++List.replicate (fn.ntmps - args.length) .bot,S,tk,n⟩=o at ho
         unfold outA at ho
         split at ho
         ·simp only [Option.map_eq_some_iff,Prod.mk.injEq] at ho; obtain ⟨_,_,_,rfl⟩:=ho; exact ⟨_,rfl⟩
         ·simp only [Option.map_eq_some_iff,Prod.mk.injEq] at ho; obtain ⟨_,_,_,rfl⟩:=ho; exact ⟨_,rfl⟩
         ·simp at ho
        obtain ⟨ex,f8⟩:=dv
        have hK:=E3 (all:=opsOf c) (nn:=args.length) (m:=S.length) (S0:=S) (tk0:=tk) c _ _ _ (fun o ho=>⟨ho,List.all_eq_true.1 h2 o ho⟩)
         ⟨List.take_length,Nat.le_refl _,rfl,fun q hq=>.inl (Aet (by simp only [Bool.and_eq_true,decide_eq_true_eq] at hq; exact hq.1))⟩ f8
        exact ⟨hK.S,hK.tk,.inl h1⟩
       ·simp at h
     ·simp at h
    ·simp at h
  ·simp at h
theorem V9 [Globs] [Ext P] [hX:Acg P] {ok:St->List Oper->Bool} (hd:Abp P ok):∀ k,J5 P (evF P ok k)
 | 0=>by intro f args S tk n r S' tk' n' h; simp [evF] at h
 | k+1=>by
  have hc:=V9 hd k
  intro f args S tk n r S' tk' n' h
  by_cases tq:Ext.on P f=true
  ·rw [Ys tq] at h
   exact hX.ok _ _ _ _ _ _ _ _ _ h
  simp only [evF] at h
  rw [if_neg tq] at h
  split at h
  ·rename_i fn hf
   split at h
   ·rename_i c hb
    split at h
    ·simp at h
    ·rename_i aq
     refine ⟨⟨fn,hf,by simpa using aq,by rw [hb]; rfl⟩,?_⟩
     rintro C vs rfl rfl rfl hs hv
     split at h
     ·split at h
      ·rename_i r' st ho
       simp only [Option.some.injEq,Prod.mk.injEq] at h
       obtain ⟨rfl,rfl,rfl,rfl⟩:=h
       exact Nj hc (R7 k) hd (k:=k) hf hb hs hv ho
      ·simp at h
     split at h
     ·rename_i hp
      split at h
      ·rename_i r' ho
       simp only [Option.some.injEq,Prod.mk.injEq] at h
       obtain ⟨rfl,rfl,rfl,rfl⟩:=h
       have aj:Stays C.w C.alone.w C.Avoid C.alone.Avoid:=fun b o v h1 h2=>⟨h1,fun h3=>h3.elim h2 Qt⟩
       have hv':=Lv aj hp (Afm hv)
       have one:∀ {as:List AV} {r0:AV},VRs C.alone as vs.toList->runP P ok (evF P ok k) k fn c as=some r0->Calls P f vs C.w fun e w'=>∃ v C',e=.returned v/\C'.w=w'/\Le C C'/\SR C'/\C'.S=C.S/\C'.tk=C.tk/\C'.n=C.n/\VR C' r0 v:=by
        intro as r0 hv' hrun
        unfold runP at hrun
        split at hrun
        ·rename_i r' st ho
         split at hrun
         ·rename_i hp3
          simp only [Option.some.injEq] at hrun
          subst hrun
          refine Calls.mono (Nj hc (R7 k) hd (k:=k) hf hb hs.alone hv' ho) ?_
          rintro e w' ⟨v,C',rfl,rfl,hle,hs',hS',-,-,h2⟩
          have hbel:Below C.w.heap.size C.w C'.w:=⟨hle.os,hle.tape,hle.output,hle.size,fun b hb=>hle.keep b hb fun o=>Qt⟩
          refine ⟨v,C.at C'.w,rfl,rfl,Le.of_below hbel,SR.of_below hs hbel,rfl,rfl,rfl,?_⟩
          have h3:=Wo hs' 0 h2
          rw [hS'] at h3
          refine Acw (C:={ C' with S:=st.S.take 0 }) (fun b o x h1 h2=>⟨h1,fun h3=>h2 (.inl ?_)⟩) hp3 (VR_w3 h3)
          show C'.av b o
          rw [hle.av]; exact h3
         ·simp at hrun
        ·simp at hrun
       split at ho
       ·unfold runN at ho
        split at ho
        ·rename_i l hl
         split at ho
         ·rename_i q1 q2
          simp only [Option.some.injEq] at ho
          subst ho
          rw [hl] at hv'
          cases yy:vs.toList with
          | nil=>rw [yy] at hv'; simp only [VRs] at hv'
          | cons x xs =>
           rw [yy] at hv'
           simp only [VRs] at hv'
           obtain ⟨hx,hxs⟩:=hv'
           simp only [VR] at hx
           obtain ⟨a,len,cap,rfl,h1,h2,-,h4⟩:=hx
           cases a with
           | none=>exact one (as:=.frz [] .nl :: l) (by rw [yy]; simp only [VRs,VR]; exact ⟨⟨none,len,cap,rfl,h1,h2,rfl,.inl trivial⟩,hxs⟩) q1
           | some a=>exact one (as:=.frz [] .nn :: l) (by rw [yy]; simp only [VRs,VR]; exact ⟨⟨some a,len,cap,rfl,h1,h2,rfl,.inl trivial⟩,hxs⟩) q2
         ·simp at ho
        ·exact one hv' ho
       ·exact one hv' ho
      ·simp at h
     ·split at h
      ·rename_i r' st ho
       simp only [Option.some.injEq,Prod.mk.injEq] at h
       obtain ⟨rfl,rfl,rfl,rfl⟩:=h
       refine Calls.mono (Nj hc (R7 k) hd (k:=k) hf hb hs hv ho) ?_
       rintro e w' ⟨v,C',rfl,rfl,hle,hs',e1,e2,e3,h2⟩
       have h3:=Wo hs' C.S.length h2
       rw [e1] at h3
       exact ⟨v,{ C' with S:=C'.S.take C.S.length },rfl,rfl,hle.trans (Le.take _),hs'.take _,by rw [<- e1],e2,e3,by rw [e1]; exact h3⟩
      ·simp at h
   ·simp at h
  ·simp at h
end
end
end Go.Proofs.YtcjffhadclngmaaGreat
