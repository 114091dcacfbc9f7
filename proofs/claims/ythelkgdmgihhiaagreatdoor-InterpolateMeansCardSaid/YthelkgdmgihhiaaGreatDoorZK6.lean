/- Part 6. -/
import Derived.Test.YthelkgdmgihhiaaGreatDoorZK5
import Derived.Orders
import Derived.Scope
namespace Go.Proofs.YthelkgdmgihhiaaGreatDoor
section
open Go.RowKit
section
variable {P:Program} {ops:Array Oper}
theorem B1 {listed:Array Bool} {i:Nat} (h:i ∈ Region.ready .any ops listed):listed.getD i true=false/\∃ o,ops[i]?=some o/\∀ e ∈ depsOf ops i,listed.getD e false=true:=by
 obtain ⟨h0,o,ho,hd⟩:=mem_ready.1 h
 refine ⟨h0,o,ho,fun e he=>?_⟩
 unfold depsOf at he
 rw [ho] at he
 simp only [List.mem_map,List.mem_filter] at he
 obtain ⟨x,⟨hx,hb⟩,rfl⟩:=he
 exact hd x (by simpa using hx) hb
theorem J6 {listed:Array Bool} {i:Nat} {o:Oper} (h0:listed.getD i true=false) (ho:ops[i]?=some o) (hd:∀ e ∈ depsOf ops i,listed.getD e false=true):i ∈ Region.ready .any ops listed:=by
 refine mem_ready.2 ⟨h0,o,ho,fun e he hb=>hd _ ?_⟩
 unfold depsOf; rw [ho]
 exact List.mem_map.2 ⟨e,List.mem_filter.2 ⟨by simpa using he,hb⟩,rfl⟩
theorem A1 {listed:Array Bool} (hc:∀ j,listed.getD j false=true->∀ e ∈ depsOf ops j,listed.getD e false=true) {i:Nat} (hd:∀ e ∈ depsOf ops i,listed.getD e false=true) :
  ∀ e ∈ reachAt ops i,listed.getD e false=true:=by
 unfold reachAt
 generalize (List.range i).reverse=l
 have key:∀ (l:List Nat) (s:List Nat),(∀ e ∈ s,listed.getD e false=true)->∀ e ∈ l.foldl (fun s j=>if s.contains j then depsOf ops j++s else s) s,listed.getD e false=true:=by
  intro l
  induction l with
  | nil=>intro s hs; exact hs
  | cons j l ih =>
   intro s hs
   simp only [List.foldl_cons]
   apply ih
   split
   ·rename_i hj
    intro e he
    rcases List.mem_append.1 he with h|h
    ·exact hc j (hs j (by simpa using hj)) e h
    ·exact hs e h
   ·exact hs
 exact key l _ hd
theorem Afg {o:Oper} {a:Act} {w:World} {K:Act->World->Prop} {Q Q':Exit->Act->World->Prop} (hp:∀ c a w,Q (.panic c) a w->Q' (.panic c) a w) (hl:LetsOut Q->LetsOut Q') (hh:o.wp P a w K Q):o.wp P a w K Q':=by
 unfold Oper.wp at *
 generalize (execOp a.eval o).run P w=r at *
 cases r with
 | ok n w' =>
  cases n <;> simp only [Oper.upon] at hh ⊢ <;>
   first
    | exact hh
    | exact Calls.mono hh (fun e w'' he=>by cases e <;> first|exact he|exact hp _ _ _ he|exact hl he)
    | exact Rows.mono hh (fun _ _ he=>he)
 | halt x w'=>cases x <;> simp only [Oper.upon] at hh ⊢ <;> first|exact hh|exact hp _ _ _ hh|exact hl hh
def Aax (P:Program) (o:Oper) (Q:Exit->Act->World->Prop):Exit->Act->World->Prop
 | .normal=>fun a w=>o.wp P a w (fun a' w'=>Q .normal a' w') Q
 | ex=>Q ex
theorem Dz {listed:Array Bool} {j:Nat} {d:Bool} (h:j<listed.size):(listed.push false).getD j d=listed.getD j d:=by
 simp [Array.getD_eq_getD_getElem?,Array.getElem?_push,Nat.ne_of_lt h]
theorem Qe {listed:Array Bool} {d:Bool} : (listed.push false).getD listed.size d=false:=by
 simp [Array.getD_eq_getD_getElem?,Array.getElem?_push]
theorem Vb {init:Array Oper} {o:Oper} {Q:Exit->Act->World->Prop} (hg:o.guard=none) (bl:∀ j,j<init.size->j ∈ reachAt (init.push o) init.size) (dq:∀ e ∈ depsOf (init.push o) init.size,e<init.size)
  (fp:∀ i o',init[i]?=some o'->(∀ e ∈ depsOf init i,e<i)/\∀ g w,o'.guard=some (g,w)->g<init.size) :
  ∀ (fuel:Nat) (listed:Array Bool) (a:Act) (w:World),listed.size=init.size->(∀ j,listed.getD j false=true->∀ e ∈ depsOf init j,listed.getD e false=true) ->
   wpAny P .any init (Aax P o Q) fuel listed a w->wpAny P .any (init.push o) Q (fuel+1) (listed.push false) a w:=by
 have bu:∀ i,i<init.size->(init.push o)[i]?=init[i]?:=fun i hi=>by rw [Array.getElem?_push,if_neg (by omega)]
 have ck:(init.push o)[init.size]?=some o:=by simp
 have ml:∀ i,i<init.size->depsOf (init.push o) i=depsOf init i:=fun i hi=>by unfold depsOf; rw [bu i hi]
 have b4:∀ (listed:Array Bool),listed.size=init.size->∀ i,i<init.size->(i ∈ Region.ready .any (init.push o) (listed.push false)↔i ∈ Region.ready .any init listed):=by
  intro listed hls i hi
  constructor
  ·intro h
   obtain ⟨h0,o',bd,hd⟩:=B1 h
   rw [Dz (by omega)] at h0
   rw [bu i hi] at bd
   rw [ml i hi] at hd
   refine J6 h0 bd fun e he=>?_
   have:=hd e he
   have hlt:=(fp i o' bd).1 e he
   rwa [Dz (by omega)] at this
  ·intro h
   obtain ⟨h0,o',bd,hd⟩:=B1 h
   refine J6 (by rw [Dz (by omega)]; exact h0) (by rw [bu i hi]; exact bd) fun e he=>?_
   rw [ml i hi] at he
   have hlt:=(fp i o' bd).1 e he
   rw [Dz (by omega)]; exact hd e he
 have fq:∀ (listed:Array Bool),listed.size=init.size->Region.ready .any init listed=[]->∀ j,j<init.size->listed.getD j false=true:=by
  intro listed hls au j
  induction j using Nat.strongRecOn with
  | _ j ihj =>
   intro hj
   cases hl:listed.getD j false with
   | true=>rfl
   | false =>
    exfalso
    have:j ∈ Region.ready .any init listed:=by
     refine J6 ?_ (Array.getElem?_eq_getElem hj) fun e he=>?_
     ·have ia:j<listed.size:=by omega
      simpa [Array.getD,ia] using hl
     ·have:=(fp j _ (Array.getElem?_eq_getElem hj)).1 e he
      exact ihj e this (by omega)
    rw [au] at this; simp at this
 have ib:∀ (listed:Array Bool),listed.size=init.size->(∀ j,listed.getD j false=true->∀ e ∈ depsOf init j,listed.getD e false=true)->init.size ∈ Region.ready .any (init.push o) (listed.push false)->Region.ready .any init listed=[]:=by
  intro listed hls hcl h
  obtain ⟨-,o',-,hd⟩:=B1 h
  have hc2:∀ j,(listed.push false).getD j false=true->∀ e ∈ depsOf (init.push o) j,(listed.push false).getD e false=true:=by
   intro j hj e he
   by_cases lq:j<init.size
   ·rw [Dz (by omega)] at hj
    rw [ml j lq] at he
    have hlt:=(fp j _ (Array.getElem?_eq_getElem lq)).1 e he
    rw [Dz (by omega)]; exact hcl j hj e he
   ·exfalso
    by_cases p4:j=init.size
    ·rw [p4,<- hls,Qe] at hj; cases hj
    ·rw [Array.getD_eq_getD_getElem?,Array.getElem?_eq_none (by simp; omega)] at hj; cases hj
  have hall:∀ j,j<init.size->listed.getD j false=true:=fun j hj=>by
   have:=A1 hc2 hd j (bl j hj)
   rwa [Dz (by omega)] at this
  cases hr:Region.ready .any init listed with
  | nil=>rfl
  | cons x l =>
   have hx:x ∈ Region.ready .any init listed:=by rw [hr]; simp
   obtain ⟨h0,o',bd,-⟩:=B1 hx
   have lu:=(Array.getElem?_eq_some_iff.1 bd).1
   have h1:=hall x lu
   have ip:x<listed.size:=by omega
   simp [Array.getD,ip] at h0 h1
   rw [h0] at h1; cases h1
 have fr:∀ (fuel:Nat) (listed:Array Bool) (a:Act) (w:World),listed.size=init.size->(∀ j,j<init.size->listed.getD j false=true)->Aax P o Q .normal a w ->
   wpOp P (init.push o) Q init.size (wpAny P .any (init.push o) Q fuel ((listed.push false).setIfInBounds init.size true)) a w:=by
  intro fuel listed a w hls hall h
  have au:Region.ready .any (init.push o) ((listed.push false).setIfInBounds init.size true)=[]:=by
   cases hr:Region.ready .any (init.push o) ((listed.push false).setIfInBounds init.size true) with
   | nil=>rfl
   | cons x l =>
    exfalso
    have hx:x ∈ Region.ready .any (init.push o) ((listed.push false).setIfInBounds init.size true):=by rw [hr]; simp
    obtain ⟨h0,o',bd,-⟩:=B1 hx
    have lu:=(Array.getElem?_eq_some_iff.1 bd).1
    rw [Array.size_push] at lu
    rw [Array.getD_eq_getD_getElem?,Array.getElem?_setIfInBounds] at h0
    split at h0
    ·split at h0
     ·cases h0
     ·rename_i h1 h2; exact h2 (by simp; omega)
    ·have h1:=hall x (by omega)
     rw [<- Array.getD_eq_getD_getElem?,Dz (by omega)] at h0
     have ip:x<listed.size:=by omega
     simp [Array.getD,ip] at h0 h1
     rw [h0] at h1; cases h1
  unfold wpOp
  rw [ck]
  simp only
  have hw:Region.wanted o (yielded (init.push o) a.tmps)=true:=by unfold Region.wanted; rw [hg]
  rw [if_pos hw]
  left
  refine Oper.wp_mono (fun a' w' hq=>?_) h
  cases fuel with
  | zero=>exact ⟨au,hq⟩
  | succ fuel=>exact ⟨fun _=>hq,fun i hi=>by rw [au] at hi; simp at hi⟩
 intro fuel
 induction fuel with
 | zero =>
  intro listed a w hls hcl h
  obtain ⟨au,hq⟩:=h
  have hall:=fq listed hls au
  have ek:init.size ∈ Region.ready .any (init.push o) (listed.push false):=by
   refine J6 (by rw [<- hls,Qe]) ck fun e he=>?_
   have:=dq e he
   rw [Dz (by omega)]; exact hall e this
  refine ⟨fun hn=>by rw [hn] at ek; simp at ek,fun i hi=>?_⟩
  by_cases ft:i<init.size
  ·rw [b4 listed hls i ft,au] at hi; simp at hi
  ·have c7:i=init.size:=by
    obtain ⟨-,o',bd,-⟩:=B1 hi
    have:=(Array.getElem?_eq_some_iff.1 bd).1
    rw [Array.size_push] at this; omega
   subst c7
   exact fr 0 listed a w hls hall hq
 | succ fuel ih =>
  intro listed a w hls hcl h
  obtain ⟨h1,h2⟩:=h
  refine ⟨fun hn=>?_,fun i hi=>?_⟩
  ·exfalso
   have au:Region.ready .any init listed=[]:=by
    cases hr:Region.ready .any init listed with
    | nil=>rfl
    | cons x l =>
     have hx:x ∈ Region.ready .any init listed:=by rw [hr]; simp
     obtain ⟨-,o',bd,-⟩:=B1 hx
     have:=(b4 listed hls x (Array.getElem?_eq_some_iff.1 bd).1).2 hx
     rw [hn] at this; simp at this
   have hall:=fq listed hls au
   have ek:init.size ∈ Region.ready .any (init.push o) (listed.push false):=by
    refine J6 (by rw [<- hls,Qe]) ck fun e he=>?_
    have:=dq e he
    rw [Dz (by omega)]; exact hall e this
   rw [hn] at ek; simp at ek
  ·by_cases ft:i<init.size
   ·have aj:=(b4 listed hls i ft).1 hi
    have h3:=h2 i aj
    obtain ⟨h0,o',bd,hd⟩:=B1 aj
    have ah:(listed.push false).setIfInBounds i true=(listed.setIfInBounds i true).push false:=by
     apply Array.ext'
     simp [List.set_append,hls,ft]
    have fu:∀ j,(listed.setIfInBounds i true).getD j false=true->∀ e ∈ depsOf init j,(listed.setIfInBounds i true).getD e false=true:=by
     intro j hj e he
     have om:∀ e,listed.getD e false=true->(listed.setIfInBounds i true).getD e false=true:=fun e he=>by
      rw [Array.getD_eq_getD_getElem?,Array.getElem?_setIfInBounds]
      split
      ·rw [if_pos (by rename_i h; omega)]; rfl
      ·rw [<- Array.getD_eq_getD_getElem?]; exact he
     by_cases hji:j=i
     ·subst hji; exact om e (hd e he)
     ·refine om e (hcl j ?_ e he)
      rw [Array.getD_eq_getD_getElem?,Array.getElem?_setIfInBounds,if_neg (fun h=>hji h.symm),<- Array.getD_eq_getD_getElem?] at hj
      exact hj
    have hk:∀ a' w',wpAny P .any init (Aax P o Q) fuel (listed.setIfInBounds i true) a' w'->wpAny P .any (init.push o) Q (fuel+1) ((listed.push false).setIfInBounds i true) a' w':=fun a' w' h=>by
     rw [ah]; exact ih _ a' w' (by simpa using hls) fu h
    unfold wpOp at h3 ⊢
    rw [bu i ft]
    rw [bd] at h3 ⊢
    simp only at h3 ⊢
    have hy:Region.wanted o' (yielded (init.push o) a.tmps)=Region.wanted o' (yielded init a.tmps):=by
     unfold Region.wanted
     cases hgd:o'.guard with
     | none=>rfl
     | some x =>
      obtain ⟨g,b⟩:=x
      have hgl:=(fp i o' bd).2 g b hgd
      simp only [yielded,bu g hgl]
    rw [hy]
    split
    ·rename_i hw
     rw [if_pos hw] at h3
     rcases h3 with h3|⟨h3,h4⟩
     ·exact .inl (Oper.wp_mono hk (Afg (fun c a w h=>h) (fun ⟨a,w,h⟩=>⟨a,w,h⟩) h3))
     ·exact .inr ⟨h3,let ⟨a,w,h⟩:=h4; ⟨a,w,h⟩⟩
    ·rename_i hw
     rw [if_neg hw] at h3
     exact hk _ _ h3
   ·have c7:i=init.size:=by
     obtain ⟨-,o',bd,-⟩:=B1 hi
     have:=(Array.getElem?_eq_some_iff.1 bd).1
     rw [Array.size_push] at this; omega
    subst c7
    have au:=ib listed hls hcl hi
    exact fr (fuel+1) listed a w hls (fq listed hls au) (h1 au)
end
section
variable {P:Program}
theorem W9 {C:Cx} {sz m:Nat} {y:AV} {ys:List AV} {vy:Value} (hy:VR C y vy) (h:litC sz y=some (m,ys)) (h0:0<m) (hs:0<sz) :
  ∃ b o cap vs,vy=.slice (some ⟨b,o,none⟩) m cap/\VRs C ys vs/\vs.length=m*sz/\Lie C.w C.Avoid b o vs/\(∀ v ∈ vs,v.oneCell'=true):=by
 unfold litC at h
 split at h
 ·rename_i es c
  split at h
  ·rename_i hh
   simp only [Option.some.injEq,Prod.mk.injEq] at h
   obtain ⟨rfl,rfl⟩:=h
   simp only [VR] at hy
   obtain ⟨a,len,cap,rfl,e1,e2,e3,e4⟩:=hy
   rcases e4 with rfl|⟨b,o,sz',rfl,hr⟩
   ·simp at h0
   ·have hne:es≠[]:=by intro e; subst e; simp at h0
    have:=Jo hr hh.1 hne
    subst this
    obtain ⟨l,g1,g2,g3⟩:=Dv hr
    exact ⟨b,o,cap,l,by rw [e1],Ey g2,g1,g3,Pj g2⟩
  ·simp at h
 ·rename_i len cs
  split at h
  ·rename_i hh
   simp only [Option.some.injEq,Prod.mk.injEq] at h
   obtain ⟨rfl,rfl⟩:=h
   simp only [VR] at hy
   obtain ⟨b,vs,rfl,hl,hv⟩:=hy
   have:=Ah hv
   exact ⟨b,0,len,vs,rfl,hv,by omega,hl,Jt hv hh.2⟩
  ·simp at h
 ·simp at h
def Cx.turn (C:Cx) (w:World) (id b:Nat) (cs:List AV):Cx:={ C with w:=w,φ:=fun i=>if i=id then b else C.φ i,S:=put C.S id ⟨C.n,cs⟩,n:=C.n+1 }
theorem Wi {C:Cx} {w:World} {id b:Nat} {cs:List AV} {x o:Nat} (hm:(C.turn w id b cs).Mut x o):C.Mut x o\/x=b:=by
 rcases hm with ⟨i,hi,e⟩|h
 ·simp only [Cx.turn,A6] at hi e
  split at e
  ·exact .inr e.symm
  ·exact .inl (.inl ⟨i,hi,e⟩)
 ·exact .inl (.inr h)
theorem Le.turn {C:Cx} {w:World} {id b:Nat} {cs:List AV} (hid:id<C.S.length) (hb:b=C.φ id\/C.w.heap.size<=b) (hos:w.os=C.w.os) (fd:w.tape=C.w.tape) (df:w.output=C.w.output) (fe:C.w.heap.size<=w.heap.size)
  (hcell:∀ x o v,C.w.cell? ⟨x,o,none⟩=some v->¬ C.Mut x o->w.cell? ⟨x,o,none⟩=some v) (ff:∀ x,x<C.w.heap.size->(∀ o,¬ C.Mut x o)->w.heap[x]?=C.w.heap[x]?)
  (dz:∀ (b:Nat) (cs:Array Value) (t:TypeId) (fz:Nat × Nat),C.w.heap[b]?=some (Obj.cells cs t fz)->∃ cs':Array Value,w.heap[b]?=some (Obj.cells cs' t fz)/\cs'.size=cs.size):Le C (C.turn w id b cs):=by
 refine ⟨hos,fd,df,fe,rfl,Nat.le_succ _,fun x o hx hm=>?_,hcell,ff,dz,fun i e he hn=>?_,fun _ k hk=>⟨k,hk,Nat.le_refl _,fun _=>rfl⟩⟩
 ·rcases Wi hm with h|rfl
  ·exact h
  ·rcases hb with rfl|hb
   ·exact .inl ⟨id,hid,rfl⟩
   ·omega
 ·by_cases h:id=i
  ·subst h
   have:=Bp he
   subst this
   simp at hn
  ·simp only [Cx.turn] at he ⊢
   rw [Bi h] at he
   exact ⟨e,he,rfl,by rw [if_neg (fun x=>h x.symm)]⟩
theorem SR.turn [Globs] {C:Cx} (ae:SR C) {w:World} {id b:Nat} {cs:List AV} {arr:Array Value} {t:TypeId} (hid:id<C.S.length) (hb:b=C.φ id\/C.w.heap.size<=b) (hle:Le C (C.turn w id b cs)) (bh:w.heap[b]?=some (.cells arr t (0,0)))
  (fg:∀ i,i<C.S.length->i≠id->w.heap[C.φ i]?=C.w.heap[C.φ i]?) (hv:∃ vs r,arr.toList=vs++r/\VRs C cs vs):SR (C.turn w id b cs):=by
 have hne:∀ i,i<C.S.length->i≠id->C.φ i≠b:=fun i hi h e=>by
  rcases hb with hb|hb
  ·exact h (ae.ne i id hi hid (by rw [e,hb]))
  ·have:=J2 ae hi; omega
 refine ⟨fun i x hx=>?_,fun i j hi hj h=>?_,ae.tok,fun i j o hi hj h h1 h2=>?_,fun x o hm=>?_,fun x o ha=>Nat.lt_of_lt_of_le (ae.avlt x o ha) hle.size,fun i o hi h1 h2=>Nat.lt_of_lt_of_le (ae.tlt i o hi h1 h2) hle.size,Kl ae hle⟩
 ·by_cases h:id=i
  ·subst h
   have:=Bp hx
   subst this
   obtain ⟨vs,r,i2,i4⟩:=hv
   exact ⟨Nat.lt_succ_self _,arr,t,by simp only [Cx.turn,if_true]; exact bh,vs,r,i2,VRs.mono hle _ _ i4⟩
  ·have hx':nth C.S i=some x:=by simp only [Cx.turn] at hx; rw [<- Bi h]; exact hx
   obtain ⟨h1,a',t',h2,vs,r,ei,h3⟩:=ae.ent i x hx'
   refine ⟨Nat.lt_succ_of_lt h1,a',t',?_,vs,r,ei,VRs.mono hle _ _ h3⟩
   simp only [Cx.turn]
   rw [if_neg (fun e=>h e.symm),fg i (A7 hx') (fun e=>h e.symm)]; exact h2
 ·simp only [Cx.turn,A6] at hi hj h
  by_cases aj:i=id <;> by_cases bg:j=id
  ·omega
  ·rw [if_pos aj,if_neg bg] at h
   exact absurd h.symm (hne j hj bg)
  ·rw [if_neg aj,if_pos bg] at h
   exact absurd h (hne i hi aj)
  ·rw [if_neg aj,if_neg bg] at h
   exact ae.ne i j hi hj h
 ·simp only [Cx.turn,A6] at hi h hj h1 h2
  by_cases aj:i=id
  ·rw [if_pos aj] at h
   rcases hb with rfl|hb
   ·exact ae.apart id j o hid hj h h1 h2
   ·have:=ae.tlt j o hj h1 h2; omega
  ·rw [if_neg aj] at h
   exact ae.apart i j o hi hj h h1 h2
 ·rcases Wi hm with h|rfl
  ·exact ae.own x o h
  ·rcases hb with rfl|hb
   ·exact ae.own _ o (.inl ⟨id,hid,rfl⟩)
   ·intro ha
    have:=ae.avlt _ o ha; omega
theorem Ym [Globs] {C:Cx} (ae:SR C) {t ty:TypeId} {x y av:AV} {vx vy:Value} {S':List Ent} {n':Nat} (hx:VR C x vx) (hy:VR C y vy) (h:apO P t x y C.S C.n=some (av,S',n')) :
  ∃ v C',(Builtin.append_ #[t,t] ty #[vx,vy]).run P C.w=.ok v C'.w/\Le C C'/\SR C'/\C'.S=S'/\C'.tk=C.tk/\C'.n=n'/\VR C' av v:=by
 unfold apO at h
 split at h
 case h_2=>simp at h
 rename_i sz hT
 split at h
 case h_2=>simp at h
 rename_i m ys hL
 split at h
 case isFalse=>simp at h
 rename_i hm
 obtain ⟨gx,lv⟩:=hm
 simp only [roomy,decide_eq_true_eq] at lv
 obtain ⟨e,i,z,hu,hi,hz,hsz,hpos,dx,j0,-⟩:=Pq hT
 obtain ⟨b2,o2,cap2,news,rfl,hn2,bv,gr,gz⟩:=W9 hy hL gx hpos
 have bw:∀ (j:Nat) u,news[j]?=some u->C.w.cell? (Addr.add ⟨b2,o2,none⟩ j)=some u:=fun j u hj=>by rw [A2]; exact (Gy gr j u hj).1
 unfold apO2 at h
 split at h
 ·-- the first
  simp only [Option.some.injEq,Prod.mk.injEq] at h
  obtain ⟨rfl,rfl,rfl⟩:=h
  simp only [VR] at hx
  obtain ⟨a,len,cap,rfl,hlen,hcap,hC,hE⟩:=hx
  obtain ⟨rfl,hcl⟩:a=none/\cap=len:=hC
  simp only [List.length_nil] at hlen
  subst hlen
  subst hcl
  have bk:m*i.bytes<=140737488355328:=by
   have:m*i.bytes<=1048576*1048576:=Nat.mul_le_mul lv j0
   omega
  have hrun:=run_append_nil (P:=P) C.w t ty e i z hu hi hz ⟨b2,o2,none⟩ m cap2 news (by rw [hsz]; exact bv) bw (by omega) (by omega) (by omega)
  generalize hA:(news.toArray++Builtin.zeroCells z.cells (grownCap C.w m 0 e - m))=arr at hrun
  have dk:=grownCap_ge C.w m 0 e
  have mn:arr.size=grownCap C.w m 0 e*sz:=by
   rw [<- hA]
   simp only [Array.size_append,List.size_toArray,size_zeroCells,dx,bv]
   rw [Nat.sub_mul]
   have:=Nat.mul_le_mul_right sz dk
   omega
  have hd:Below C.w.heap.size C.w C.w.drew:=(Below.refl _ _).drew
  have km:SR (C.at C.w.drew):=SR.of_below ae hd
  have hv:∃ vs r,arr.toList=vs++r/\VRs (C.at C.w.drew) ys vs:=⟨news,(Builtin.zeroCells z.cells (grownCap C.w m 0 e - m)).toList,by rw [<- hA]; simp,VRs.mono (Le.of_below hd) _ _ hn2⟩
  refine ⟨_,(C.at C.w.drew).more arr e ys,hrun,(Le.of_below hd).trans (Le.more km _ _ _),SR.moreP km hv,rfl,rfl,rfl,?_⟩
  simp only [VR]
  refine ⟨C.w.heap.size,_,_,rfl,dk,.inr rfl,Nat.lt_succ_self _,fun e' et de=>⟨?_,arr,e,?_,by omega⟩⟩
  ·simp [Cx.more,Cx.at]
  ·exact Aa C.w.drew _
 ·-- the next ones
  rename_i id ep len sz'
  split at h
  case isFalse=>simp at h
  rename_i hh
  obtain ⟨rfl,dj⟩:=hh
  split at h
  case h_2=>simp at h
  rename_i cs cw
  split at h
  case isFalse=>simp at h
  rename_i hh
  obtain ⟨hcl,ak⟩:=hh
  simp only [roomy,decide_eq_true_eq] at ak
  simp only [Option.some.injEq,Prod.mk.injEq] at h
  obtain ⟨rfl,rfl,rfl⟩:=h
  obtain ⟨en,h1,h2,rfl⟩:=Bw cw
  simp only [VR] at hx
  obtain ⟨b,a,cap,rfl,hcap,ha,hn,hb⟩:=hx
  obtain rfl:=ha.resolve_left (by omega)
  obtain ⟨rfl,arr,tt,h3,c6⟩:=hb en h1 h2
  obtain ⟨-,arr',tt',mo,olds,r,mp,io⟩:=ae.ent id en h1
  rw [h3] at mo
  simp only [Option.some.injEq,Obj.cells.injEq] at mo
  obtain ⟨rfl,rfl,-⟩:=mo
  have bc:=A7 h1
  have hol:=Ah io
  have mn:arr.size=olds.length+r.length:=by rw [<- Array.length_toList,mp,List.length_append]
  have ej:len*sz'+m*sz'=(len+m)*sz':=(Nat.add_mul _ _ _).symm
  have iq:VRs C (en.cells++ys) (olds++news):=Dw io hn2
  by_cases ba:len+m<=cap
  ·have hmc:(len+m)*sz'<=cap*sz':=Nat.mul_le_mul_right _ ba
   have hrun:=G2 (P:=P) C.w t ty e i hu hi (C.φ id) len cap tt arr h3 ⟨b2,o2,none⟩ m cap2 news (by rw [hsz]; exact bv) bw gz ba (by rw [hsz,bv]; omega)
   rw [hsz] at hrun
   generalize hA:(arr.toList.take (len*sz')++news++arr.toList.drop (len*sz'+news.length)).toArray=arr1 at hrun
   have co:arr1.size=arr.size:=by rw [<- hA]; simp; omega
   have p5:arr.toList.take (len*sz')=olds:=by rw [mp,List.take_append_of_le_length (by omega),List.take_of_length_le (by omega)]
   have hv:∃ vs r,arr1.toList=vs++r/\VRs C (en.cells++ys) vs:=⟨olds++news,arr.toList.drop (len*sz'+news.length),by rw [<- hA,p5],iq⟩
   have fa:(C.w.setRow (C.φ id) arr1).heap[C.φ id]?=some (.cells arr1 tt (0,0)):=setRow_heap _ _ _ _ _ _ h3
   have hle:Le C (C.turn (C.w.setRow (C.φ id) arr1) id (C.φ id) (en.cells++ys)):=by
    have hm:∀ o,C.Mut (C.φ id) o:=fun o=>.inl ⟨id,bc,rfl⟩
    refine Le.turn bc (.inl rfl) rfl rfl rfl (by simp) (fun x o v hv hn=>?_) (fun x _ hn=>?_) (fun x d t' fz hd=>?_)
    ·have hne:x≠C.φ id:=fun h=>hn (h ▸ hm o)
     have:=setRow_other C.w (C.φ id) x arr1 hne
     simpa [World.cell?,this] using hv
    ·exact setRow_other C.w (C.φ id) x arr1 fun h=>hn 0 (h ▸ hm 0)
    ·by_cases h:x=C.φ id
     ·subst h
      rw [h3] at hd
      simp only [Option.some.injEq,Obj.cells.injEq] at hd
      obtain ⟨rfl,rfl,rfl⟩:=hd
      exact ⟨arr1,fa,co⟩
     ·exact ⟨d,by rw [setRow_other _ _ _ _ h]; exact hd,rfl⟩
   refine ⟨_,_,hrun,hle,SR.turn ae bc (.inl rfl) hle fa (fun i hi hne=>setRow_other _ _ _ _ fun h=>hne (ae.ne i id hi bc h)) hv,rfl,rfl,rfl,?_⟩
   simp only [VR]
   refine ⟨C.φ id,_,_,rfl,ba,.inr rfl,Nat.lt_succ_self _,fun e' et de=>⟨by simp [Cx.turn],arr1,tt,fa,by omega⟩⟩
  ·have bq:cap<len+m:=by omega
   have bk:(len+m)*i.bytes<=140737488355328:=by
    have:(len+m)*i.bytes<=1048576*1048576:=Nat.mul_le_mul ak j0
    omega
   have hcells:∀ (j:Nat) v,olds[j]?=some v->C.w.cell? (Addr.add ⟨C.φ id,0,none⟩ j)=some v:=fun j v hj=>by
    rw [A2,Nat.zero_add]
    have:arr.toList[j]?=some v:=by rw [mp,List.getElem?_append_left (List.getElem?_eq_some_iff.1 hj).1]; exact hj
    simp [World.cell?,h3]; simpa using this
   have hrun:=run_append_grow (P:=P) C.w t ty e i z hu hi hz ⟨C.φ id,0,none⟩ len cap olds (by rw [hsz]; omega) hcells ⟨b2,o2,none⟩ m cap2 news (by rw [hsz]; exact bv) bw bq (by omega) (growslice_fits bq bk)
   generalize hA:(olds.toArray++news.toArray++Builtin.zeroCells z.cells (grownCap C.w (len+m) cap e - (len+m)))=arr1 at hrun
   have dk:=grownCap_ge C.w (len+m) cap e
   have oo:arr1.size=grownCap C.w (len+m) cap e*sz':=by
    rw [<- hA]
    simp only [Array.size_append,List.size_toArray,size_zeroCells,dx,bv]
    rw [Nat.sub_mul]
    have:=Nat.mul_le_mul_right sz' dk
    omega
   have hbel:Below C.w.heap.size C.w (C.w.drew.alloc (.cells arr1 e)):=((Below.refl _ _).drew).alloc (by simp) _
   have fa:(C.w.drew.alloc (.cells arr1 e)).heap[C.w.heap.size]?=some (.cells arr1 e (0,0)):=Aa C.w.drew _
   have hle:Le C (C.turn (C.w.drew.alloc (.cells arr1 e)) id C.w.heap.size (en.cells++ys)) :=
    Le.turn bc (.inr (Nat.le_refl _)) hbel.os hbel.tape hbel.output hbel.size (fun x o v hv _=>by rw [Below.cell hbel (Dg hv)]; exact hv) (fun x hx _=>hbel.block x hx) (fun x d t' fz hd=>⟨d,A5 hbel hd,rfl⟩)
   have hv:∃ vs r,arr1.toList=vs++r/\VRs C (en.cells++ys) vs:=⟨olds++news,(Builtin.zeroCells z.cells (grownCap C.w (len+m) cap e - (len+m))).toList,by rw [<- hA]; simp,iq⟩
   refine ⟨_,_,hrun,hle,SR.turn ae bc (.inr (Nat.le_refl _)) hle fa (fun i hi _=>hbel.block _ (J2 ae hi)) hv,rfl,rfl,rfl,?_⟩
   simp only [VR]
   refine ⟨C.w.heap.size,_,_,rfl,dk,.inr rfl,Nat.lt_succ_self _,fun e' et de=>⟨by simp [Cx.turn],arr1,e,fa,by omega⟩⟩
 ·simp at h
end
section
variable {P:Program}
theorem Le.take {C:Cx} (k:Nat):Le C { C with S:=C.S.take k }:=by
 refine ⟨rfl,rfl,rfl,Nat.le_refl _,rfl,Nat.le_refl _,?_,fun _ _ _ h _=>h,fun _ _ _=>rfl,fun _ cs _ _ h=>⟨cs,h,rfl⟩,?_,fun _ q h=>⟨q,h,Nat.le_refl _,fun _=>rfl⟩⟩
 ·rintro b o - (⟨i,hi,h⟩|h)
  ·exact .inl ⟨i,by simp at hi; omega,h⟩
  ·exact .inr h
 ·intro i e h _
  rw [Ab,List.getElem?_take] at h
  split at h
  ·exact ⟨e,by rw [Ab]; exact h,rfl,rfl⟩
  ·simp at h
theorem SR.take [Globs] {C:Cx} (hs:SR C) (k:Nat):SR { C with S:=C.S.take k }:=by
 have hle:=Le.take (C:=C) k
 refine ⟨fun i e h=>?_,fun i j hi hj h=>hs.ne i j (by simp at hi; omega) (by simp at hj; omega) h,hs.tok,fun i j o hi=>hs.apart i j o (by simp at hi; omega),?_,hs.avlt,hs.tlt,Kl hs hle⟩
 ·rw [Ab,List.getElem?_take] at h
  split at h
  ·obtain ⟨h1,cs,t,h2,vs,r,ei,h3⟩:=hs.ent i e (by rw [Ab]; exact h)
   exact ⟨h1,cs,t,h2,vs,r,ei,VRs.mono hle _ _ h3⟩
  ·simp at h
 ·rintro b o (⟨i,hi,h⟩|h)
  ·exact hs.own b o (.inl ⟨i,by simp at hi; omega,h⟩)
  ·exact hs.own b o (.inr h)
def Ev [Globs] (P:Program) (call:Ak):Prop :=
 ∀ f args S tk n r S' tk' n', call f args S tk n = some (r, S', tk', n') → (∃ fn, P.funcs[f]? = some fn ∧ (fn.name == "runtime.NumGoroutine") = false ∧ fn.body.isNone = false) ∧
  ∀ (C:Cx) (vs:Array Value),C.S=S->C.tk=tk->C.n=n->SR C->VRs C args vs.toList ->
   Calls P f vs C.w fun e w'=>∃ v C',e=.returned v/\C'.w=w'/\Le C C'/\SR C'/\C'.S=S'/\C'.tk=tk'/\C'.n=n'/\VR C' r v
theorem Ds {o:Oper} {a:Act} {w w':World} {v:Value} {next:Act->World->Prop} {Q:Exit->Act->World->Prop} (h:(execOp a.eval o).run P w=.ok (.value v) w') (hn:next (a.put o.dst v) w'):o.wp P a w next Q:=by
 unfold Oper.wp; rw [h]; exact hn
theorem D2 [Globs] {call:Ak} (hc:Ev P call) {C:Cx} {st st':St} {a:Act} {o:Oper} {av:AV} (hr:Rel C st a) (h:evO P call o st=some (av,st')) {next:Act->World->Prop} {Q:Exit->Act->World->Prop}
  (hn:∀ v C',Le C C'->SR C'->C'.S=st'.S->C'.tk=st'.tk->C'.n=st'.n->VR C' av v->next (a.put o.dst v) C'.w):o.wp P a C.w next Q/\st'.T=st.T:=by
 have hρ:=U6 hr.tmps
 have quiet:∀ av',evQ P o (opv st.T)=some av'->(av',st)=(av,st')->o.wp P a C.w next Q/\st'.T=st.T:=by
  intro av' hq e
  simp only [Prod.mk.injEq] at e
  obtain ⟨rfl,rfl⟩:=e
  obtain ⟨v,w',h1,h2,h3⟩:=Ze hr.sr hρ hq
  exact ⟨Ds h1 (hn v (C.at w') (Le.of_below h2) (SR.of_below hr.sr h2) hr.S hr.tk hr.n h3),rfl⟩
 unfold evO at h
 split at h
 ·rename_i t x e
  simp only [Option.map_eq_some_iff,Prod.mk.injEq] at h
  obtain ⟨v,h,rfl,rfl⟩:=h
  rw [<- hr.S] at h
  obtain ⟨u,h1,h2⟩:=Rx hr.sr (hρ x) h
  exact ⟨Ds (v:=u) (w':=C.w) (by simp [execOp,e,h1]) (hn u C (Le.refl C) hr.sr hr.S hr.tk hr.n h2),rfl⟩
 ·rename_i t x y e
  simp only [Option.map_eq_some_iff,Prod.mk.injEq] at h
  obtain ⟨S',h,rfl,rfl⟩:=h
  rw [<- hr.S] at h
  obtain ⟨C',h1,h2,h3,h4,h5,h6⟩:=Aat hr.sr (hρ x) (hρ y) h
  refine ⟨?_,rfl⟩
  unfold Oper.wp
  have:(execOp a.eval o).run P C.w=.ok .skip C'.w:=by simp [execOp,e,h1]
  rw [this]
  exact hn undef C' h2 h3 h4 (h5.trans hr.tk) (h6.trans hr.n) (by simp only [VR])
 ·rename_i t e
  simp only [Option.map_eq_some_iff,Prod.mk.injEq] at h
  obtain ⟨cs,h,rfl,rfl⟩:=h
  obtain ⟨zv,h1,rfl⟩:=Ge (w:=C.w) h
  refine ⟨Ds (v:=.pointer (some ⟨C.w.heap.size,0,none⟩)) (w':=C.w.alloc (.cells zv.cells t)) ?_ ?_,rfl⟩
  ·simp only [execOp,e,Instr.alloc,Sem.run_bind,h1,Result.andThen_ok,newVar,Ec,Sem.run_pure]
  ·have:=hn (.pointer (some ⟨C.w.heap.size,0,none⟩)) (C.more zv.cells t (zv.cells.toList.map cst1)) (Le.more hr.sr _ _ _) (SR.more hr.sr (Ep _)) (by simp [Cx.more,hr.S,hr.n]) hr.tk (by simp [Cx.more,hr.n]) (by rw [<- hr.S,<- hr.n]; exact Ade)
   exact this
 ·rename_i t x e
  simp only [Option.map_eq_some_iff,Prod.mk.injEq] at h
  obtain ⟨cs,h,rfl,rfl⟩:=h
  have hv:=Dl h (hρ x)
  refine ⟨Ds (v:=.pointer (some ⟨C.w.heap.size,0,none⟩)) (w':=C.w.alloc (.cells (a.eval x).cells t)) ?_ ?_,rfl⟩
  ·simp only [execOp,e,Instr.box,Sem.run_bind,Result.andThen_ok,newVar,Ec,Sem.run_pure]
  ·have:=hn (.pointer (some ⟨C.w.heap.size,0,none⟩)) (C.more (a.eval x).cells t cs) (Le.more hr.sr _ _ _) (SR.more hr.sr hv) (by simp [Cx.more,hr.S,hr.n]) hr.tk (by simp [Cx.more,hr.n]) (by rw [<- hr.S,<- hr.n]; exact Ade)
   exact this
 ·rename_i t l c e
  simp only [Option.map_eq_some_iff,Prod.exists] at h
  obtain ⟨l',sz,cs,h,hh⟩:=h
  obtain ⟨el,m,arr,r1,r2,r3,r4,r5⟩:=Zz (hρ l) (hρ c) h
  have hrun:(execOp a.eval o).run P C.w=.ok (.value (.slice (some ⟨C.w.heap.size,0,none⟩) l' m)) (C.w.alloc (.cells arr el)):=by simp [execOp,e,r1]
  have hb:Below C.w.heap.size C.w (C.w.alloc (.cells arr el)):=(Below.refl _ _).alloc (Nat.le_refl _) _
  have bh:cs.length=arr.size:=by rw [<- r2]; simp
  split at hh
  ·rename_i bq
   simp only [Prod.mk.injEq] at hh
   obtain ⟨rfl,rfl⟩:=hh
   have hlm:l'*sz<=m*sz:=Nat.mul_le_mul_right _ r3
   have ag:Aq C.tk .tight sz=true:=rfl
   have mq:H1 C .tight C.w.heap.size (l'*sz) (m*sz):=.inr (.inl (Nat.le_refl _))
   have hle:Le C (C.tok (C.w.alloc (.cells arr el)) .tight (C.w.heap.size,l'*sz,m*sz)) :=
    Le.of_tok ag mq rfl rfl rfl hb.size (fun x o v hv _=>by rw [Below.cell hb (Dg hv)]; exact hv) (fun x hlt _=>hb.block x hlt) (fun b d t fz hd=>⟨d,A5 hb hd,rfl⟩)
   have ae:=SR.of_tok hr.sr ag mq (fun _=>(Array.getElem?_eq_some_iff.1 (Aa C.w (.cells arr el))).1) hle (fun i hi=>hb.block _ (J2 hr.sr hi))
   have hcap:CapR (C.tok (C.w.alloc (.cells arr el)) .tight (C.w.heap.size,l'*sz,m*sz)) (.tok C.tk.length 0 sz) (some ⟨C.w.heap.size,0,none⟩) l' m:=Gi (c:=.tight) ag (.inr ⟨arr,el,rfl,rfl,Aa _ _,by omega⟩)
   have hv:VR (C.tok (C.w.alloc (.cells arr el)) .tight (C.w.heap.size,l'*sz,m*sz)) (mkV (len0 l) st.tk.length l' sz cs) (.slice (some ⟨C.w.heap.size,0,none⟩) l' m):=by
    unfold mkV
    split
    ·rename_i dj
     have hl':l'=0:=by
      cases l with
      | const v=>cases v with
       | int k z =>
        unfold len0 at dj
        split at dj
        ·rename_i k' he
         simp only [Operand.const.injEq,Value.int.injEq] at he
         obtain ⟨rfl,rfl⟩:=he
         simp [opv,cst,cst1,intN] at r5; exact r5.symm
        ·simp at dj
       | _=>simp [len0] at dj
      | _=>simp [len0] at dj
     subst hl'
     simp only [VR]
     refine ⟨_,0,m,rfl,rfl,Nat.zero_le _,?_,.inl trivial⟩
     rw [<- hr.tk]
     exact hcap
    ·unfold K3
     split
     ·rename_i es gt
      split
      ·rename_i hp
       obtain ⟨g1,g2,g3,g4⟩:=Ht gt
       simp only [tokA,VR]
       refine ⟨_,l',m,rfl,by simp [g1],r3,by rw [<- hr.tk]; exact hcap,.inr ⟨C.w.heap.size,0,sz,rfl,?_⟩⟩
       obtain ⟨e1,e2,e3,e4,e5,e6,e7,e8,e9,e10,e11⟩:=Jb (w:=C.w.alloc (.cells arr el)) (x:=(C.w.heap.size,l'*sz,m*sz)) ag
       have dp:(es.map (·.map w1)).flatten=((arr.toList.map cst1).take (l'*sz)).map w1:=by rw [r2,<- g3,List.map_flatten]
       have fo:VRs C ((arr.toList.map cst1).take (l'*sz)) (arr.toList.take (l'*sz)):=(Gg (Ep _) (Hx (by rw [r2]; exact g4))).1
       refine Dk (l:=arr.toList.take (l'*sz)) (fun e he=>?_) ?_ (G0 fun j v hj=>?_)
       ·rw [List.mem_map] at he
        obtain ⟨e',et,rfl⟩:=he
        rw [List.length_map]; exact g2 e' et
       ·rw [dp]
        refine PRs.stays hle.stays _ _ (Ew (C:=C) ?_ (Nm fo))
        rw [r2,<- g3,List.all_eq_true]
        intro c hc
        rw [List.mem_map] at hc
        obtain ⟨c',az,rfl⟩:=hc
        rw [List.mem_flatten] at az
        obtain ⟨r,hr,az⟩:=az
        exact List.all_eq_true.1 (List.all_eq_true.1 hp r hr) c' az
       ·rw [Nat.zero_add]
        have ia:j<l'*sz:=by
         have:=(List.getElem?_eq_some_iff.1 hj).1
         simp at this; omega
        rw [List.getElem?_take_of_lt ia] at hj
        constructor
        ·rw [e1]
         simp only [World.cell?,Aa]
         simpa using hj
        ·rintro (bp|bm)
         ·rw [e2] at bp
          have:=hr.sr.avlt _ _ bp; omega
         ·rcases Lj ag mq bm with h|⟨-,h1,h2,-⟩
          ·exact hr.sr.fresh (Nat.le_refl _) (.inr h)
          ·omega
      ·simp only [tokA,VR]
     ·simp only [tokA,VR]
   exact ⟨Ds hrun (hn _ _ hle ae hr.S (by show C.tk++[0]=_; rw [hr.tk]) hr.n hv),rfl⟩
  ·simp only [Prod.mk.injEq] at hh
   obtain ⟨rfl,rfl⟩:=hh
   subst r2
   refine ⟨Ds hrun (hn _ (C.more arr el (arr.toList.map cst1)) (Le.more hr.sr _ _ _) (SR.more hr.sr (Ep _)) (by simp [Cx.more,hr.S,hr.n]) hr.tk (by simp [Cx.more,hr.n]) ?_),rfl⟩
   simp only [VR]
   refine ⟨C.w.heap.size,some ⟨C.w.heap.size,0,none⟩,m,rfl,r3,.inr rfl,by rw [<- hr.n]; exact Nat.lt_succ_self _,fun e' et de=>⟨?_,arr,el,Aa _ _,?_⟩⟩
   ·rw [<- hr.S]
    simp [Cx.more]
   ·simp only [List.length_map,Array.length_toList] at r4
    omega
 ·rename_i c e
  split at h
  ·rename_i hb
   split at h
   ·rename_i x y t t' cj ht
    split at h
    ·split at h
     ·rename_i fv
      subst fv
      simp only [Option.map_eq_some_iff,Prod.mk.injEq,Prod.exists] at h
      obtain ⟨v,S',n',h,rfl,rfl⟩:=h
      have aa:=G6 hr.tmps c.args.toList
      rw [cj] at aa
      obtain ⟨ux,uy,hu⟩:=Ti aa
      rw [hu] at aa
      simp only [VRs,and_true] at aa
      rw [<- hr.S,<- hr.n] at h
      obtain ⟨w,C',h1,h2,h3,h4,h5,h6,h7⟩:=Ym (ty:=o.type) hr.sr aa.1 aa.2 h
      have ha:c.args.map a.eval=#[ux,uy]:=by rw [<- Array.toList_inj]; simp [hu]
      have jh:c.argTypes=#[t,t]:=by rw [<- Array.toList_inj]; simp [ht]
      exact ⟨Ds (v:=w) (w':=C'.w) (by simp [execOp,e,resolve,hb,ha,invoke,builtin,jh,h1]) (hn w C' h2 h3 h4 (h5.trans hr.tk) h6 h7),rfl⟩
     ·simp at h
    split at h
    ·rename_i fv
     subst fv
     simp only [Option.map_eq_some_iff,Prod.mk.injEq,Prod.exists] at h
     obtain ⟨v,tk',h,rfl,rfl⟩:=h
     have aa:=G6 hr.tmps c.args.toList
     rw [cj] at aa
     obtain ⟨ux,uy,hu⟩:∃ ux uy,c.args.toList.map a.eval=[ux,uy]:=by
      have:=Ah aa
      match hl:c.args.toList.map a.eval with
      | [p,q]=>exact ⟨p,q,rfl⟩
      | []=>rw [hl] at this; simp at this
      | [_]=>rw [hl] at this; simp at this
      | _ :: _ :: _ :: _=>rw [hl] at this; simp at this
     rw [hu] at aa
     simp only [VRs,and_true] at aa
     rw [<- hr.tk,<- hr.S] at h
     obtain ⟨w,C',h1,h2,h3,h4,h5,h6,h7⟩:=Ws (ty:=o.type) hr.sr aa.1 aa.2 h
     have ha:c.args.map a.eval=#[ux,uy]:=by rw [<- Array.toList_inj]; simp [hu]
     have jh:c.argTypes=#[t,t]:=by rw [<- Array.toList_inj]; simp [ht]
     exact ⟨Ds (v:=w) (w':=C'.w) (by simp [execOp,e,resolve,hb,ha,invoke,builtin,jh,h1]) (hn w C' h2 h3 (h4.trans hr.S) h5 (h6.trans hr.n) h7),rfl⟩
    ·simp only [Option.map_eq_some_iff,Prod.mk.injEq,Prod.exists] at h
     obtain ⟨v,tk',h,rfl,rfl⟩:=h
     have aa:=G6 hr.tmps c.args.toList
     rw [cj] at aa
     obtain ⟨ux,uy,hu⟩:=Ti aa
     rw [hu] at aa
     simp only [VRs,and_true] at aa
     rw [<- hr.tk] at h
     obtain ⟨w,C',h1,h2,h3,h4,h5,h6,h7⟩:=Yo (ty:=o.type) hr.sr aa.1 aa.2 h
     have ha:c.args.map a.eval=#[ux,uy]:=by rw [<- Array.toList_inj]; simp [hu]
     have jh:c.argTypes=#[t,t']:=by rw [<- Array.toList_inj]; simp [ht]
     exact ⟨Ds (v:=w) (w':=C'.w) (by simp [execOp,e,resolve,hb,ha,invoke,builtin,jh,h1]) (hn w C' h2 h3 (h4.trans hr.S) h5 (h6.trans hr.n) h7),rfl⟩
   ·simp at h
  ·rename_i hb
   split at h
   ·rename_i x y t t' cj ht
    simp only [Option.map_eq_some_iff,Prod.mk.injEq,Prod.exists] at h
    obtain ⟨m,S',h,rfl,rfl⟩:=h
    have aa:=G6 hr.tmps c.args.toList
    rw [cj] at aa
    obtain ⟨ux,uy,hu⟩:=Ti aa
    rw [hu] at aa
    simp only [VRs,and_true] at aa
    rw [<- hr.S] at h
    obtain ⟨C',h1,h2,h3,h4,h5,h6⟩:=Yz (ty:=o.type) (t':=t') hr.sr aa.1 aa.2 h
    have ha:c.args.map a.eval=#[ux,uy]:=by rw [<- Array.toList_inj]; simp [hu]
    have jh:c.argTypes=#[t,t']:=by rw [<- Array.toList_inj]; simp [ht]
    exact ⟨Ds (v:=.int .i64 (m:Int)) (w':=C'.w) (by simp [execOp,e,resolve,hb,ha,invoke,builtin,jh,h1]) (hn _ C' h2 h3 h4 (h5.trans hr.tk) (h6.trans hr.n) (by simp only [VR])),rfl⟩
   ·simp at h
  ·simp only [Option.map_eq_some_iff] at h
   obtain ⟨v,h,hh⟩:=h
   exact quiet v h hh
  ·split at h
   ·rename_i f args ca
    simp only [Option.map_eq_some_iff,Prod.mk.injEq,Prod.exists] at h
    obtain ⟨r,S',tk',n',h,rfl,rfl⟩:=h
    refine ⟨?_,rfl⟩
    unfold B3 at ca
    split at ca
    ·rename_i x m hx
     split at ca
     ·rename_i ti vi fw
      simp only [Option.map_eq_some_iff,Prod.mk.injEq] at ca
      obtain ⟨f',hm,rfl,rfl⟩:=ca
      have dt:=hρ x
      rw [fw] at dt
      simp only [VR] at dt
      obtain ⟨u,dt,hu⟩:=dt
      obtain ⟨⟨fn,g1,g2,g3⟩,hcall⟩:=hc _ _ _ _ _ _ _ _ _ h
      have aa:VRs C (vi :: c.args.toList.map (opv st.T)) (u :: c.args.toList.map a.eval):=by simp only [VRs]; exact ⟨hu,G6 hr.tmps c.args.toList⟩
      have hC:=hcall C (#[u]++c.args.map a.eval) hr.S hr.tk hr.n hr.sr (by simpa using aa)
      have hrun:(execOp a.eval o).run P C.w=.ok (.enter f' (#[u]++c.args.map a.eval)) C.w:=by
       have bv : ¬ fn.name = "runtime.NumGoroutine" := by simpa using g2
       have ji:¬ fn.body=none:=by intro hh; rw [hh] at g3; simp at g3
       have lv:=Xc (P:=P) (w:=C.w) (u:=u) hm
       have hz0:(#[Value.iface ti u]++c.args.map a.eval)[0]?=some (.iface ti u):=by simp [Array.getElem?_append]
       have hz1:(#[Value.iface ti u]++c.args.map a.eval).extract 1 (#[Value.iface ti u]++c.args.map a.eval).size=c.args.map a.eval:=by
        apply Array.ext'; simp [List.take_of_length_le]
       simp only [execOp,e,resolve,hx,dt,invoke,Sem.run_bind,Sem.run_pure,Result.andThen_ok,hz0,hz1,callMethod]
       simp [callFunc,lv,g1,bv,ji]
      unfold Oper.wp
      rw [hrun]
      refine Calls.mono hC ?_
      rintro e' w' ⟨v,C',rfl,rfl,k1,k2,k3,k4,k5,k6⟩
      exact hn v C' k1 k2 k3 k4 k5 k6
     ·simp at ca
    ·rename_i x hx
     split at ca
     ·rename_i f' caps fw
      simp only [Option.some.injEq,Prod.mk.injEq] at ca
      obtain ⟨rfl,rfl⟩:=ca
      have dt:=hρ x
      rw [fw] at dt
      simp only [VR] at dt
      obtain ⟨us,dt,fy⟩:=dt
      obtain ⟨⟨fn,g1,g2,g3⟩,hcall⟩:=hc _ _ _ _ _ _ _ _ _ h
      have aa:=Dw (G6 hr.tmps c.args.toList) fy
      have hC:=hcall C (c.args.map a.eval++us) hr.S hr.tk hr.n hr.sr (by simpa using aa)
      have hrun:(execOp a.eval o).run P C.w=.ok (.enter f' (c.args.map a.eval++us)) C.w:=by
       have bv : ¬ fn.name = "runtime.NumGoroutine" := by simpa using g2
       have ji:¬ fn.body=none:=by intro hh; rw [hh] at g3; simp at g3
       simp [execOp,e,resolve,hx,dt,Deferred.ofValue,invoke,callFunc,g1,bv,ji]
      unfold Oper.wp
      rw [hrun]
      refine Calls.mono hC ?_
      rintro e' w' ⟨v,C',rfl,rfl,k1,k2,k3,k4,k5,k6⟩
      exact hn v C' k1 k2 k3 k4 k5 k6
     ·rename_i f' caps fw
      simp only [Option.some.injEq,Prod.mk.injEq] at ca
      obtain ⟨rfl,rfl⟩:=ca
      have dt:=hρ x
      rw [fw] at dt
      simp only [VR] at dt
      obtain ⟨us,dt,fy⟩:=dt
      obtain ⟨⟨fn,g1,g2,g3⟩,hcall⟩:=hc _ _ _ _ _ _ _ _ _ h
      have aa:=Dw fy (G6 hr.tmps c.args.toList)
      have hC:=hcall C (us++c.args.map a.eval) hr.S hr.tk hr.n hr.sr (by simpa using aa)
      have hrun:(execOp a.eval o).run P C.w=.ok (.enter f' (us++c.args.map a.eval)) C.w:=by
       have bv : ¬ fn.name = "runtime.NumGoroutine" := by simpa using g2
       have ji:¬ fn.body=none:=by intro hh; rw [hh] at g3; simp at g3
       simp [execOp,e,resolve,hx,dt,Deferred.ofValue,invoke,callFunc,g1,bv,ji]
      unfold Oper.wp
      rw [hrun]
      refine Calls.mono hC ?_
      rintro e' w' ⟨v,C',rfl,rfl,k1,k2,k3,k4,k5,k6⟩
      exact hn v C' k1 k2 k3 k4 k5 k6
     ·simp at ca
    ·simp at ca
   ·simp at h
 ·simp only [Option.map_eq_some_iff] at h
  obtain ⟨v,h,hh⟩:=h
  exact quiet v h hh
theorem En {C:Cx} {T:List AV} {a:Act} {ops:Array Oper} {o:Oper} {b:Bool} (ht:VRs C T a.tmps.toList) (h:Ea ops.toList T o=some b):Region.wanted o (yielded ops a.tmps)=b:=by
 unfold Ea at h
 unfold Region.wanted
 split at h
 ·rename_i hg; rw [hg]; simpa using h
 ·rename_i g want hg
  rw [hg]
  simp only
  split at h
  ·simp at h
  ·rename_i d hd
   have cf:(ops[g]?).bind (·.dst)=some d:=by rw [Ab] at hd; simpa using hd
   unfold yielded
   rw [cf]
   simp only [Option.bind_some]
   by_cases hlt:d<T.length
   ·obtain ⟨v,h1,h2⟩:=Nl ht (Zi hlt)
    have lw:a.tmps[d]?=some v:=by simpa using h1
    rw [lw]
    split at h
    ·rename_i x hx
     rw [hx] at h2; simp only [VR] at h2; subst h2
     simpa using h
    ·rename_i x hx
     rw [hx] at h2; simp only [VR] at h2; subst h2
     simpa using h
    ·simp at h
   ·rw [Jr (Nat.le_of_not_lt hlt)] at h
    simp at h
theorem Rel.put [Globs] {C C':Cx} {st st':St} {a:Act} {d:Option Tmp} {v:Value} {av:AV} (hr:Rel C st a) (hle:Le C C') (hs:SR C') (h1:C'.S=st'.S) (h2:C'.tk=st'.tk) (h3:C'.n=st'.n) (hv:VR C' av v) (hT:st'.T=st.T) :
  Rel C' { st' with T:=putT st'.T d av } (a.put d v) :=
 ⟨h1,h2,h3,Po (by rw [hT]; exact VRs.mono hle _ _ hr.tmps) hv,by cases d <;> exact hr.defers,hs⟩
theorem Kj [Globs] {call:Ak} (hc:Ev P call) {ops:Array Oper} {Q:Exit->Act->World->Prop} : ∀ {l:List Oper} {C:Cx} {st st':St} {a:Act},Rel C st a->evOs P call ops.toList l st=some st' ->
  (∀ a' C',Le C C'->Rel C' st' a'->Q .normal a' C'.w)->wpList P ops Q l a C.w
 | [],C,st,st',a,hr,h,hQ=>by
  simp only [evOs,Option.some.injEq] at h; subst h
  exact hQ a C (Le.refl C) hr
 | o :: l,C,st,st',a,hr,h,hQ=>by
  simp only [evOs] at h
  split at h
  ·simp at h
  ·rename_i hw
   have:=En hr.tmps hw
   unfold wpList
   rw [if_neg (by rw [this]; simp)]
   exact Kj hc (hr.put (Le.refl C) hr.sr hr.S hr.tk hr.n (by simp only [VR]) rfl) h hQ
  ·rename_i hw
   have:=En hr.tmps hw
   unfold wpList
   rw [if_pos this]
   split at h
   ·rename_i v st1 ho
    split at h
    case isFalse=>simp at h
    have hT:st1.T=st.T:=(D2 (next:=fun _ _=>True) (Q:=Q) hc hr ho (fun _ _ _ _ _ _ _ _=>trivial)).2
    refine .inl (D2 hc hr ho fun u C' k1 k2 k3 k4 k5 k6=>?_).1
    exact Kj hc (hr.put k1 k2 k3 k4 k5 k6 hT) h fun a' C'' k bn=>hQ a' C'' (k1.trans k) bn
   ·simp at h
theorem Uv {c:Code} {Q:Exit->Act->World->Prop} (J:Nat->Act->World->Prop) (round:∀ n a w,J n a w->c.wp P (Exit.then (fun a' w'=>∃ m,m<n/\J m a' w') Q) a w) {n:Nat} {a:Act} {w:World} (h0:J n a w):(Code.loop c).wp P Q a w:=by
 intro b k cs
 have key:∀ n a w,J n a w->∃ e a' w',Q e a' w'/\Arrives P (lone (b.at a (.code c :: .inLoop c :: k)) cs w) b k cs e a' w':=by
  intro n
  induction n using Nat.strongRecOn with
  | _ n ih =>
   intro a w hJ
   obtain ⟨e,a₁,w₁,hq,bh⟩:=round n a w hJ b (.inLoop c :: k) cs
   cases e with
   | normal =>
    obtain ⟨m,hlt,hJ₁⟩:=hq
    obtain ⟨e₂,a₂,w₂,hq₂,harr₂⟩:=ih m hlt a₁ w₁ hJ₁
    exact ⟨e₂,a₂,w₂,hq₂,.of_steps (Steps.trans bh (.one step_inLoop)) harr₂⟩
   | exit id=>exact ⟨_,a₁,w₁,hq,.pass (x:=.inLoop c) rfl (fun _ _=>.inl (by simp)) bh⟩
   | goto l=>exact ⟨_,a₁,w₁,hq,.pass (x:=.inLoop c) rfl (fun _ _=>.inl (by simp)) bh⟩
   | ret=>exact ⟨_,a₁,w₁,hq,.pass (x:=.inLoop c) rfl (fun _ _=>.inl (by simp)) bh⟩
   | panic ch=>exact ⟨_,a₁,w₁,hq,.pass (x:=.inLoop c) rfl (fun _ _=>.inl (by simp)) bh⟩
   | outgrown=>exact ⟨_,a₁,w₁,hq,.pass (x:=.inLoop c) rfl (fun _ _=>.inl (by simp)) bh⟩
 obtain ⟨e,a',w',hq,bh⟩:=key n a w h0
 exact ⟨e,a',w',hq,.of_steps (.one step_loop) bh⟩
def exOf:Ex->Exit
 | .normal=>.normal
 | .exit id=>.exit id
 | .ret=>.ret
def Afj [Globs] (call:Ak):Prop:=∀ f args S tk n r S' tk' n',call f args S tk n=some (r,S',tk',n')->S'=S/\tk'=tk/\(shF f=true\/(n'=n/\∀ S2 tk2 n2,call f args S2 tk2 n2=some (r,S2,tk2,n2)))
def Lh [Globs] (call:Ak):Prop:=∀ f args S tk n r S' tk' n',call f args S tk n=some (r,S',tk',n')->(xF f && Globs.dr)=true\/(S'=S/\tk'=tk/\(shF f=true\/(n'=n/\∀ S2 tk2 n2,call f args S2 tk2 n2=some (r,S2,tk2,n2))))
def extC (P:Program) [Ext P]:Ak:=fun f args S tk n=>if Ext.on P f=true then Ext.call P f args S tk n else none
class Qn [Globs] (P:Program) [Ext P]:Prop where
 ok:Ev P (extC P)
 indep:∀ M,@Afj (gM M) (@Bq (gM M) P _ (extC P))
theorem Ps [Globs] [Ext P] {M:Md} {call:Ak} (h:Ev P call):Ev P (@Bq (gM M) P _ call):=by
 intro f args S tk n r S' tk' n' hh
 unfold Bq at hh
 split at hh
 ·exact h f args S tk n r S' tk' n' hh
 ·simp at hh
def Adw (P:Program) (real ops:Array Oper):Option (Nat × Oper)->Prop
 | none=>real=ops
 | some (p,al)=>real.size=ops.size/\(∀ i:Nat,i≠p->real[i]?=ops[i]?)/\(∀ (i:Nat) (o:Oper),ops[i]?=some o->isMk o=false)/\real[p]?=some al/\al.guard=none/\al.dst.isSome=true/\(∃ t cs,al.op=.alloc t/\Ae P t=some cs)/\ops[p]?=some { al with op:=.move (.global 0) }
def Ms (P:Program) (lt:Option (Nat × Oper)) (st:St):St :=
 match lt with
 | none=>st
 | some (_,al)=>match al.op with
  | .alloc t=>{ st with T:=putT st.T al.dst (.ref st.S.length st.n 0),S:=st.S++[⟨st.n,(Ae P t).getD []⟩],n:=st.n+1 }
  | _=>st
def U0 [Globs] (P:Program) (ok:St->List Oper->Bool):Prop:=P.follows .mixedOrders=true /\
 ∀ (call:Ak),Ev P call->∀ (real ops:Array Oper) (lt:Option (Nat × Oper)),Adw P real ops lt->@Lh (gM (mdOf ops.toList)) call->∀ (C:Cx) (st st':St) (a:Act) (Q:Exit->Act->World->Prop),ok st ops.toList=true->Rel C st a->@evOs (gM (mdOf ops.toList)) P call ops.toList ops.toList st=some st' ->
  (∀ a' C',Le C C'->Rel C' (Ms P lt st') a'->Q .normal a' C'.w)->wpAny P .any real Q real.size (Array.replicate real.size false) a { C.w with drawn:=C.w.drawn+1 }
theorem Ji:∀ {L:List Oper} {p:Nat} {al:Oper} {x:Oper},H7 L=some (p,al)->Ach al=true/\L[p]?=some al/\(openL (L++[x])).length=L.length/\(openL (L++[x]))[p]?=some { al with op:=.move (.global 0) }/\(∀ i,i≠p->(openL (L++[x]))[i]?=L[i]?)/\∀ o ∈ openL (L++[x]),isMk o=false
 | [],_,_,_,h=>by simp [H7] at h
 | o :: l,p,al,x,h=>by
  have hop:∀ (l:List Oper),openL (o :: l++[x])=Nb o :: openL (l++[x]):=fun l=>by cases l <;> rfl
  have keep:∀ (l:List Oper),l.any isMk=false->openL (l++[x])=l:=by
   intro l
   induction l with
   | nil=>intro _; rfl
   | cons y l ih =>
    intro hl
    simp only [List.any_cons,Bool.or_eq_false_iff] at hl
    have e:openL (y :: l++[x])=Nb y :: openL (l++[x]):=by cases l <;> rfl
    rw [e,ih hl.2]
    unfold Nb
    rw [if_neg (by rw [hl.1]; simp)]
  unfold H7 at h
  rw [hop]
  split at h
  ·rename_i f5
   split at h
   ·rename_i hc
    simp only [Bool.and_eq_true,Bool.not_eq_true'] at hc
    simp only [Option.some.injEq,Prod.mk.injEq] at h
    obtain ⟨rfl,rfl⟩:=h
    rw [keep l hc.2]
    refine ⟨hc.1,rfl,rfl,?_,fun i hi=>?_,fun y hy=>?_⟩
    ·unfold Nb; rw [if_pos f5]; rfl
    ·cases i with
     | zero=>exact absurd rfl hi
     | succ i=>rfl
    ·rcases List.mem_cons.1 hy with rfl|hy
     ·unfold Nb; rw [if_pos f5]; rfl
     ·simpa using List.any_eq_false.1 hc.2 y hy
   ·cases h
  ·rename_i f5
   simp only [Option.map_eq_some_iff,Prod.mk.injEq,Prod.exists] at h
   obtain ⟨p',al',h,rfl,rfl⟩:=h
   obtain ⟨a1,a2,a3,a4,a5,a6⟩:=Ji (x:=x) h
   have e:Nb o=o:=by unfold Nb; rw [if_neg f5]
   rw [e]
   refine ⟨a1,a2,by simp [a3],a4,fun i hi=>?_,fun y hy=>?_⟩
   ·cases i with
    | zero=>rfl
    | succ i=>exact a5 i (by omega)
   ·rcases List.mem_cons.1 hy with rfl|hy
    ·simpa using f5
    ·exact a6 y hy
theorem N0 [Globs] {L:List Oper} {p:Nat} {al o:Oper} (h:Gl L=some (p,al,o)):∃ a,L=a++[o]/\Afb a o=true/\isSt o=true/\H7 a=some (p,al):=by
 unfold Gl at h
 split at h
 ·rename_i o' ho
  split at h
  ·rename_i ht
   simp only [Bool.and_eq_true] at ht
   simp only [Option.map_eq_some_iff,Prod.mk.injEq,Prod.exists] at h
   obtain ⟨p',al',h,rfl,rfl,rfl⟩:=h
   exact ⟨_,by rw [List.getLast?_eq_some_iff] at ho; obtain ⟨l,rfl⟩:=ho; simp,ht.1.2,ht.1.1,h⟩
  ·cases h
 ·cases h
theorem Aew {P:Program} {a:List Oper} {p:Nat} {al o:Oper} {t:TypeId} {cs:List AV} (h:H7 a=some (p,al)) (ht:al.op=.alloc t) (hz:Ae P t=some cs):Adw P a.toArray (openL (a++[o])).toArray (some (p,al)):=by
 obtain ⟨a1,a2,a3,a4,a5,a6⟩:=Ji (x:=o) h
 unfold Ach at a1
 simp only [Bool.and_eq_true,Option.isNone_iff_eq_none] at a1
 refine ⟨by simp [a3],fun i hi=>?_,fun i o' ho=>?_,by simpa using a2,a1.1.2,a1.2,⟨t,cs,ht,hz⟩,by simpa using a4⟩
 ·have:=a5 i hi
  simp only [List.getElem?_toArray]
  exact this.symm
 ·exact a6 o' (List.mem_of_getElem? (by simpa using ho))
theorem Jn {L a:List Oper} {o:Oper} (h:Db L=some (a,o)):L=a++[o]/\Aaw a o=true:=by
 unfold Db at h
 split at h
 ·rename_i o' ho
  split at h
  ·rename_i ht
   simp only [Option.some.injEq,Prod.mk.injEq] at h
   obtain ⟨rfl,rfl⟩:=h
   exact ⟨by rw [List.getLast?_eq_some_iff] at ho; obtain ⟨l,rfl⟩:=ho; simp,ht⟩
  ·cases h
 ·cases h
theorem Vf {kp:Bool} {m:Nat} {S:List Ent} : cutS kp m S=S.take (bif kp then S.length else m):=by
 cases kp <;> simp [cutS]
theorem Ub [Globs] {kp:Bool} {f:St->Option (Ex × St)} {c:Code} (hf:∀ (C:Cx) (st:St) (ex:Ex) (st':St) (a:Act) (Q:Exit->Act->World->Prop),f st=some (ex,st')->Rel C st a->(∀ a' C',Le C C'->Rel C' st' a'->Q (exOf ex) a' C'.w)->c.wp P Q a C.w)
  {k:Nat} {C:Cx} {st st':St} {ex:Ex} {a:Act} {Q:Exit->Act->World->Prop} (h:He kp f k st=some (ex,st')) (hr:Rel C st a) (hQ:∀ a' C',Le C C'->Rel C' st' a'->Q (exOf ex) a' C'.w):(Code.loop c).wp P Q a C.w:=by
 refine Uv (fun n a w=>∃ C1 st1,C1.w=w/\Le C C1/\Rel C1 st1 a/\He kp f n st1=some (ex,st')) ?_ (n:=k) ⟨C,st,rfl,Le.refl C,hr,h⟩
 rintro n a1 w1 ⟨C1,st1,rfl,hle,ap,h1⟩
 cases n with
 | zero=>simp [He] at h1
 | succ n =>
  simp only [He] at h1
  split at h1
  ·rename_i st2 h2
   refine hf C1 st1 .normal st2 a1 _ h2 ap fun a2 C2 f6 c8=>?_
   rw [Vf] at h1
   generalize (bif kp then st2.S.length else st1.S.length)=mm at h1
   refine ⟨n,Nat.lt_succ_self n,{ C2 with S:=C2.S.take mm },{ st2 with S:=st2.S.take mm },rfl,(hle.trans f6).trans (Le.take _),⟨by rw [c8.S],c8.tk,c8.n,VRs.mono (Le.take _) _ _ c8.tmps,c8.defers,c8.sr.take _⟩,h1⟩
  ·rename_i hne
   refine hf C1 st1 ex st' a1 _ h1 ap fun a2 C2 f6 c8=>?_
   have:=hQ a2 C2 (hle.trans f6) c8
   cases ex with
   | normal=>exact absurd h1 (hne st')
   | exit id=>exact this
   | ret=>exact this
theorem B4 [Globs] [Ext P] {call:Ak} (hc:Ev P call) (hi:∀ M,@Lh (gM M) (@Bq (gM M) P _ call)) {ok:St->List Oper->Bool} (hd:U0 P ok) {n:Nat} : ∀ (c:Code) (C:Cx) (st:St) (ex:Ex) (st':St) (a:Act) (Q:Exit->Act->World->Prop),evC P call ok n c st=some (ex,st')->Rel C st a ->
  (∀ a' C',Le C C'->Rel C' st' a'->Q (exOf ex) a' C'.w)->c.wp P Q a C.w
 | .skip,C,st,ex,st',a,Q,h,hr,hQ=>by
  simp only [evC,Option.some.injEq,Prod.mk.injEq] at h
  obtain ⟨rfl,rfl⟩:=h
  exact wp_skip (hQ a C (Le.refl C) hr)
 | .region id ops draw,C,st,ex,st',a,Q,h,hr,hQ=>by
  simp only [evC] at h
  cases draw with
  | false =>
   rw [if_neg (by simp)] at h
   simp only [Option.map_eq_some_iff,Prod.mk.injEq] at h
   obtain ⟨st1,h,rfl,rfl⟩:=h
   refine wp_region ?_
   have:=Kj (Q:=Q) hc hr h hQ
   have e:=wpOps_eq_wpList (P:=P) (ops:=ops) (Q:=Q) ops.toList 0 (fun j=>by simp)
   rw [List.range_eq_range']
   simp only [Array.length_toList] at e
   rw [e]; exact this
  | true =>
   rw [if_pos rfl] at h
   split at h
   ·rename_i ini o f7
    obtain ⟨hL,ht⟩:=Jn f7
    split at h
    ·rename_i ag
     split at h
     ·rename_i st1 h1
      simp only [Option.map_eq_some_iff,Prod.mk.injEq] at h
      obtain ⟨st2,h2,rfl,rfl⟩:=h
      unfold Aaw at ht
      simp only [Bool.and_eq_true,List.all_eq_true,List.mem_range,decide_eq_true_eq,Option.isNone_iff_eq_none] at ht
      obtain ⟨⟨⟨⟨-,hg⟩,gv⟩,hla⟩,hde⟩:=ht
      have f8:ops=ini.toArray.push o:=by
       apply Array.ext'
       rw [hL]; simp
      subst f8
      have du:ini.toArray.push o=(ini++[o]).toArray:=by simp
      refine wp_region_any hd.1 ?_
      have hw:=hd.2 _ (Ps hc) ini.toArray ini.toArray none rfl (hi _) C st st1 a (Aax P o Q) (by simpa using ag) hr (by simpa using h1) fun a' C' hle bn=>by
       show o.wp P a' C'.w (fun a' w'=>Q .normal a' w') Q
       simp only [evOs,Ea,hg] at h2
       split at h2
       ·rename_i v s3 ho
        split at h2
        case isFalse=>simp at h2
        have hT:s3.T=st1.T:=(D2 (next:=fun _ _=>True) (Q:=Q) hc bn ho (fun _ _ _ _ _ _ _ _=>trivial)).2
        refine (D2 hc bn ho fun u C2 k1 k2 k3 k4 k5 k6=>?_).1
        simp only [Option.some.injEq] at h2
        subst h2
        exact hQ _ C2 (hle.trans k1) (bn.put k1 k2 k3 k4 k5 k6 hT)
       ·simp at h2
      have hsz:(ini.toArray.push o).size=ini.toArray.size+1:=by simp
      rw [hsz]
      have jj:Array.replicate (ini.toArray.size+1) false=(Array.replicate ini.toArray.size false).push false:=by
       rw [Array.replicate_succ]
      rw [jj]
      refine Vb hg (fun j hj=>?_) (fun e he=>?_) (fun i o' bd=>?_) _ _ _ _ (by simp) (fun j hj=>?_) hw
      ·have:=gv j (by simpa using hj)
       rw [du]; simpa using this
      ·have:=hla e (by rw [du] at he; simpa using he)
       simpa using this
      ·have dl:=(Array.getElem?_eq_some_iff.1 bd).1
       have:=hde i (by simpa using dl)
       rw [bd] at this
       refine ⟨fun e he=>this.1 e he,fun g w mr=>?_⟩
       have h3:=this.2
       simp only [mr] at h3
       simpa using h3
      ·rw [Array.getD_eq_getD_getElem?,Array.getElem?_replicate] at hj
       split at hj <;> simp at hj
     ·simp at h
    ·simp at h
   ·split at h
    ·rename_i p al o hlt
     obtain ⟨ini,hL,ht,am,hix⟩:=N0 hlt
     rw [hL] at h
     split at h
     ·rename_i ag
      split at h
      ·rename_i st1 h1
       simp only [Option.map_eq_some_iff,Prod.mk.injEq] at h
       obtain ⟨st2,h2,rfl,rfl⟩:=h
       unfold Afb at ht
       simp only [Bool.and_eq_true,List.all_eq_true,List.mem_range,decide_eq_true_eq,Option.isNone_iff_eq_none] at ht
       obtain ⟨⟨⟨hg,gv⟩,hla⟩,hde⟩:=ht
       have jk:=(Ji (x:=o) hix).1
       unfold Ach at jk
       simp only [Bool.and_eq_true,Option.isNone_iff_eq_none] at jk
       obtain ⟨t,mu⟩:∃ t,al.op=.alloc t:=by
        have:=jk.1.1
        split at this
        ·rename_i t h; exact ⟨t,h⟩
        ·cases this
       have mw:=jk.1.2
       simp only [evOs,Ea,mw] at h2
       split at h2
       case h_2=>simp at h2
       rename_i v s3 i6
       split at h2
       case isFalse=>simp at h2
       have kn:=i6
       simp only [evO,mu,Option.map_eq_some_iff,Prod.mk.injEq] at kn
       obtain ⟨cs,hz,rfl,rfl⟩:=kn
       have my:({ T:=putT st1.T al.dst (.ref st1.S.length st1.n 0),S:=st1.S++[⟨st1.n,cs⟩],tk:=st1.tk,n:=st1.n+1 } : St)=Ms P (some (p,al)) st1:=by
        simp only [Ms,mu,hz,Option.getD_some]
       simp only at h2
       rw [my] at h2
       have f8:ops=ini.toArray.push o:=by
        apply Array.ext'
        rw [hL]; simp
       subst f8
       have du:ini.toArray.push o=(ini++[o]).toArray:=by simp
       refine wp_region_any hd.1 ?_
       have hw:=hd.2 _ (Ps hc) ini.toArray (openL (ini++[o])).toArray (some (p,al)) (Aew hix mu hz) (hi _) C st st1 a (Aax P o Q) (by simpa using ag) hr (by simpa using h1) fun a' C' hle bn=>by
        show o.wp P a' C'.w (fun a' w'=>Q .normal a' w') Q
        simp only [hg] at h2
        split at h2
        ·rename_i v s3 ho
         split at h2
         case isFalse=>simp at h2
         have hT:s3.T=(Ms P (some (p,al)) st1).T:=(D2 (next:=fun _ _=>True) (Q:=Q) hc bn ho (fun _ _ _ _ _ _ _ _=>trivial)).2
         refine (D2 hc bn ho fun u C2 k1 k2 k3 k4 k5 k6=>?_).1
         simp only [Option.some.injEq] at h2
         subst h2
         exact hQ _ C2 (hle.trans k1) (bn.put k1 k2 k3 k4 k5 k6 hT)
        ·simp at h2
       have hsz:(ini.toArray.push o).size=ini.toArray.size+1:=by simp
       rw [hsz]
       have jj:Array.replicate (ini.toArray.size+1) false=(Array.replicate ini.toArray.size false).push false:=by
        rw [Array.replicate_succ]
       rw [jj]
       refine Vb hg (fun j hj=>?_) (fun e he=>?_) (fun i o' bd=>?_) _ _ _ _ (by simp) (fun j hj=>?_) hw
       ·have:=gv j (by simpa using hj)
        rw [du]; simpa using this
       ·have:=hla e (by rw [du] at he; simpa using he)
        simpa using this
       ·have dl:=(Array.getElem?_eq_some_iff.1 bd).1
        have:=hde i (by simpa using dl)
        rw [bd] at this
        refine ⟨fun e he=>this.1 e he,fun g w mr=>?_⟩
        have h3:=this.2
        simp only [mr] at h3
        simpa using h3
       ·rw [Array.getD_eq_getD_getElem?,Array.getElem?_replicate] at hj
        split at hj <;> simp at hj
      ·simp at h
     ·simp at h
    ·split at h
     ·rename_i ag
      simp only [Option.map_eq_some_iff,Prod.mk.injEq] at h
      obtain ⟨st1,h,rfl,rfl⟩:=h
      exact wp_region_any hd.1 (hd.2 _ (Ps hc) ops ops none rfl (hi _) C st st1 a Q ag hr h hQ)
     ·simp at h
 | .seq x y,C,st,ex,st',a,Q,h,hr,hQ=>by
  simp only [evC] at h
  split at h
  ·rename_i st1 h1
   refine wp_seq (B4 hc hi hd x C st .normal st1 a _ h1 hr fun a1 C1 c9 ap=>?_)
   exact B4 hc hi hd y C1 st1 ex st' a1 Q h ap fun a2 C2 f6 c8=>hQ a2 C2 (c9.trans f6) c8
  ·rename_i hne
   refine wp_seq (B4 hc hi hd x C st ex st' a _ h hr fun a1 C1 c9 ap=>?_)
   have:=hQ a1 C1 c9 ap
   cases ex with
   | normal=>exact absurd h (hne st')
   | exit id=>exact this
   | ret=>exact this
 | .cond x y z,C,st,ex,st',a,Q,h,hr,hQ=>by
  simp only [evC] at h
  split at h
  ·rename_i t ht
   have hv:=U6 hr.tmps x
   rw [ht] at hv; simp only [VR] at hv
   cases t with
   | true =>
    rw [if_pos rfl] at h
    exact wp_cond_true hv (B4 hc hi hd y C st ex st' a Q h hr hQ)
   | false =>
    rw [if_neg (by simp)] at h
    exact wp_cond_false hv (B4 hc hi hd z C st ex st' a Q h hr hQ)
  ·simp at h
 | .block id x,C,st,ex,st',a,Q,h,hr,hQ=>by
  simp only [evC] at h
  split at h
  ·rename_i id' st1 h1
   refine wp_block (B4 hc hi hd x C st (.exit id') st1 a _ h1 hr fun a1 C1 c9 ap=>?_)
   simp only [exOf,Exit.inBlock]
   split at h
   ·rename_i hid
    simp only [Option.some.injEq,Prod.mk.injEq] at h
    obtain ⟨rfl,rfl⟩:=h
    rw [if_pos hid]; exact hQ a1 C1 c9 ap
   ·rename_i hid
    simp only [Option.some.injEq,Prod.mk.injEq] at h
    obtain ⟨rfl,rfl⟩:=h
    rw [if_neg hid]; exact hQ a1 C1 c9 ap
  ·rename_i hne
   refine wp_block (B4 hc hi hd x C st ex st' a _ h hr fun a1 C1 c9 ap=>?_)
   have:=hQ a1 C1 c9 ap
   cases ex with
   | normal=>exact this
   | exit id=>exact absurd h (hne id st')
   | ret=>exact this
 | .loop x,C,st,ex,st',a,Q,h,hr,hQ=>by
  simp only [evC] at h
  exact Ub (fun C st ex st' a Q=>B4 hc hi hd x C st ex st' a Q) h hr hQ
 | .exit id,C,st,ex,st',a,Q,h,hr,hQ=>by
  simp only [evC,Option.some.injEq,Prod.mk.injEq] at h
  obtain ⟨rfl,rfl⟩:=h
  exact wp_exit (hQ a C (Le.refl C) hr)
 | .ret,C,st,ex,st',a,Q,h,hr,hQ=>by
  simp only [evC,Option.some.injEq,Prod.mk.injEq] at h
  obtain ⟨rfl,rfl⟩:=h
  exact wp_ret (hQ a C (Le.refl C) hr)
 | .rangeFunc _ _ _ _,_,_,_,_,_,_,h,_,_=>by simp [evC] at h
 | .scope x,C,st,ex,st',a,Q,h,hr,hQ=>by
  simp only [evC] at h
  refine wp_scope_straight (B4 hc hi hd x C st ex st' a _ h hr fun a1 C1 c9 ap=>?_)
  have:=hQ a1 C1 c9 ap
  cases ex <;> exact this
 | .label l,C,st,ex,st',a,Q,h,hr,hQ=>by
  simp only [evC,Option.some.injEq,Prod.mk.injEq] at h
  obtain ⟨rfl,rfl⟩:=h
  exact wp_label (hQ a C (Le.refl C) hr)
 | .goto _,_,_,_,_,_,_,h,_,_=>by simp [evC] at h
 | .refuse _,_,_,_,_,_,_,h,_,_=>by simp [evC] at h
end
section
variable {P:Program}
def V8 (P:Program) (tmps:Array Value):ResultVar->Sem Value
 | .tmp t=>pure (tmps.getD t undef)
 | .cell a t=>do loadVar t (<- asAddr (tmps.getD a undef))
theorem Adc {C:Cx} {T:List AV} {tmps:Array Value} (h:VRs C T tmps.toList) (t:Tmp):VR C (getT T t) (tmps.getD t undef) :=
 U6 (a:=⟨tmps,[]⟩) h (.tmp t)
theorem Uq [Globs] {C:Cx} {st:St} {a:Act} (hr:Rel C st a) {rv:ResultVar} {v:AV} (h:resA1 P st rv=some v):Has P C (V8 P a.tmps rv) v:=by
 cases rv with
 | tmp t =>
  simp only [resA1,Option.some.injEq] at h; subst h
  exact ⟨_,rfl,Adc hr.tmps t⟩
 | cell p t =>
  simp only [resA1] at h
  rw [<- hr.S] at h
  obtain ⟨u,h1,h2⟩:=Rx hr.sr (Adc hr.tmps p) h
  refine ⟨u,?_,h2⟩
  simp only [V8]
  generalize a.tmps.getD p undef=x at h1
  cases x with
  | pointer b =>
   cases b with
   | none=>simp [Instr.loadAt,Instr.sureAddr] at h1
   | some b=>simpa [Instr.loadAt,Instr.sureAddr,asAddr] using h1
  | _=>simp [Instr.loadAt,Instr.sureAddr] at h1
theorem Vx [Globs] {C:Cx} {st:St} {a:Act} (hr:Rel C st a):∀ {rs:List ResultVar} {vs:List AV},mapO (resA1 P st) rs=some vs->∃ us,(rs.mapM (V8 P a.tmps)).run P C.w=.ok us C.w/\VRs C vs us
 | [],vs,h=>by
  simp only [mapO,Option.some.injEq] at h; subst h
  exact ⟨[],by simp,by simp only [VRs]⟩
 | r :: rs,vs,h=>by
  simp only [mapO] at h
  split at h
  ·rename_i b l h1 h2
   simp only [Option.some.injEq] at h; subst h
   obtain ⟨u,g1,g2⟩:=Uq hr h1
   obtain ⟨us,g3,g4⟩:=Vx hr h2
   exact ⟨u :: us,by rw [List.mapM_cons]; simp only [Sem.run_bind,g1,Result.andThen_ok,g3,Sem.run_pure],by simp only [VRs]; exact ⟨g2,g4⟩⟩
  ·simp at h
theorem Xo [Globs] {C:Cx} {st:St} {a:Act} (hr:Rel C st a) {fn:Func} {v:AV} (h:resA P fn.results.toList st=some v):Has P C (results fn a.tmps) v:=by
 simp only [resA,Option.map_eq_some_iff] at h
 obtain ⟨vs,h,rfl⟩:=h
 obtain ⟨us,h1,h2⟩:=Vx hr h
 have hrun:(results fn a.tmps).run P C.w=.ok (if h:us.toArray.size=1 then us.toArray[0] else .tuple us.toArray) C.w:=by
  have e:results fn a.tmps=(do
   let vs <- fn.results.mapM (V8 P a.tmps)
   pure (if h:vs.size=1 then vs[0] else .tuple vs)):=by
   unfold results
   congr 1
  rw [e,Sem.run_bind,Array.mapM_eq_mapM_toList,Sem.run_map,h1]
  rfl
 have hlen:=Ah h2
 match us,vs,h2,hlen,hrun with
 | [u],[v],h2,_,hrun =>
  simp only [VRs] at h2
  exact ⟨u,by rw [hrun]; simp,h2.1⟩
 | [],[],h2,_,hrun=>exact ⟨.tuple #[],by rw [hrun]; simp,by simp only [oneOf,VR]; exact ⟨_,rfl,h2⟩⟩
 | u :: u' :: us,v :: v' :: vs,h2,_,hrun=>exact ⟨.tuple (u :: u' :: us).toArray,by rw [hrun]; simp,by simp only [oneOf,VR]; exact ⟨_,rfl,h2⟩⟩
theorem VR_w3 {C:Cx} {c x} (h:VR C c x):VR C (w3 c) x:=by
 cases c with
 | tup cs =>
  simp only [w3,VR] at h ⊢
  obtain ⟨vs,e,hr⟩:=h
  exact ⟨vs,e,U9 hr⟩
 | _=>exact Aeb h
theorem N8 {C C':Cx} {c x} (am:Stays C.w C'.w C.Avoid C'.Avoid) (hp:pure1 c=true) (h:VR C c x):VR C' c x:=U5 (PR.stays am _ _ (U1 hp h))
theorem Mp {C C':Cx} (am:Stays C.w C'.w C.Avoid C'.Avoid):∀ {cs vs},cs.all pure1=true->VRs C cs vs->VRs C' cs vs
 | [],[],_,_=>by simp only [VRs]
 | c :: cs,v :: vs,hp,h=>by
  simp only [List.all_cons,Bool.and_eq_true] at hp
  simp only [VRs] at h ⊢
  exact ⟨N8 am hp.1 h.1,Mp am hp.2 h.2⟩
 | [],_ :: _,_,h=>by simp only [VRs] at h
 | _ :: _,[],_,h=>by simp only [VRs] at h
theorem N9 {C C':Cx} {c x} (am:Stays C.w C'.w C.Avoid C'.Avoid) (hp:pure2 c=true) (h:VR C c x):VR C' c x:=by
 cases c with
 | agg cs =>
  simp only [VR] at h ⊢
  obtain ⟨vs,e,hr⟩:=h
  exact ⟨vs,e,Mp am hp hr⟩
 | _=>exact N8 am hp h
theorem Jl {C C':Cx} (am:Stays C.w C'.w C.Avoid C'.Avoid):∀ {cs vs},cs.all pure2=true->VRs C cs vs->VRs C' cs vs
 | [],[],_,_=>by simp only [VRs]
 | c :: cs,v :: vs,hp,h=>by
  simp only [List.all_cons,Bool.and_eq_true] at hp
  simp only [VRs] at h ⊢
  exact ⟨N9 am hp.1 h.1,Jl am hp.2 h.2⟩
 | [],_ :: _,_,h=>by simp only [VRs] at h
 | _ :: _,[],_,h=>by simp only [VRs] at h
theorem Xm {C C':Cx} {c x} (am:Stays C.w C'.w C.Avoid C'.Avoid) (hp:pure3 c=true) (h:VR C c x):VR C' c x:=by
 cases c with
 | tup cs =>
  simp only [VR] at h ⊢
  obtain ⟨vs,e,hr⟩:=h
  exact ⟨vs,e,Jl am hp hr⟩
 | _=>exact N9 am hp h
theorem U8 {C:Cx} : ∀ n:Nat,VRs C (List.replicate n AV.bot) (List.replicate n undef)
 | 0=>by simp [VRs]
 | n+1=>by simp only [List.replicate_succ,VRs,VR]; exact ⟨trivial,U8 n⟩
theorem Kh [Globs] [Ext P] {call:Ak} (hc:Ev P call) (hi:∀ M,@Lh (gM M) (@Bq (gM M) P _ call)) {ok:St->List Oper->Bool} (hd:U0 P ok) {k:Nat} {f:FuncId} {fn:Func} {c:Code} (hf:P.funcs[f]?=some fn) (hb:fn.body=some c) {C:Cx} (hs:SR C) {args:List AV} {vs:Array Value} (hv:VRs C args vs.toList) {r:AV} {st:St}
  (h:outA P fn (evC P call ok k c ⟨args++List.replicate (fn.ntmps - args.length) .bot,C.S,C.tk,C.n⟩)=some (r,st)) :
  Calls P f vs C.w fun e w'=>∃ v C',e=.returned v/\C'.w=w'/\Le C C'/\SR C'/\C'.S=st.S/\C'.tk=st.tk/\C'.n=st.n/\VR C' r v:=by
 have hlen:vs.size=args.length:=by have:=Ah hv; simpa using this.symm
 refine calls_of_wp hf hb ?_
 have hrel:Rel C ⟨args++List.replicate (fn.ntmps - args.length) .bot,C.S,C.tk,C.n⟩ { tmps:=vs++Array.replicate (fn.ntmps - vs.size) undef,defers:=[] } :=
  ⟨rfl,rfl,rfl,by rw [hlen]; simpa using Dw hv (U8 _),rfl,hs⟩
 have fin:∀ {ex:Ex} {st':St},(ex=.normal\/ex=.ret)->(resA P fn.results.toList st').map (fun r=>(r,st'))=some (r,st)->∀ a' C',Le C C'->Rel C' st' a' ->
   bodyPost P fn (fun e w'=>∃ v C',e=.returned v/\C'.w=w'/\Le C C'/\SR C'/\C'.S=st.S/\C'.tk=st.tk/\C'.n=st.n/\VR C' r v) (exOf ex) a' C'.w:=by
  intro ex st' mz he a' C' hle hr
  simp only [Option.map_eq_some_iff,Prod.mk.injEq] at he
  obtain ⟨r',he,rfl,rfl⟩:=he
  obtain ⟨v,h1,h2⟩:=Xo hr he
  rcases mz with rfl|rfl
  ·exact ⟨hr.defers,v,h1,v,C',rfl,rfl,hle,hr.sr,hr.S,hr.tk,hr.n,h2⟩
  ·exact ⟨hr.defers,v,h1,v,C',rfl,rfl,hle,hr.sr,hr.S,hr.tk,hr.n,h2⟩
 generalize he:evC P call ok k c ⟨args++List.replicate (fn.ntmps - args.length) .bot,C.S,C.tk,C.n⟩=out at h
 match out with
 | none=>simp [outA] at h
 | some (.exit _,_)=>simp [outA] at h
 | some (.normal,st')=>exact B4 hc hi hd c C _ .normal st' _ _ he hrel (fin (.inl rfl) h)
 | some (.ret,st')=>exact B4 hc hi hd c C _ .ret st' _ _ he hrel (fin (.inr rfl) h)
def Cx.alone (C:Cx):Cx:={ w:=C.w,av:=C.Avoid,φ:=C.φ,ψ:=C.ψ,S:=[],tk:=[],n:=0 }
theorem Lo {C:Cx} {b o:Nat} : ¬ C.alone.Mut b o:=by
 rintro (⟨i,hi,_⟩|⟨i,hi,_⟩) <;> simp [Cx.alone] at hi
theorem SR.alone [Globs] {C:Cx} (hs:SR C):SR C.alone:=by
 refine ⟨fun i e h=>by simp [Cx.alone,nth] at h,fun i j hi=>by simp [Cx.alone] at hi,fun i j o hi=>by simp [Cx.alone] at hi,fun i j o hi=>by simp [Cx.alone] at hi,fun b o h=>absurd h Lo,fun b o h=>?_,fun i o hi=>by simp [Cx.alone] at hi,fun g o h=>⟨(hs.glob g o h).1,fun i=>.inl ((hs.glob g o h).2 i)⟩⟩
 rcases Nat.lt_or_ge b C.w.heap.size with h'|h'
 ·exact h'
 ·exact absurd h (hs.fresh h')
theorem Agd [Globs] {C:Cx} (hs:SR C) {m id o:Nat} (hid:id<C.S.length) (hm:m<=id):¬ ({ C with S:=C.S.take m } : Cx).Avoid (C.φ id) o:=by
 rintro (h|⟨i,hi,h⟩|⟨i,hi,h1,h2,h3⟩)
 ·exact hs.own _ o (.inl ⟨id,hid,rfl⟩) h
 ·simp only [List.length_take] at hi
  have:=hs.ne i id (by omega) hid h
  omega
 ·exact hs.apart id i o hid hi h1.symm h2 h3
theorem Rm [Globs] {C:Cx} (hs:SR C) (m:Nat) {c x} (h:VR C c x):VR { C with S:=C.S.take m } (fz1 m C.S c) x:=by
 have keep:VR { C with S:=C.S.take m } c x:=VR.mono (Le.take m) _ _ h
 cases c with
 | sref id ep off len sz =>
  simp only [fz1]
  split
  ·rename_i hm
   unfold fzB
   split
   ·rename_i cs cw
    obtain ⟨e,h1,h2,rfl⟩:=Bw cw
    unfold K3
    split
    ·rename_i es gt
     split
     ·rename_i hp
      simp only [VR] at h
      obtain ⟨b,a,cap,rfl,hcap,ha,hn,hb⟩:=h
      obtain rfl:=(hb e h1 h2).1
      obtain ⟨hlt,arr,t,h3,h4⟩:=hs.ent id e h1
      obtain ⟨pd,h4⟩:=entP h4
      obtain ⟨g1,g2,g3,g4⟩:=Ht gt
      have g4':len*sz<=((e.cells++pd).drop off).length:=by simp at g4 ⊢; omega
      have g3':es.flatten=((e.cells++pd).drop off).take (len*sz):=by rw [g3,List.drop_append,List.take_append_of_le_length g4]
      simp only [VR]
      refine ⟨a,len,cap,rfl,by simp [g1],hcap,trivial,?_⟩
      by_cases h0:len=0
      ·left
       subst h0
       rw [List.eq_nil_of_length_eq_zero g1]; rfl
      ·right
       obtain rfl:=ha.resolve_left h0
       have i8:=Ah h4
       simp only [Array.length_toList] at i8
       refine ⟨C.φ id,off,sz,rfl,Dk (l:=(arr.toList.drop off).take (len*sz)) (fun e he=>?_) ?_ (G0 fun j v hj=>⟨?_,Agd hs (A7 h1) hm⟩)⟩
       ·rw [List.mem_map] at he
        obtain ⟨e',et,rfl⟩:=he
        rw [List.length_map]; exact g2 e' et
       ·have dp:(es.map (·.map w1)).flatten=(((e.cells++pd).drop off).take (len*sz)).map w1:=by rw [<- g3',List.map_flatten]
        have fo:VRs C (((e.cells++pd).drop off).take (len*sz)) ((arr.toList.drop off).take (len*sz)):=(Gg (Hm off h4) (Hx g4')).1
        rw [dp]
        refine Ew (C:={ C with S:=C.S.take m }) ?_ (VRs.mono (Le.take m) _ _ (Nm fo))
        rw [<- g3',List.all_eq_true]
        intro c hc
        rw [List.mem_map] at hc
        obtain ⟨c',az,rfl⟩:=hc
        rw [List.mem_flatten] at az
        obtain ⟨r,hr,az⟩:=az
        exact List.all_eq_true.1 (List.all_eq_true.1 hp r hr) c' az
       ·have bg:j<len*sz:=by
         have:=(List.getElem?_eq_some_iff.1 hj).1
         simp at this; omega
        rw [List.getElem?_take_of_lt bg,List.getElem?_drop] at hj
        simp [World.cell?,h3]; simpa using hj
     ·simp only [VR]
    ·simp only [VR]
   ·simp only [VR]
  ·exact keep
 | _=>exact keep
theorem Nv [Globs] {C:Cx} (hs:SR C) (m:Nat):∀ {cs vs},VRs C cs vs->VRs { C with S:=C.S.take m } (cs.map (fz1 m C.S)) vs
 | [],[],_=>by simp only [List.map_nil,VRs]
 | c :: cs,v :: vs,h=>by simp only [VRs,List.map_cons] at h ⊢; exact ⟨Rm hs m h.1,Nv hs m h.2⟩
 | [],_ :: _,h=>by simp only [VRs] at h
 | _ :: _,[],h=>by simp only [VRs] at h
theorem Rn [Globs] {C:Cx} (hs:SR C) (m:Nat) {c x} (h:VR C c x):VR { C with S:=C.S.take m } (fz2 m C.S c) x:=by
 cases c with
 | agg cs =>
  simp only [fz2,VR] at h ⊢
  obtain ⟨vs,e,hr⟩:=h
  exact ⟨vs,e,Nv hs m hr⟩
 | _=>exact Rm hs m h
theorem Nw [Globs] {C:Cx} (hs:SR C) (m:Nat):∀ {cs vs},VRs C cs vs->VRs { C with S:=C.S.take m } (cs.map (fz2 m C.S)) vs
 | [],[],_=>by simp only [List.map_nil,VRs]
 | c :: cs,v :: vs,h=>by simp only [VRs,List.map_cons] at h ⊢; exact ⟨Rn hs m h.1,Nw hs m h.2⟩
 | [],_ :: _,h=>by simp only [VRs] at h
 | _ :: _,[],h=>by simp only [VRs] at h
theorem Ro [Globs] {C:Cx} (hs:SR C) (m:Nat) {c x} (h:VR C c x):VR { C with S:=C.S.take m } (fz3 m C.S c) x:=by
 cases c with
 | tup cs =>
  simp only [fz3,VR] at h ⊢
  obtain ⟨vs,e,hr⟩:=h
  exact ⟨vs,e,Nw hs m hr⟩
 | _=>exact Rn hs m h
theorem T4 [Globs] [Ext P] {ok:St->List Oper->Bool} {k:Nat} {f:FuncId} {args:List AV} {S:List Ent} {tk:List Nat} {n:Nat} (hf:Ext.on P f=true):evF P ok (k+1) f args S tk n=extC P f args S tk n:=by
 simp only [evF,extC,hf,if_true]
structure M3 (A:Nat->Bool) (m:Nat) (S0:List Ent) (tk0:List Nat) (st:St):Prop where
 S:st.S.take m=S0
 le:m<=st.S.length
 tk:st.tk=tk0
 own:∀ q,A q=true->getT st.T q=.bot\/getT st.T q=.prim undef\/∃ id ep off,getT st.T q=.ref id ep off/\m<=id
theorem Zk:∀ {T:List AV} {d:Nat} {v:AV},d<T.length->getT (put T d v) d=v
 | _ :: _,0,_,_=>rfl
 | _ :: T,d+1,_,h=>Zk (T:=T) (by simpa using h)
 | [],_,_,h=>by simp at h
theorem Vs:∀ {T:List AV} {d q:Nat} {v:AV},d≠q->getT (put T d v) q=getT T q
 | [],_,_,_,_=>rfl
 | _ :: _,0,0,_,h=>absurd rfl h
 | _ :: _,0,_+1,_,_=>rfl
 | _ :: _,_+1,0,_,_=>rfl
 | _ :: T,d+1,q+1,_,h=>Vs (T:=T) (by omega)
theorem Aad:∀ {T:List AV} {d:Nat} {v:AV},T.length<=d->put T d v=T
 | [],_,_,_=>rfl
 | _ :: _,0,_,h=>by simp at h
 | _ :: T,d+1,_,h=>by simp only [put]; rw [Aad (T:=T) (by simpa using h)]
theorem Rp {T:List AV} {d:Option Nat} {v:AV} {q:Nat} : getT (putT T d v) q=getT T q\/(d=some q/\getT (putT T d v) q=v):=by
 cases d with
 | none=>exact .inl rfl
 | some d =>
  simp only [putT]
  by_cases h:d=q
  ·subst h
   rcases Nat.lt_or_ge d T.length with hl|hl
   ·exact .inr ⟨rfl,Zk hl⟩
   ·left; rw [Aad hl]
  ·exact .inl (Vs h)
theorem We {α:Type} : ∀ {l:List α} {i m:Nat} {v:α},m<=i->(put l i v).take m=l.take m
 | [],_,_,_,_=>rfl
 | _ :: _,0,m,_,h=>by
  have:m=0:=by omega
  subst this; rfl
 | _ :: _,_+1,0,_,_=>rfl
 | _ :: l,i+1,m+1,v,h=>by simp only [put,List.take_succ_cons,We (l:=l) (i:=i) (m:=m) (v:=v) (by omega)]
theorem Aeu [Globs] {call:Ak} {o:Oper} {all:List Oper} {nn m:Nat} {S0:List Ent} {tk0:List Nat} {st st':St} {v:AV} (hA:o ∈ all) (hk:L6 all nn o=true) (hI:M3 (fun q=>decide (nn<=q) && Hg all q) m S0 tk0 st) (h:evO P call o st=some (v,st')) :
  M3 (fun q=>decide (nn<=q) && Hg all q) m S0 tk0 { st' with T:=putT st'.T o.dst v }:=by
 have slot:st'.T=st.T->(Gm o=true->∃ id ep off,v=.ref id ep off/\m<=id)->∀ q,(decide (nn<=q) && Hg all q)=true->getT (putT st'.T o.dst v) q=.bot\/getT (putT st'.T o.dst v) q=.prim undef\/∃ id ep off,getT (putT st'.T o.dst v) q=.ref id ep off/\m<=id:=by
  intro hT hv q hq
  rcases Rp (T:=st'.T) (d:=o.dst) (v:=v) (q:=q) with e|⟨e1,e2⟩
  ·rw [e,hT]; exact hI.own q hq
  ·simp only [Bool.and_eq_true] at hq
   have:=List.all_eq_true.1 hq.2 o hA
   rw [e1] at this
   simp only [bne_self_eq_false,Bool.false_or] at this
   obtain ⟨id,ep,off,rfl,hm⟩:=hv this
   exact .inr (.inr ⟨id,ep,off,e2,hm⟩)
 unfold evO at h
 unfold L6 at hk
 split at h
 ·rename_i t x e
  simp only [Option.map_eq_some_iff,Prod.mk.injEq] at h
  obtain ⟨_,_,rfl,rfl⟩:=h
  exact ⟨hI.S,hI.le,hI.tk,slot rfl (fun hm=>by simp [Gm,e] at hm)⟩
 ·rename_i t x y e
  rw [e] at hk
  simp only [Option.map_eq_some_iff,Prod.mk.injEq] at h
  obtain ⟨S',hs,rfl,rfl⟩:=h
  cases x with
  | tmp q =>
   simp only at hk
   unfold stA at hs
   split at hs
   ·rename_i id ep off sz vs hx _ _
    simp only [opv] at hx
    split at hs
    ·split at hs
     ·split at hs
      ·simp only [Option.some.injEq] at hs; subst hs
       have hid:m<=id:=by
        rcases hI.own q hk with h1|h1|⟨id',ep',off',h1,h2⟩
        ·rw [h1] at hx; simp at hx
        ·rw [h1] at hx; simp at hx
        ·rw [h1] at hx; simp only [AV.ref.injEq] at hx; omega
       exact ⟨by show (put st.S id _).take m=S0; rw [We hid]; exact hI.S,by show m<=(put st.S id _).length; rw [A6]; exact hI.le,hI.tk,slot rfl (fun hm=>by simp [Gm,e] at hm)⟩
      ·simp at hs
     ·simp at hs
    ·simp at hs
   ·simp at hs
  | _=>simp at hk
 ·rename_i t e
  simp only [Option.map_eq_some_iff,Prod.mk.injEq] at h
  obtain ⟨cs,_,rfl,rfl⟩:=h
  exact ⟨by show (st.S++_).take m=S0; rw [List.take_append_of_le_length hI.le]; exact hI.S,by show m<=(st.S++_).length; rw [List.length_append]; exact Nat.le_trans hI.le (Nat.le_add_right _ _),hI.tk,slot rfl (fun _=>⟨_,_,_,rfl,hI.le⟩)⟩
 ·rename_i t x e
  simp only [Option.map_eq_some_iff,Prod.mk.injEq] at h
  obtain ⟨cs,_,rfl,rfl⟩:=h
  exact ⟨by show (st.S++_).take m=S0; rw [List.take_append_of_le_length hI.le]; exact hI.S,by show m<=(st.S++_).length; rw [List.length_append]; exact Nat.le_trans hI.le (Nat.le_add_right _ _),hI.tk,slot rfl (fun _=>⟨_,_,_,rfl,hI.le⟩)⟩
 ·rename_i t l c e
  rw [e] at hk
  simp only [Bool.not_eq_true'] at hk
  simp only [Option.map_eq_some_iff,Prod.exists,hk] at h
  obtain ⟨l',sz,cs,_,hh⟩:=h
  rw [if_neg (by simp)] at hh
  simp only [Prod.mk.injEq] at hh
  obtain ⟨rfl,rfl⟩:=hh
  exact ⟨by show (st.S++_).take m=S0; rw [List.take_append_of_le_length hI.le]; exact hI.S,by show m<=(st.S++_).length; rw [List.length_append]; exact Nat.le_trans hI.le (Nat.le_add_right _ _),hI.tk,slot rfl (fun hm=>by simp [Gm,e] at hm)⟩
 ·rename_i c e
  rw [e] at hk
  simp only at hk
  split at h
  ·rename_i hb; rw [hb] at hk; simp at hk
  ·rename_i hb; rw [hb] at hk; simp at hk
  ·simp only [Option.map_eq_some_iff,Prod.mk.injEq] at h; obtain ⟨_,_,rfl,rfl⟩:=h
   exact ⟨hI.S,hI.le,hI.tk,slot rfl (fun hm=>by simp [Gm,e] at hm)⟩
  ·rename_i h1 h2 h3
   exfalso
   cases hc:c.callee with
   | builtin b=>cases b <;> first|exact h1 hc|exact h2 hc|exact h3 _ hc
   | value x=>rw [hc] at hk; simp at hk
   | invoke x m=>rw [hc] at hk; simp at hk
 ·rename_i h1 h2 h3 h4 h5 h6
  simp only [Option.map_eq_some_iff,Prod.mk.injEq] at h; obtain ⟨_,_,rfl,rfl⟩:=h
  refine ⟨hI.S,hI.le,hI.tk,slot rfl (fun hm=>?_)⟩
  unfold Gm at hm
  split at hm
  ·exact absurd (by assumption) (h3 _)
  ·exact absurd (by assumption) (h4 _ _)
  ·simp at hm
theorem Hq [G:Globs] {call:Ak} {allr all:List Oper} {nn m:Nat} {S0:List Ent} {tk0:List Nat} : ∀ {l:List Oper} {st st':St},(∀ o ∈ l,o ∈ all/\L6 all nn o=true)->M3 (fun q=>decide (nn<=q) && Hg all q) m S0 tk0 st->evOs P call allr l st=some st'->M3 (fun q=>decide (nn<=q) && Hg all q) m S0 tk0 st'
 | [],st,st',_,hI,h=>by simp only [evOs,Option.some.injEq] at h; subst h; exact hI
 | o :: l,st,st',hq,hI,h=>by
  simp only [evOs] at h
  split at h
  ·simp at h
  ·refine Hq (fun o ho=>hq o (by simp [ho])) ?_ h
   refine ⟨hI.S,hI.le,hI.tk,fun q p6=>?_⟩
   rcases Rp (T:=st.T) (d:=o.dst) (v:=.prim undef) (q:=q) with e|⟨_,e⟩
   ·simp only [e]; exact hI.own q p6
   ·exact .inr (.inl e)
  ·split at h
   ·rename_i v s1 ho
    split at h
    case isFalse=>simp at h
    obtain ⟨a1,a2⟩:=hq o (by simp)
    exact Hq (fun o ho=>hq o (by simp [ho])) (Aeu a1 a2 hI ho) h
   ·simp at h
theorem Rr {kp:Bool} {A:Nat->Bool} {m:Nat} {S0:List Ent} {tk0:List Nat} {f:St->Option (Ex × St)} (hf:∀ st ex st',M3 A m S0 tk0 st->f st=some (ex,st')->M3 A m S0 tk0 st'):∀ {k:Nat} {st st':St} {ex:Ex},M3 A m S0 tk0 st->He kp f k st=some (ex,st')->M3 A m S0 tk0 st'
 | 0,_,_,_,_,h=>by simp [He] at h
 | k+1,st,st',ex,hI,h=>by
  simp only [He] at h
  split at h
  ·rename_i s1 h1
   have h2:=hf _ _ _ hI h1
   have lx:m<=bif kp then s1.S.length else st.S.length:=by cases kp <;> first|exact hI.le|exact h2.le
   rw [Vf] at h
   generalize (bif kp then s1.S.length else st.S.length)=mm at h lx
   refine Rr (st:={ s1 with S:=s1.S.take mm }) hf ⟨?_,?_,h2.tk,h2.own⟩ h
   ·show (s1.S.take mm).take m=S0
    rw [List.take_take,Nat.min_eq_left lx]; exact h2.S
   ·show m<=(s1.S.take mm).length
    rw [List.length_take]
    exact Nat.le_min.2 ⟨lx,h2.le⟩
  ·exact hf _ _ _ hI h
theorem Zu [Globs] {L:List Oper} {p:Nat} {al o:Oper} {all:List Oper} {nn:Nat} (h:Gl L=some (p,al,o)):¬ ∀ o ∈ L,o ∈ all/\L6 all nn o=true:=by
 intro hq
 unfold Gl at h
 split at h
 ·split at h
  ·rename_i hc
   simp only [Bool.and_eq_true,List.any_eq_true] at hc
   obtain ⟨x,hx,hx2⟩:=hc.2
   have hk:=(hq x (List.dropLast_subset _ hx)).2
   unfold xOp at hx2
   unfold L6 at hk
   split at hx2
   ·rename_i c az
    rw [az] at hk
    simp only at hk
    unfold Uw at hx2
    split at hx2 <;> rename_i ab <;> simp_all
   ·simp at hx2
  ·simp at h
 ·simp at h
theorem B9 [Globs] [Ext P] {call:Ak} {ok:St->List Oper->Bool} {n nn m:Nat} {all:List Oper} {S0:List Ent} {tk0:List Nat} : ∀ (c:Code) (st:St) (ex:Ex) (st':St),(∀ o ∈ opsOf c,o ∈ all/\L6 all nn o=true)->M3 (fun q=>decide (nn<=q) && Hg all q) m S0 tk0 st->evC P call ok n c st=some (ex,st')->M3 (fun q=>decide (nn<=q) && Hg all q) m S0 tk0 st'
 | .skip,st,ex,st',_,hI,h=>by simp only [evC,Option.some.injEq,Prod.mk.injEq] at h; obtain ⟨_,rfl⟩:=h; exact hI
 | .exit _,st,ex,st',_,hI,h=>by simp only [evC,Option.some.injEq,Prod.mk.injEq] at h; obtain ⟨_,rfl⟩:=h; exact hI
 | .ret,st,ex,st',_,hI,h=>by simp only [evC,Option.some.injEq,Prod.mk.injEq] at h; obtain ⟨_,rfl⟩:=h; exact hI
 | .region _ ops draw,st,ex,st',hq,hI,h=>by
  simp only [opsOf] at hq
  simp only [evC] at h
  split at h
  ·split at h
   ·rename_i ini o f7
    obtain ⟨hL,-⟩:=Jn f7
    rw [hL] at hq
    split at h
    ·split at h
     ·rename_i s1 h1
      simp only [Option.map_eq_some_iff,Prod.mk.injEq] at h
      obtain ⟨s2,h2,_,rfl⟩:=h
      exact Hq (fun x hx=>hq x (List.mem_append.2 (.inr hx))) (Hq (G:=gM _) (fun x hx=>hq x (List.mem_append.2 (.inl hx))) hI h1) h2
     ·simp at h
    ·simp at h
   ·split at h
    ·rename_i hlt
     exact absurd hq (Zu hlt)
    ·split at h
     ·simp only [Option.map_eq_some_iff,Prod.mk.injEq] at h
      obtain ⟨s1,h,_,rfl⟩:=h
      exact Hq (G:=gM _) hq hI h
     ·simp at h
  ·simp only [Option.map_eq_some_iff,Prod.mk.injEq] at h
   obtain ⟨s1,h,_,rfl⟩:=h
   exact Hq hq hI h
 | .seq a b,st,ex,st',hq,hI,h=>by
  simp only [opsOf,List.mem_append] at hq
  simp only [evC] at h
  split at h
  ·rename_i s1 h1
   exact B9 b _ _ _ (fun o ho=>hq o (.inr ho)) (B9 a _ _ _ (fun o ho=>hq o (.inl ho)) hI h1) h
  ·exact B9 a _ _ _ (fun o ho=>hq o (.inl ho)) hI h
 | .cond x a b,st,ex,st',hq,hI,h=>by
  simp only [opsOf,List.mem_append] at hq
  simp only [evC] at h
  split at h
  ·split at h
   ·exact B9 a _ _ _ (fun o ho=>hq o (.inl ho)) hI h
   ·exact B9 b _ _ _ (fun o ho=>hq o (.inr ho)) hI h
  ·simp at h
 | .block id c,st,ex,st',hq,hI,h=>by
  simp only [opsOf] at hq
  simp only [evC] at h
  split at h
  ·rename_i id' s1 h1
   have:=B9 c _ _ _ hq hI h1
   split at h
   ·simp only [Option.some.injEq,Prod.mk.injEq] at h; obtain ⟨_,rfl⟩:=h; exact this
   ·simp only [Option.some.injEq,Prod.mk.injEq] at h; obtain ⟨_,rfl⟩:=h; exact this
  ·exact B9 c _ _ _ hq hI h
 | .loop c,st,ex,st',hq,hI,h=>by
  simp only [opsOf] at hq
  simp only [evC] at h
  exact Rr (fun s e s' hs hh=>B9 c s e s' hq hs hh) hI h
 | .rangeFunc _ _ _ _,_,_,_,_,_,h=>by simp [evC] at h
 | .scope c,st,ex,st',hq,hI,h=>by
  simp only [opsOf] at hq
  simp only [evC] at h
  exact B9 c _ _ _ hq hI h
 | .label _,st,ex,st',_,hI,h=>by simp only [evC,Option.some.injEq,Prod.mk.injEq] at h; obtain ⟨_,rfl⟩:=h; exact hI
 | .goto _,_,_,_,_,_,h=>by simp [evC] at h
 | .refuse _,_,_,_,_,_,h=>by simp [evC] at h
theorem Zj {args:List AV} {q n:Nat} (h:args.length<=q):getT (args++List.replicate n .bot) q=.bot:=by
 induction args generalizing q with
 | nil =>
  simp only [List.nil_append]
  induction n generalizing q with
  | zero=>rfl
  | succ n ih=>cases q with
   | zero=>rfl
   | succ q=>exact ih (by simp)
 | cons x args ih=>cases q with
  | zero=>simp at h
  | succ q=>exact ih (by simpa using h)
theorem Lw [Globs] [Ext P] [hX:Qn P] {ok:St->List Oper->Bool} : ∀ k M,@Lh (gM M) (@Bq (gM M) P _ (evF P ok k))
 | 0,M=>by intro f args S tk n r S' tk' n' h; simp [Bq,evF] at h
 | k+1,M=>by
  intro f args S tk n r S' tk' n' h
  by_cases bi:Ext.on P f=true
  ·have e:∀ S tk n,@Bq (gM M) P _ (evF P ok (k+1)) f args S tk n=@Bq (gM M) P _ (extC P) f args S tk n:=by
    intro S tk n; simp only [Bq,T4 bi]
   rw [e] at h
   obtain ⟨g1,g2,g4⟩:=hX.indep M _ _ _ _ _ _ _ _ _ h
   exact .inr ⟨g1,g2,g4.imp _root_.id fun g4=>⟨g4.1,fun S2 tk2 n2=>by rw [e]; exact g4.2 S2 tk2 n2⟩⟩
  by_cases ic:(@xF (gM M) f && @Globs.dr (gM M))=true
  ·exact .inl ic
  right
  unfold Bq at h
  split at h
  ·rename_i hp
   by_cases m3:((args.map w2).all pure2 && !Ext.mv P f)=true
   ·have cz:=m3
    simp only [Bool.and_eq_true,Bool.not_eq_true'] at cz
    obtain ⟨m4,eu⟩:=cz
    simp only [evF] at h
    rw [if_neg bi] at h
    split at h
    ·rename_i fn hf
     split at h
     ·rename_i c hb
      split at h
      ·simp at h
      ·rename_i ao
       simp only [eu,m4,if_true,Bool.false_eq_true,if_false] at h
       split at h
       ·rename_i r' ho
        simp only [Option.some.injEq,Prod.mk.injEq] at h
        obtain ⟨rfl,rfl,rfl,rfl⟩:=h
        refine ⟨rfl,rfl,.inr ⟨rfl,fun S2 tk2 n2=>?_⟩⟩
        unfold Bq
        rw [if_pos hp]
        simp only [evF,hf,hb]
        rw [if_neg bi,if_neg ao,if_neg (by rw [eu]; simp),if_pos m4,ho]
       ·simp at h
     ·simp at h
    ·simp at h
   ·have fb:(@shF (gM M) f && K1 P f args.length && !Ext.mv P f && !Ext.on P f)=true:=by
     cases hx:((args.map w2).all pure2 && !Ext.mv P f) with
     | true=>exact absurd hx m3
     | false=>rw [hx] at hp; simpa [ic] using hp
    simp only [Bool.and_eq_true,Bool.not_eq_true'] at fb
    obtain ⟨⟨⟨h1,h2⟩,eu⟩,-⟩:=fb
    have jl:¬ (args.map w2).all pure2=true:=fun h=>m3 (by simp [h,eu])
    simp only [evF] at h
    rw [if_neg bi] at h
    unfold K1 at h2
    split at h
    ·rename_i fn hf
     rw [hf] at h2
     simp only at h2
     split at h
     ·rename_i c hb
      rw [hb] at h2
      simp only at h2
      split at h
      ·simp at h
      ·simp only [eu,jl,Bool.false_eq_true,if_false] at h
       split at h
       ·rename_i r' st ho
        simp only [Option.some.injEq,Prod.mk.injEq] at h
        obtain ⟨rfl,rfl,rfl,rfl⟩:=h
        have df:∃ ex,evC P (evF P ok k) ok k c ⟨args++List.replicate (fn.ntmps - args.length) .bot,S,tk,n⟩=some (ex,st):=by
         generalize evC P (evF P ok k) ok k c ⟨args++List.replicate (fn.ntmps - args.length) .bot,S,tk,n⟩=o at ho
         unfold outA at ho
         split at ho
         ·simp only [Option.map_eq_some_iff,Prod.mk.injEq] at ho; obtain ⟨_,_,_,rfl⟩:=ho; exact ⟨_,rfl⟩
         ·simp only [Option.map_eq_some_iff,Prod.mk.injEq] at ho; obtain ⟨_,_,_,rfl⟩:=ho; exact ⟨_,rfl⟩
         ·simp at ho
        obtain ⟨ex,mz⟩:=df
        have hK:=B9 (all:=opsOf c) (nn:=args.length) (m:=S.length) (S0:=S) (tk0:=tk) c _ _ _ (fun o ho=>⟨ho,List.all_eq_true.1 h2 o ho⟩)
         ⟨List.take_length,Nat.le_refl _,rfl,fun q hq=>.inl (Zj (by simp only [Bool.and_eq_true,decide_eq_true_eq] at hq; exact hq.1))⟩ mz
        exact ⟨hK.S,hK.tk,.inl h1⟩
       ·simp at h
     ·simp at h
    ·simp at h
  ·simp at h
theorem Rh [Globs] [Ext P] [hX:Qn P] {ok:St->List Oper->Bool} (hd:U0 P ok):∀ k,Ev P (evF P ok k)
 | 0=>by intro f args S tk n r S' tk' n' h; simp [evF] at h
 | k+1=>by
  have hc:=Rh hd k
  intro f args S tk n r S' tk' n' h
  by_cases bi:Ext.on P f=true
  ·rw [T4 bi] at h
   exact hX.ok _ _ _ _ _ _ _ _ _ h
  simp only [evF] at h
  rw [if_neg bi] at h
  split at h
  ·rename_i fn hf
   split at h
   ·rename_i c hb
    split at h
    ·simp at h
    ·rename_i ao
     refine ⟨⟨fn,hf,by simpa using ao,by rw [hb]; rfl⟩,?_⟩
     rintro C vs rfl rfl rfl hs hv
     split at h
     ·split at h
      ·rename_i r' st ho
       simp only [Option.some.injEq,Prod.mk.injEq] at h
       obtain ⟨rfl,rfl,rfl,rfl⟩:=h
       exact Kh hc (Lw k) hd (k:=k) hf hb hs hv ho
      ·simp at h
     split at h
     ·rename_i hp
      split at h
      ·rename_i r' ho
       simp only [Option.some.injEq,Prod.mk.injEq] at h
       obtain ⟨rfl,rfl,rfl,rfl⟩:=h
       have am:Stays C.w C.alone.w C.Avoid C.alone.Avoid:=fun b o v h1 h2=>⟨h1,fun h3=>h3.elim h2 Lo⟩
       have hv':=Jl am hp (U9 hv)
       have one:∀ {as:List AV} {r0:AV},VRs C.alone as vs.toList->runP P ok (evF P ok k) k fn c as=some r0->Calls P f vs C.w fun e w'=>∃ v C',e=.returned v/\C'.w=w'/\Le C C'/\SR C'/\C'.S=C.S/\C'.tk=C.tk/\C'.n=C.n/\VR C' r0 v:=by
        intro as r0 hv' hrun
        unfold runP at hrun
        split at hrun
        ·rename_i r' st ho
         split at hrun
         ·rename_i hp3
          simp only [Option.some.injEq] at hrun
          subst hrun
          refine Calls.mono (Kh hc (Lw k) hd (k:=k) hf hb hs.alone hv' ho) ?_
          rintro e w' ⟨v,C',rfl,rfl,hle,j2,p7,-,-,h2⟩
          have hbel:Below C.w.heap.size C.w C'.w:=⟨hle.os,hle.tape,hle.output,hle.size,fun b hb=>hle.keep b hb fun o=>Lo⟩
          refine ⟨v,C.at C'.w,rfl,rfl,Le.of_below hbel,SR.of_below hs hbel,rfl,rfl,rfl,?_⟩
          have h3:=Ro j2 0 h2
          rw [p7] at h3
          refine Xm (C:={ C' with S:=st.S.take 0 }) (fun b o x h1 h2=>⟨h1,fun h3=>h2 (.inl ?_)⟩) hp3 (VR_w3 h3)
          show C'.av b o
          rw [hle.av]; exact h3
         ·simp at hrun
        ·simp at hrun
       split at ho
       ·unfold runN at ho
        split at ho
        ·rename_i l hl
         split at ho
         ·rename_i q1 q2
          simp only [Option.some.injEq] at ho
          subst ho
          rw [hl] at hv'
          cases jz:vs.toList with
          | nil=>rw [jz] at hv'; simp only [VRs] at hv'
          | cons x xs =>
           rw [jz] at hv'
           simp only [VRs] at hv'
           obtain ⟨hx,ip⟩:=hv'
           simp only [VR] at hx
           obtain ⟨a,len,cap,rfl,h1,h2,-,h4⟩:=hx
           cases a with
           | none=>exact one (as:=.frz [] .nl :: l) (by rw [jz]; simp only [VRs,VR]; exact ⟨⟨none,len,cap,rfl,h1,h2,rfl,.inl trivial⟩,ip⟩) q1
           | some a=>exact one (as:=.frz [] .nn :: l) (by rw [jz]; simp only [VRs,VR]; exact ⟨⟨some a,len,cap,rfl,h1,h2,rfl,.inl trivial⟩,ip⟩) q2
         ·simp at ho
        ·exact one hv' ho
       ·exact one hv' ho
      ·simp at h
     ·split at h
      ·rename_i r' st ho
       simp only [Option.some.injEq,Prod.mk.injEq] at h
       obtain ⟨rfl,rfl,rfl,rfl⟩:=h
       refine Calls.mono (Kh hc (Lw k) hd (k:=k) hf hb hs hv ho) ?_
       rintro e w' ⟨v,C',rfl,rfl,hle,j2,e1,e2,e3,h2⟩
       have h3:=Ro j2 C.S.length h2
       rw [e1] at h3
       exact ⟨v,{ C' with S:=C'.S.take C.S.length },rfl,rfl,hle.trans (Le.take _),j2.take _,by rw [<- e1],e2,e3,by rw [e1]; exact h3⟩
      ·simp at h
   ·simp at h
  ·simp at h
end
end
end Go.Proofs.YthelkgdmgihhiaaGreatDoor
